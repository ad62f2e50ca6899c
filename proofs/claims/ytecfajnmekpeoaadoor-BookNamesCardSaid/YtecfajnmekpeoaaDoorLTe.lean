/-
  Contract of souklaw16.BookTells: true, in every world. Conditions: the list reads as one; the table 'prices' holds its two functions (PrW).
-/
import Derived.Test.YtecfajnmekpeoaaDoorSpo
import Derived.Test.YtecfajnmekpeoaaDoorLCr
namespace Go.Proofs.YtecfajnmekpeoaaDoor
open Go.RowKit

theorem list_o (a : Option Addr) (cap n ln : Nat) (xs L : List Ord) (inst side : Int) (w : World) (hn : n = xs.length) (hL : L = listOf xs inst side) (hln : ln = L.length) (hs : SlO w a cap xs) (hp : PrW w) (hlen : n ≤ 1000000) :
    Calls Tryd.prog 23 #[.slice a n cap, .int .i64 inst, .int .u8 side] w fun e w' => ∃ a' c', e = .returned (.slice a' ln c') ∧ Below w.heap.size w w' ∧ OwnO w.heap.size w' (.slice a' ln c') L := by
  subst hn; subst hL; subst hln
  exact (list_c a cap xs inst side w hs hp hlen).mono fun _ _ ⟨r, he, hb, ho⟩ => by
    obtain ⟨a', c', e1, _, _⟩ := Own.slR encO_len ho
    subst e1
    exact ⟨a', c', he, hb, ho⟩
theorem rList_o (a : Option Addr) (cap n ln : Nat) (xs L : List Ord) (inst side : Int) (w : World) (hn : n = xs.length) (hL : L = listOf xs inst side) (hln : ln = L.length) (hs : SlO w a cap xs) :
    Calls Tryd.prog 25 #[.slice a n cap, .int .i64 inst, .int .u8 side] w fun e w' => ∃ a' c', e = .returned (.slice a' ln c') ∧ Below w.heap.size w w' ∧ SlO w' a' c' L := by
  subst hn; subst hL; subst hln
  exact rList_r a cap xs inst side w hs
theorem rSame_n {a b : Option Addr} {ca cb n : Nat} {xs : List Ord} {w : World} (hn : n = xs.length) (ha : SlO w a ca xs) (hb : SlO w b cb xs) : Calls Tryd.prog 24 #[.slice a n ca, .slice b n cb] w fun e w' => e = .returned (.bool true) ∧ Below w.heap.size w w' := by
  subst hn
  exact (refSame_c a b ca cb xs xs w ha hb).mono fun _ _ ⟨he, hw⟩ => ⟨he.trans (ret_bool (by simp)), hw⟩
theorem own_slO {base n : Nat} {w : World} {a : Option Addr} {c : Nat} {xs : List Ord} (h : OwnO base w (.slice a n c) xs) : SlO w a c xs := by
  obtain ⟨a', c', e1, h2, _⟩ := Own.slR encO_len h
  injection e1 with q1 q2 q3
  subst q1; subst q3; exact h2
theorem first_v {a : Option Addr} {c n : Nat} {xs L : List Ord} {i s : Int} {w : World} {F : Ord} {is : Bool} (hn : n = xs.length) (hL : L = listOf xs i s) (hF : F = L.head?.getD nilO) (hi : is = L.head?.isSome) (hs : SlO w a c xs) (hp : PrW w) (hlen : n ≤ 1000) : Calls Tryd.prog 16 #[.slice a n c, .int .i64 i, .int .u8 s] w fun e w' => e = .returned (.tuple #[(.agg #[.int .i64 F.id, .int .i64 F.acct, .int .i64 F.inst, .int .u8 F.side, .int .i64 F.price, .int .i64 F.left]), .bool is]) ∧ Below w.heap.size w w' := by
  subst hn; subst hF; subst hi; subst hL
  exact first_c a c xs i s w hs hp (by omega)
theorem rFirst_v {a : Option Addr} {c n : Nat} {xs L : List Ord} {i s : Int} {w : World} {F : Ord} {is : Bool} (hn : n = xs.length) (hL : L = listOf xs i s) (hF : F = L.head?.getD nilO) (hi : is = L.head?.isSome) (hs : SlO w a c xs) : Calls Tryd.prog 27 #[.slice a n c, .int .i64 i, .int .u8 s] w fun e w' => e = .returned (.tuple #[(.agg #[.int .i64 F.id, .int .i64 F.acct, .int .i64 F.inst, .int .u8 F.side, .int .i64 F.price, .int .i64 F.left]), .bool is]) ∧ Below w.heap.size w w' := by
  subst hn; subst hF; subst hi; subst hL
  exact rFirst_c a c xs i s w hs
theorem find_v {a : Option Addr} {c n : Nat} {xs : List Ord} {id : Int} {w : World} {F : Ord} {is : Bool} (hn : n = xs.length) (hF : F = (findO xs id).getD nilO) (hi : is = (findO xs id).isSome) (hs : SlO w a c xs) (hlen : n ≤ 1000) : Calls Tryd.prog 28 #[.slice a n c, .int .i64 id] w fun e w' => e = .returned (.tuple #[(.agg #[.int .i64 F.id, .int .i64 F.acct, .int .i64 F.inst, .int .u8 F.side, .int .i64 F.price, .int .i64 F.left]), .bool is]) ∧ Below w.heap.size w w' := by
  subst hn; subst hF; subst hi
  exact find_c a c xs id w hs (by omega)
theorem rFind_v {a : Option Addr} {c n : Nat} {xs : List Ord} {id : Int} {w : World} {F : Ord} {is : Bool} (hn : n = xs.length) (hF : F = (findO xs id).getD nilO) (hi : is = (findO xs id).isSome) (hs : SlO w a c xs) : Calls Tryd.prog 29 #[.slice a n c, .int .i64 id] w fun e w' => e = .returned (.tuple #[(.agg #[.int .i64 F.id, .int .i64 F.acct, .int .i64 F.inst, .int .u8 F.side, .int .i64 F.price, .int .i64 F.left]), .bool is]) ∧ Below w.heap.size w w' := by
  subst hn; subst hF; subst hi
  exact rFind_c a c xs id w hs
/-- a variable that holds an order -/
def BoxAt (w : World) (N : Nat) (o : Ord) : Prop := N < w.heap.size ∧ ∀ i, w.cell? ⟨N, i, none⟩ = #[.int .i64 o.id, .int .i64 o.acct, .int .i64 o.inst, .int .u8 o.side, .int .i64 o.price, .int .i64 o.left][i]?
theorem BoxAt.mono {w w' : World} {N : Nat} {o : Ord} (h : BoxAt w N o) (hb : Below w.heap.size w w') : BoxAt w' N o :=
  ⟨Nat.lt_of_lt_of_le h.1 hb.size, fun i => (hb.cell (p := ⟨N, i, none⟩) h.1).trans (h.2 i)⟩
theorem boxO (w : World) (o : Ord) : ∃ X, w.alloc (.cells #[.int .i64 o.id, .int .i64 o.acct, .int .i64 o.inst, .int .u8 o.side, .int .i64 o.price, .int .i64 o.left] 23) = X ∧ Below w.heap.size w X ∧ BoxAt X w.heap.size o :=
  ⟨_, rfl, below_alloc _ _, by simp, fun i => by simp⟩
set_option maxRecDepth 100000 in
set_option maxHeartbeats 4000000 in
theorem lawTe_big (la : Option Addr) (lc n : Nat) (a b : Ord) (i s id : Int) (w : World) (hp : PrW w) (hn : decide (200 < (n : Int)) = true) :
    Calls Tryd.prog 6 #[.slice la n lc, (.agg #[.int .i64 a.id, .int .i64 a.acct, .int .i64 a.inst, .int .u8 a.side, .int .i64 a.price, .int .i64 a.left]), (.agg #[.int .i64 b.id, .int .i64 b.acct, .int .i64 b.inst, .int .u8 b.side, .int .i64 b.price, .int .i64 b.left]), .int .i64 i, .int .u8 s, .int .i64 id] w fun e w' => e = .returned (.bool true) ∧ Below w.heap.size w w' := by
  obtain ⟨W, hW, hWb, hWs, hA, hB⟩ := box2 w #[.int .i64 a.id, .int .i64 a.acct, .int .i64 a.inst, .int .u8 a.side, .int .i64 a.price, .int .i64 a.left] #[.int .i64 b.id, .int .i64 b.acct, .int .i64 b.inst, .int .u8 b.side, .int .i64 b.price, .int .i64 b.left] 23 23
  have HWb := Lib.hid hWb; clear hWb
  have HG := Lib.hid (GrS.refl W)
  have HP := Lib.hid (hp.mono HWb.out); clear hp
  go_enter Tryd.func6, Tryd.ntmps6
  go_wp2_with (go_at_call 11; (with_reducible refine (works_c _ (HP.out.mono HG.out.1)).mono ?_); rintro e w1 ⟨rfl, hb1⟩; replace HG := Lib.hid (GrS.call HG.out hb1); clear hb1; (try clear hG); have hG := HG.out)
  go_ret
  exact ⟨rfl, grow_trans HWb.out HG.out.1⟩
theorem rCrosses_v (a b : Ord) (r : Bool) (h : crosses a b = r) (w : World) :
    Calls Tryd.prog 22 #[(.agg #[.int .i64 a.id, .int .i64 a.acct, .int .i64 a.inst, .int .u8 a.side, .int .i64 a.price, .int .i64 a.left]), (.agg #[.int .i64 b.id, .int .i64 b.acct, .int .i64 b.inst, .int .u8 b.side, .int .i64 b.price, .int .i64 b.left])] w fun e w' => e = .returned (.bool r) ∧ Below w.heap.size w w' := by
  rw [← h]; exact rCrosses_c a b w
set_option maxRecDepth 100000 in
set_option maxHeartbeats 8000000 in
theorem lawTe_x (la : Option Addr) (lc n ln : Nat) (xs L : List Ord) (a b : Ord) (i s id : Int) (w : World) (HS : Hid (SlO w la lc xs)) (HN : Hid (n = xs.length)) (hp : PrW w) (hn : decide (200 < (n : Int)) = false) (HL : Hid (L = listOf xs i s)) (HLN : Hid (ln = L.length)) (F G : Ord) (is gs : Bool) (HFq : Hid (F = L.head?.getD nilO ∧ is = L.head?.isSome)) (HGq : Hid (G = (findO xs id).getD nilO ∧ gs = (findO xs id).isSome)) (ma m ls cr : Bool) (hma : mayOne a = ma) (hm : mayL xs = m) (hls : less a b = ls) (hcr : crosses a b = cr) :
    Calls Tryd.prog 6 #[.slice la n lc, (.agg #[.int .i64 a.id, .int .i64 a.acct, .int .i64 a.inst, .int .u8 a.side, .int .i64 a.price, .int .i64 a.left]), (.agg #[.int .i64 b.id, .int .i64 b.acct, .int .i64 b.inst, .int .u8 b.side, .int .i64 b.price, .int .i64 b.left]), .int .i64 i, .int .u8 s, .int .i64 id] w fun e w' => e = .returned (.bool true) ∧ Below w.heap.size w w' := by
  have hle : n ≤ 200 := by simp at hn; omega
  have HMm := Lib.hid hm; clear hm
  obtain ⟨W, hW, hWb, hWs, hA, hB⟩ := box2 w #[.int .i64 a.id, .int .i64 a.acct, .int .i64 a.inst, .int .u8 a.side, .int .i64 a.price, .int .i64 a.left] #[.int .i64 b.id, .int .i64 b.acct, .int .i64 b.inst, .int .u8 b.side, .int .i64 b.price, .int .i64 b.left] 23 23
  have HWb := Lib.hid hWb; clear hWb
  have HG := Lib.hid (GrS.refl W)
  have HP := Lib.hid (hp.mono HWb.out); clear hp
  have HSW : Hid (SlO W la lc xs) := Lib.hid (HS.out.mono HWb.out)
  go_enter Tryd.func6, Tryd.ntmps6
  go_wp2_with (first
    | (at_builtin; refine wpList_app (v := .slice (some ⟨_, 0, none⟩) 0 0) (u := .slice la n lc) rfl (.tmp 32) (.tmp 33) 31 rfl rfl rfl (app0 (base := W.heap.size) (ys := xs) _ (Own.emptyAt encO 6 23 W _ _ (Nat.le_refl _) hWs.symm) (sl_alloc' _ HSW.out) HN.out.symm (by first | (simp; done) | (simp; omega)) (by omega)) ?_; rintro vm w1 ⟨hom, hgm⟩; have HOM := Lib.hid hom; have HB1 : Hid (Below W.heap.size W w1) := Lib.hid ((below_alloc W _).grown hgm (by first | (simp; done) | (simp; omega)) (by intro q hq; injection hq with hq; omega)); clear hom hgm; obtain ⟨am, cm, hvm, hsm, hbm⟩ := Own.slR encO_len HOM.out; rw [← HN.out] at hvm; subst hvm; have HSM := Lib.hid hsm; clear hsm hbm HOM; replace HG := Lib.hid (GrS.of HB1.out); have hG := HG.out)
    | (go_at_call 12; (with_reducible refine (holds_c a _).mono ?_); rintro e w2 ⟨rfl, hb1⟩; replace HSM := Lib.hid (HSM.out.mono hb1); replace HG := Lib.hid (GrS.call HG.out hb1); clear hb1; (try clear hG); have hG := HG.out)
    | (go_at_call 18; (with_reducible refine (rHolds_c a _).mono ?_); rintro e w3 ⟨rfl, hb1⟩; replace HSM := Lib.hid (HSM.out.mono hb1); replace HG := Lib.hid (GrS.call HG.out hb1); clear hb1; (try clear hG); have hG := HG.out))
  have HPX : Hid (PrW w3) := Lib.hid (HP.out.mono HG.out.1)
  have HSL : Hid (SlO w3 la lc xs) := Lib.hid (HSW.out.mono HG.out.1)
  have HBW : Hid (Below w.heap.size w w3) := Lib.hid (grow_trans HWb.out HG.out.1)
  have hN1 : w.heap.size < w3.heap.size := by have := HG.out.1.size; omega
  have hN2 : w.heap.size + 1 < w3.heap.size := by have := HG.out.1.size; omega
  replace hA : ∀ i, w3.cell? ⟨w.heap.size, i, none⟩ = #[.int .i64 a.id, .int .i64 a.acct, .int .i64 a.inst, .int .u8 a.side, .int .i64 a.price, .int .i64 a.left][i]? := fun i => by rw [HG.out.2 _ _ (by omega)]; exact hA i
  replace hB : ∀ i, w3.cell? ⟨w.heap.size + 1, i, none⟩ = #[.int .i64 b.id, .int .i64 b.acct, .int .i64 b.inst, .int .u8 b.side, .int .i64 b.price, .int .i64 b.left][i]? := fun i => by rw [HG.out.2 _ _ (by omega)]; exact hB i
  clear hW hWs HB1 HSW HP HWb HG HS hG
  have HG := Lib.hid (GrS.refl w3)
  have HM1 : Hid (∀ w2, Below w3.heap.size w3 w2 → Calls Tryd.prog 17 #[.slice am n cm] w2 fun e w' => e = .returned (.bool m) ∧ Below w2.heap.size w2 w') := Lib.hid (fun w2 hb => by rw [HN.out, ← HMm.out]; exact may_c am cm xs w2 (HSM.out.mono hb))
  have HM2 : Hid (∀ w2, Below w3.heap.size w3 w2 → Calls Tryd.prog 20 #[.slice la n lc] w2 fun e w' => e = .returned (.bool m) ∧ Below w2.heap.size w2 w') := Lib.hid (fun w2 hb => by rw [HN.out, ← HMm.out]; exact rMay_c la lc xs w2 (HSL.out.mono hb))
  refine wp_region_held_drew (S := fun w' => GrS w3 w') (by kernel_rfl) ?_ (fun hHeld => ?_)
  · exact GrS.start HG.out.1
  refine hx_take 0 (some 45) ?_ (by kernel_rfl) (by kernel_rfl) (by kernel_rfl) (by kernel_rfl) (by kernel_rfl) (fun _ _ _ h => h) (by assumption) (fun o ho w hSw => ?_) ?_
  rotate_left
  · replace ho := Option.some.inj ho
    conv at ho => lhs; whnf
    subst ho
    (try dsimp only at hSw)
    go_simp
    (try rfl)
  (try simp only [Act.put, List.setIfInBounds_toArray, List.set_cons_zero, List.set_cons_succ])
  refine hx_take 2 (some 47) ?_ (by kernel_rfl) (by kernel_rfl) (by kernel_rfl) (by kernel_rfl) (by kernel_rfl) (fun _ _ _ h => h) (by assumption) (fun o ho w hSw => ?_) ?_
  rotate_left
  · replace ho := Option.some.inj ho
    conv at ho => lhs; whnf
    subst ho
    (try dsimp only at hSw)
    go_simp
    (try rfl)
  (try simp only [Act.put, List.setIfInBounds_toArray, List.set_cons_zero, List.set_cons_succ])
  refine hx_act 1 (some 46) (by kernel_rfl) (by kernel_rfl) (by kernel_rfl) (fun K hK o ho => ?_)
  replace ho := Option.some.inj ho
  conv at ho => lhs; whnf
  subst ho
  go_simp
  (first
    | (go_at_call 13; (with_reducible refine (mayOne_v a _ hma _).mono ?_); rintro e w4 ⟨rfl, hb1⟩)
    | (go_at_call 19; (with_reducible refine (rMayOne_v a _ hma _).mono ?_); rintro e w4 ⟨rfl, hb1⟩)
    | (go_at_call 17; (with_reducible refine (HM1.out _ (GrS.fin (by assumption))).mono ?_); rintro e w4 ⟨rfl, hb1⟩)
    | (go_at_call 20; (with_reducible refine (HM2.out _ (GrS.fin (by assumption))).mono ?_); rintro e w4 ⟨rfl, hb1⟩)
    | (go_at_call 14; (with_reducible refine (less_v a b _ hls _ (HPX.out.mono (GrS.fin (by assumption)))).mono ?_); rintro e w4 ⟨rfl, hb1⟩)
    | (go_at_call 21; (with_reducible refine (rLess_v a b _ hls _).mono ?_); rintro e w4 ⟨rfl, hb1⟩)
    | (go_at_call 15; (with_reducible refine (crosses_v a b _ hcr _ (HPX.out.mono (GrS.fin (by assumption)))).mono ?_); rintro e w4 ⟨rfl, hb1⟩)
    | (go_at_call 22; (with_reducible refine (rCrosses_v a b _ hcr _).mono ?_); rintro e w4 ⟨rfl, hb1⟩))
  first | (refine hK _ _ ?_ (fun hHeld => ?_)) | (go_wp2_with fail; refine hK _ _ ?_ (fun hHeld => ?_))
  · exact GrS.call (by assumption) hb1
  clear hK K
  (try simp only [Act.put, List.setIfInBounds_toArray, List.set_cons_zero, List.set_cons_succ])
  refine hx_act 3 (some 48) (by kernel_rfl) (by kernel_rfl) (by kernel_rfl) (fun K hK o ho => ?_)
  replace ho := Option.some.inj ho
  conv at ho => lhs; whnf
  subst ho
  go_simp
  (first
    | (go_at_call 13; (with_reducible refine (mayOne_v a _ hma _).mono ?_); rintro e w4 ⟨rfl, hb1⟩)
    | (go_at_call 19; (with_reducible refine (rMayOne_v a _ hma _).mono ?_); rintro e w4 ⟨rfl, hb1⟩)
    | (go_at_call 17; (with_reducible refine (HM1.out _ (GrS.fin (by assumption))).mono ?_); rintro e w4 ⟨rfl, hb1⟩)
    | (go_at_call 20; (with_reducible refine (HM2.out _ (GrS.fin (by assumption))).mono ?_); rintro e w4 ⟨rfl, hb1⟩)
    | (go_at_call 14; (with_reducible refine (less_v a b _ hls _ (HPX.out.mono (GrS.fin (by assumption)))).mono ?_); rintro e w4 ⟨rfl, hb1⟩)
    | (go_at_call 21; (with_reducible refine (rLess_v a b _ hls _).mono ?_); rintro e w4 ⟨rfl, hb1⟩)
    | (go_at_call 15; (with_reducible refine (crosses_v a b _ hcr _ (HPX.out.mono (GrS.fin (by assumption)))).mono ?_); rintro e w4 ⟨rfl, hb1⟩)
    | (go_at_call 22; (with_reducible refine (rCrosses_v a b _ hcr _).mono ?_); rintro e w4 ⟨rfl, hb1⟩))
  first | (refine hK _ _ ?_ (fun hHeld => ?_)) | (go_wp2_with fail; refine hK _ _ ?_ (fun hHeld => ?_))
  · exact GrS.call (by assumption) hb1
  clear hK K
  (try simp only [Act.put, List.setIfInBounds_toArray, List.set_cons_zero, List.set_cons_succ])
  refine hx_take 4 (some 49) ?_ (by kernel_rfl) (by kernel_rfl) (by kernel_rfl) (by kernel_rfl) (by kernel_rfl) (fun _ _ _ h => h) (by assumption) (fun o ho w hSw => ?_) ?_
  rotate_left
  · replace ho := Option.some.inj ho
    conv at ho => lhs; whnf
    subst ho
    (try dsimp only at hSw)
    go_simp
    (try rfl)
  (try simp only [Act.put, List.setIfInBounds_toArray, List.set_cons_zero, List.set_cons_succ])
  refine hx_take 5 (some 50) ?_ (by kernel_rfl) (by kernel_rfl) (by kernel_rfl) (by kernel_rfl) (by kernel_rfl) (fun _ _ _ h => h) (by assumption) (fun o ho w hSw => ?_) ?_
  rotate_left
  · replace ho := Option.some.inj ho
    conv at ho => lhs; whnf
    subst ho
    (try dsimp only at hSw)
    go_simp
    (try rfl)
  (try simp only [Act.put, List.setIfInBounds_toArray, List.set_cons_zero, List.set_cons_succ])
  refine hx_take 6 (some 51) ?_ (by kernel_rfl) (by kernel_rfl) (by kernel_rfl) (by kernel_rfl) (by kernel_rfl) (fun _ _ _ h => h) (by assumption) (fun o ho w hSw => ?_) ?_
  rotate_left
  · replace ho := Option.some.inj ho
    conv at ho => lhs; whnf
    subst ho
    (try dsimp only at hSw)
    go_simp
    (try rfl)
  (try simp only [Act.put, List.setIfInBounds_toArray, List.set_cons_zero, List.set_cons_succ])
  refine hx_take 8 (some 53) ?_ (by kernel_rfl) (by kernel_rfl) (by kernel_rfl) (by kernel_rfl) (by kernel_rfl) (fun _ _ _ h => h) (by assumption) (fun o ho w hSw => ?_) ?_
  rotate_left
  · replace ho := Option.some.inj ho
    conv at ho => lhs; whnf
    subst ho
    (try dsimp only at hSw)
    go_simp
    (try rfl)
  (try simp only [Act.put, List.setIfInBounds_toArray, List.set_cons_zero, List.set_cons_succ])
  refine hx_act 7 (some 52) (by kernel_rfl) (by kernel_rfl) (by kernel_rfl) (fun K hK o ho => ?_)
  replace ho := Option.some.inj ho
  conv at ho => lhs; whnf
  subst ho
  go_simp
  (first
    | (go_at_call 13; (with_reducible refine (mayOne_v a _ hma _).mono ?_); rintro e w4 ⟨rfl, hb1⟩)
    | (go_at_call 19; (with_reducible refine (rMayOne_v a _ hma _).mono ?_); rintro e w4 ⟨rfl, hb1⟩)
    | (go_at_call 17; (with_reducible refine (HM1.out _ (GrS.fin (by assumption))).mono ?_); rintro e w4 ⟨rfl, hb1⟩)
    | (go_at_call 20; (with_reducible refine (HM2.out _ (GrS.fin (by assumption))).mono ?_); rintro e w4 ⟨rfl, hb1⟩)
    | (go_at_call 14; (with_reducible refine (less_v a b _ hls _ (HPX.out.mono (GrS.fin (by assumption)))).mono ?_); rintro e w4 ⟨rfl, hb1⟩)
    | (go_at_call 21; (with_reducible refine (rLess_v a b _ hls _).mono ?_); rintro e w4 ⟨rfl, hb1⟩)
    | (go_at_call 15; (with_reducible refine (crosses_v a b _ hcr _ (HPX.out.mono (GrS.fin (by assumption)))).mono ?_); rintro e w4 ⟨rfl, hb1⟩)
    | (go_at_call 22; (with_reducible refine (rCrosses_v a b _ hcr _).mono ?_); rintro e w4 ⟨rfl, hb1⟩))
  first | (refine hK _ _ ?_ (fun hHeld => ?_)) | (go_wp2_with fail; refine hK _ _ ?_ (fun hHeld => ?_))
  · exact GrS.call (by assumption) hb1
  clear hK K
  (try simp only [Act.put, List.setIfInBounds_toArray, List.set_cons_zero, List.set_cons_succ])
  refine hx_act 9 (some 54) (by kernel_rfl) (by kernel_rfl) (by kernel_rfl) (fun K hK o ho => ?_)
  replace ho := Option.some.inj ho
  conv at ho => lhs; whnf
  subst ho
  go_simp
  (first
    | (go_at_call 13; (with_reducible refine (mayOne_v a _ hma _).mono ?_); rintro e w4 ⟨rfl, hb1⟩)
    | (go_at_call 19; (with_reducible refine (rMayOne_v a _ hma _).mono ?_); rintro e w4 ⟨rfl, hb1⟩)
    | (go_at_call 17; (with_reducible refine (HM1.out _ (GrS.fin (by assumption))).mono ?_); rintro e w4 ⟨rfl, hb1⟩)
    | (go_at_call 20; (with_reducible refine (HM2.out _ (GrS.fin (by assumption))).mono ?_); rintro e w4 ⟨rfl, hb1⟩)
    | (go_at_call 14; (with_reducible refine (less_v a b _ hls _ (HPX.out.mono (GrS.fin (by assumption)))).mono ?_); rintro e w4 ⟨rfl, hb1⟩)
    | (go_at_call 21; (with_reducible refine (rLess_v a b _ hls _).mono ?_); rintro e w4 ⟨rfl, hb1⟩)
    | (go_at_call 15; (with_reducible refine (crosses_v a b _ hcr _ (HPX.out.mono (GrS.fin (by assumption)))).mono ?_); rintro e w4 ⟨rfl, hb1⟩)
    | (go_at_call 22; (with_reducible refine (rCrosses_v a b _ hcr _).mono ?_); rintro e w4 ⟨rfl, hb1⟩))
  first | (refine hK _ _ ?_ (fun hHeld => ?_)) | (go_wp2_with fail; refine hK _ _ ?_ (fun hHeld => ?_))
  · exact GrS.call (by assumption) hb1
  clear hK K
  (try simp only [Act.put, List.setIfInBounds_toArray, List.set_cons_zero, List.set_cons_succ])
  refine hx_take 10 (some 55) ?_ (by kernel_rfl) (by kernel_rfl) (by kernel_rfl) (by kernel_rfl) (by kernel_rfl) (fun _ _ _ h => h) (by assumption) (fun o ho w hSw => ?_) ?_
  rotate_left
  · replace ho := Option.some.inj ho
    conv at ho => lhs; whnf
    subst ho
    (try dsimp only at hSw)
    go_simp
    (try rfl)
  (try simp only [Act.put, List.setIfInBounds_toArray, List.set_cons_zero, List.set_cons_succ])
  refine hx_take 11 (some 56) ?_ (by kernel_rfl) (by kernel_rfl) (by kernel_rfl) (by kernel_rfl) (by kernel_rfl) (fun _ _ _ h => h) (by assumption) (fun o ho w hSw => ?_) ?_
  rotate_left
  · replace ho := Option.some.inj ho
    conv at ho => lhs; whnf
    subst ho
    (try dsimp only at hSw)
    go_simp
    (try rfl)
  (try simp only [Act.put, List.setIfInBounds_toArray, List.set_cons_zero, List.set_cons_succ])
  refine hx_take 12 (some 57) ?_ (by kernel_rfl) (by kernel_rfl) (by kernel_rfl) (by kernel_rfl) (by kernel_rfl) (fun _ _ _ h => h) (by assumption) (fun o ho w hSw => ?_) ?_
  rotate_left
  · replace ho := Option.some.inj ho
    conv at ho => lhs; whnf
    subst ho
    (try dsimp only at hSw)
    go_simp
    (try rfl)
  (try simp only [Act.put, List.setIfInBounds_toArray, List.set_cons_zero, List.set_cons_succ])
  refine hx_take 13 (some 58) ?_ (by kernel_rfl) (by kernel_rfl) (by kernel_rfl) (by kernel_rfl) (by kernel_rfl) (fun _ _ _ h => h) (by assumption) (fun o ho w hSw => ?_) ?_
  rotate_left
  · replace ho := Option.some.inj ho
    conv at ho => lhs; whnf
    subst ho
    (try dsimp only at hSw)
    go_simp
    (try rfl)
  (try simp only [Act.put, List.setIfInBounds_toArray, List.set_cons_zero, List.set_cons_succ])
  refine hx_take 14 (some 59) ?_ (by kernel_rfl) (by kernel_rfl) (by kernel_rfl) (by kernel_rfl) (by kernel_rfl) (fun _ _ _ h => h) (by assumption) (fun o ho w hSw => ?_) ?_
  rotate_left
  · replace ho := Option.some.inj ho
    conv at ho => lhs; whnf
    subst ho
    (try dsimp only at hSw)
    go_simp
    (try rfl)
  (try simp only [Act.put, List.setIfInBounds_toArray, List.set_cons_zero, List.set_cons_succ])
  refine hx_take 16 (some 61) ?_ (by kernel_rfl) (by kernel_rfl) (by kernel_rfl) (by kernel_rfl) (by kernel_rfl) (fun _ _ _ h => h) (by assumption) (fun o ho w hSw => ?_) ?_
  rotate_left
  · replace ho := Option.some.inj ho
    conv at ho => lhs; whnf
    subst ho
    (try dsimp only at hSw)
    go_simp
    (try rfl)
  (try simp only [Act.put, List.setIfInBounds_toArray, List.set_cons_zero, List.set_cons_succ])
  refine hx_take 17 (some 62) ?_ (by kernel_rfl) (by kernel_rfl) (by kernel_rfl) (by kernel_rfl) (by kernel_rfl) (fun _ _ _ h => h) (by assumption) (fun o ho w hSw => ?_) ?_
  rotate_left
  · replace ho := Option.some.inj ho
    conv at ho => lhs; whnf
    subst ho
    (try dsimp only at hSw)
    go_simp
    (try rfl)
  (try simp only [Act.put, List.setIfInBounds_toArray, List.set_cons_zero, List.set_cons_succ])
  refine hx_act 15 (some 60) (by kernel_rfl) (by kernel_rfl) (by kernel_rfl) (fun K hK o ho => ?_)
  replace ho := Option.some.inj ho
  conv at ho => lhs; whnf
  subst ho
  go_simp
  (first
    | (go_at_call 13; (with_reducible refine (mayOne_v a _ hma _).mono ?_); rintro e w4 ⟨rfl, hb1⟩)
    | (go_at_call 19; (with_reducible refine (rMayOne_v a _ hma _).mono ?_); rintro e w4 ⟨rfl, hb1⟩)
    | (go_at_call 17; (with_reducible refine (HM1.out _ (GrS.fin (by assumption))).mono ?_); rintro e w4 ⟨rfl, hb1⟩)
    | (go_at_call 20; (with_reducible refine (HM2.out _ (GrS.fin (by assumption))).mono ?_); rintro e w4 ⟨rfl, hb1⟩)
    | (go_at_call 14; (with_reducible refine (less_v a b _ hls _ (HPX.out.mono (GrS.fin (by assumption)))).mono ?_); rintro e w4 ⟨rfl, hb1⟩)
    | (go_at_call 21; (with_reducible refine (rLess_v a b _ hls _).mono ?_); rintro e w4 ⟨rfl, hb1⟩)
    | (go_at_call 15; (with_reducible refine (crosses_v a b _ hcr _ (HPX.out.mono (GrS.fin (by assumption)))).mono ?_); rintro e w4 ⟨rfl, hb1⟩)
    | (go_at_call 22; (with_reducible refine (rCrosses_v a b _ hcr _).mono ?_); rintro e w4 ⟨rfl, hb1⟩))
  first | (refine hK _ _ ?_ (fun hHeld => ?_)) | (go_wp2_with fail; refine hK _ _ ?_ (fun hHeld => ?_))
  · exact GrS.call (by assumption) hb1
  clear hK K
  (try simp only [Act.put, List.setIfInBounds_toArray, List.set_cons_zero, List.set_cons_succ])
  refine hx_act 18 (some 63) (by kernel_rfl) (by kernel_rfl) (by kernel_rfl) (fun K hK o ho => ?_)
  replace ho := Option.some.inj ho
  conv at ho => lhs; whnf
  subst ho
  go_simp
  (first
    | (go_at_call 13; (with_reducible refine (mayOne_v a _ hma _).mono ?_); rintro e w4 ⟨rfl, hb1⟩)
    | (go_at_call 19; (with_reducible refine (rMayOne_v a _ hma _).mono ?_); rintro e w4 ⟨rfl, hb1⟩)
    | (go_at_call 17; (with_reducible refine (HM1.out _ (GrS.fin (by assumption))).mono ?_); rintro e w4 ⟨rfl, hb1⟩)
    | (go_at_call 20; (with_reducible refine (HM2.out _ (GrS.fin (by assumption))).mono ?_); rintro e w4 ⟨rfl, hb1⟩)
    | (go_at_call 14; (with_reducible refine (less_v a b _ hls _ (HPX.out.mono (GrS.fin (by assumption)))).mono ?_); rintro e w4 ⟨rfl, hb1⟩)
    | (go_at_call 21; (with_reducible refine (rLess_v a b _ hls _).mono ?_); rintro e w4 ⟨rfl, hb1⟩)
    | (go_at_call 15; (with_reducible refine (crosses_v a b _ hcr _ (HPX.out.mono (GrS.fin (by assumption)))).mono ?_); rintro e w4 ⟨rfl, hb1⟩)
    | (go_at_call 22; (with_reducible refine (rCrosses_v a b _ hcr _).mono ?_); rintro e w4 ⟨rfl, hb1⟩))
  first | (refine hK _ _ ?_ (fun hHeld => ?_)) | (go_wp2_with fail; refine hK _ _ ?_ (fun hHeld => ?_))
  · exact GrS.call (by assumption) hb1
  clear hK K
  (try simp only [Act.put, List.setIfInBounds_toArray, List.set_cons_zero, List.set_cons_succ])
  refine hx_take 19 (some 64) ?_ (by kernel_rfl) (by kernel_rfl) (by kernel_rfl) (by kernel_rfl) (by kernel_rfl) (fun _ _ _ h => h) (by assumption) (fun o ho w hSw => ?_) ?_
  rotate_left
  · replace ho := Option.some.inj ho
    conv at ho => lhs; whnf
    subst ho
    (try dsimp only at hSw)
    go_simp
    (try rfl)
  (try simp only [Act.put, List.setIfInBounds_toArray, List.set_cons_zero, List.set_cons_succ])
  refine hx_take 20 (some 65) ?_ (by kernel_rfl) (by kernel_rfl) (by kernel_rfl) (by kernel_rfl) (by kernel_rfl) (fun _ _ _ h => h) (by assumption) (fun o ho w hSw => ?_) ?_
  rotate_left
  · replace ho := Option.some.inj ho
    conv at ho => lhs; whnf
    subst ho
    (try dsimp only at hSw)
    go_simp
    (try rfl)
  (try simp only [Act.put, List.setIfInBounds_toArray, List.set_cons_zero, List.set_cons_succ])
  refine hx_take 21 (some 66) ?_ (by kernel_rfl) (by kernel_rfl) (by kernel_rfl) (by kernel_rfl) (by kernel_rfl) (fun _ _ _ h => h) (by assumption) (fun o ho w hSw => ?_) ?_
  rotate_left
  · replace ho := Option.some.inj ho
    conv at ho => lhs; whnf
    subst ho
    (try dsimp only at hSw)
    go_simp
    (try rfl)
  (try simp only [Act.put, List.setIfInBounds_toArray, List.set_cons_zero, List.set_cons_succ])
  refine hx_take 22 (some 67) ?_ (by kernel_rfl) (by kernel_rfl) (by kernel_rfl) (by kernel_rfl) (by kernel_rfl) (fun _ _ _ h => h) (by assumption) (fun o ho w hSw => ?_) ?_
  rotate_left
  · replace ho := Option.some.inj ho
    conv at ho => lhs; whnf
    subst ho
    (try dsimp only at hSw)
    go_simp
    (try rfl)
  (try simp only [Act.put, List.setIfInBounds_toArray, List.set_cons_zero, List.set_cons_succ])
  refine hx_take 23 (some 68) ?_ (by kernel_rfl) (by kernel_rfl) (by kernel_rfl) (by kernel_rfl) (by kernel_rfl) (fun _ _ _ h => h) (by assumption) (fun o ho w hSw => ?_) ?_
  rotate_left
  · replace ho := Option.some.inj ho
    conv at ho => lhs; whnf
    subst ho
    (try dsimp only at hSw)
    go_simp
    (try rfl)
  (try simp only [Act.put, List.setIfInBounds_toArray, List.set_cons_zero, List.set_cons_succ])
  refine hx_take 25 (some 70) ?_ (by kernel_rfl) (by kernel_rfl) (by kernel_rfl) (by kernel_rfl) (by kernel_rfl) (fun _ _ _ h => h) (by assumption) (fun o ho w hSw => ?_) ?_
  rotate_left
  · replace ho := Option.some.inj ho
    conv at ho => lhs; whnf
    subst ho
    (try dsimp only at hSw)
    go_simp
    (try rfl)
  (try simp only [Act.put, List.setIfInBounds_toArray, List.set_cons_zero, List.set_cons_succ])
  refine hx_take 26 (some 71) ?_ (by kernel_rfl) (by kernel_rfl) (by kernel_rfl) (by kernel_rfl) (by kernel_rfl) (fun _ _ _ h => h) (by assumption) (fun o ho w hSw => ?_) ?_
  rotate_left
  · replace ho := Option.some.inj ho
    conv at ho => lhs; whnf
    subst ho
    (try dsimp only at hSw)
    go_simp
    (try rfl)
  (try simp only [Act.put, List.setIfInBounds_toArray, List.set_cons_zero, List.set_cons_succ])
  refine hx_act 24 (some 69) (by kernel_rfl) (by kernel_rfl) (by kernel_rfl) (fun K hK o ho => ?_)
  replace ho := Option.some.inj ho
  conv at ho => lhs; whnf
  subst ho
  go_simp
  (first
    | (go_at_call 13; (with_reducible refine (mayOne_v a _ hma _).mono ?_); rintro e w4 ⟨rfl, hb1⟩)
    | (go_at_call 19; (with_reducible refine (rMayOne_v a _ hma _).mono ?_); rintro e w4 ⟨rfl, hb1⟩)
    | (go_at_call 17; (with_reducible refine (HM1.out _ (GrS.fin (by assumption))).mono ?_); rintro e w4 ⟨rfl, hb1⟩)
    | (go_at_call 20; (with_reducible refine (HM2.out _ (GrS.fin (by assumption))).mono ?_); rintro e w4 ⟨rfl, hb1⟩)
    | (go_at_call 14; (with_reducible refine (less_v a b _ hls _ (HPX.out.mono (GrS.fin (by assumption)))).mono ?_); rintro e w4 ⟨rfl, hb1⟩)
    | (go_at_call 21; (with_reducible refine (rLess_v a b _ hls _).mono ?_); rintro e w4 ⟨rfl, hb1⟩)
    | (go_at_call 15; (with_reducible refine (crosses_v a b _ hcr _ (HPX.out.mono (GrS.fin (by assumption)))).mono ?_); rintro e w4 ⟨rfl, hb1⟩)
    | (go_at_call 22; (with_reducible refine (rCrosses_v a b _ hcr _).mono ?_); rintro e w4 ⟨rfl, hb1⟩))
  first | (refine hK _ _ ?_ (fun hHeld => ?_)) | (go_wp2_with fail; refine hK _ _ ?_ (fun hHeld => ?_))
  · exact GrS.call (by assumption) hb1
  clear hK K
  (try simp only [Act.put, List.setIfInBounds_toArray, List.set_cons_zero, List.set_cons_succ])
  refine hx_act 27 (some 72) (by kernel_rfl) (by kernel_rfl) (by kernel_rfl) (fun K hK o ho => ?_)
  replace ho := Option.some.inj ho
  conv at ho => lhs; whnf
  subst ho
  go_simp
  (first
    | (go_at_call 13; (with_reducible refine (mayOne_v a _ hma _).mono ?_); rintro e w4 ⟨rfl, hb1⟩)
    | (go_at_call 19; (with_reducible refine (rMayOne_v a _ hma _).mono ?_); rintro e w4 ⟨rfl, hb1⟩)
    | (go_at_call 17; (with_reducible refine (HM1.out _ (GrS.fin (by assumption))).mono ?_); rintro e w4 ⟨rfl, hb1⟩)
    | (go_at_call 20; (with_reducible refine (HM2.out _ (GrS.fin (by assumption))).mono ?_); rintro e w4 ⟨rfl, hb1⟩)
    | (go_at_call 14; (with_reducible refine (less_v a b _ hls _ (HPX.out.mono (GrS.fin (by assumption)))).mono ?_); rintro e w4 ⟨rfl, hb1⟩)
    | (go_at_call 21; (with_reducible refine (rLess_v a b _ hls _).mono ?_); rintro e w4 ⟨rfl, hb1⟩)
    | (go_at_call 15; (with_reducible refine (crosses_v a b _ hcr _ (HPX.out.mono (GrS.fin (by assumption)))).mono ?_); rintro e w4 ⟨rfl, hb1⟩)
    | (go_at_call 22; (with_reducible refine (rCrosses_v a b _ hcr _).mono ?_); rintro e w4 ⟨rfl, hb1⟩))
  first | (refine hK _ _ ?_ (fun hHeld => ?_)) | (go_wp2_with fail; refine hK _ _ ?_ (fun hHeld => ?_))
  · exact GrS.call (by assumption) hb1
  clear hK K
  (try simp only [Act.put, List.setIfInBounds_toArray, List.set_cons_zero, List.set_cons_succ])
  refine hx_take 28 (some 73) ?_ (by kernel_rfl) (by kernel_rfl) (by kernel_rfl) (by kernel_rfl) (by kernel_rfl) (fun _ _ _ h => h) (by assumption) (fun o ho w hSw => ?_) ?_
  rotate_left
  · replace ho := Option.some.inj ho
    conv at ho => lhs; whnf
    subst ho
    (try dsimp only at hSw)
    go_simp
    (try rfl)
  (try simp only [Act.put, List.setIfInBounds_toArray, List.set_cons_zero, List.set_cons_succ])
  refine hx_take 29 (some 74) ?_ (by kernel_rfl) (by kernel_rfl) (by kernel_rfl) (by kernel_rfl) (by kernel_rfl) (fun _ _ _ h => h) (by assumption) (fun o ho w hSw => ?_) ?_
  rotate_left
  · replace ho := Option.some.inj ho
    conv at ho => lhs; whnf
    subst ho
    (try dsimp only at hSw)
    go_simp
    (try rfl)
  (try simp only [Act.put, List.setIfInBounds_toArray, List.set_cons_zero, List.set_cons_succ])
  refine hx_take 30 (some 75) ?_ (by kernel_rfl) (by kernel_rfl) (by kernel_rfl) (by kernel_rfl) (by kernel_rfl) (fun _ _ _ h => h) (by assumption) (fun o ho w hSw => ?_) ?_
  rotate_left
  · replace ho := Option.some.inj ho
    conv at ho => lhs; whnf
    subst ho
    (try dsimp only at hSw)
    go_simp
    (try rfl)
  (try simp only [Act.put, List.setIfInBounds_toArray, List.set_cons_zero, List.set_cons_succ])
  refine hx_take 31 (some 76) ?_ (by kernel_rfl) (by kernel_rfl) (by kernel_rfl) (by kernel_rfl) (by kernel_rfl) (fun _ _ _ h => h) (by assumption) (fun o ho w hSw => ?_) ?_
  rotate_left
  · replace ho := Option.some.inj ho
    conv at ho => lhs; whnf
    subst ho
    (try dsimp only at hSw)
    go_simp
    (try rfl)
  (try simp only [Act.put, List.setIfInBounds_toArray, List.set_cons_zero, List.set_cons_succ])
  refine hx_take 32 (some 77) ?_ (by kernel_rfl) (by kernel_rfl) (by kernel_rfl) (by kernel_rfl) (by kernel_rfl) (fun _ _ _ h => h) (by assumption) (fun o ho w hSw => ?_) ?_
  rotate_left
  · replace ho := Option.some.inj ho
    conv at ho => lhs; whnf
    subst ho
    (try dsimp only at hSw)
    go_simp
    (try rfl)
  (try simp only [Act.put, List.setIfInBounds_toArray, List.set_cons_zero, List.set_cons_succ])
  refine hx_take 33 (some 78) ?_ (by kernel_rfl) (by kernel_rfl) (by kernel_rfl) (by kernel_rfl) (by kernel_rfl) (fun _ _ _ h => h) (by assumption) (fun o ho w hSw => ?_) ?_
  rotate_left
  · replace ho := Option.some.inj ho
    conv at ho => lhs; whnf
    subst ho
    (try dsimp only at hSw)
    go_simp
    (try rfl)
  (try simp only [Act.put, List.setIfInBounds_toArray, List.set_cons_zero, List.set_cons_succ])
  refine hx_take 34 (some 79) ?_ (by kernel_rfl) (by kernel_rfl) (by kernel_rfl) (by kernel_rfl) (by kernel_rfl) (fun _ _ _ h => h) (by assumption) (fun o ho w hSw => ?_) ?_
  rotate_left
  · replace ho := Option.some.inj ho
    conv at ho => lhs; whnf
    subst ho
    (try dsimp only at hSw)
    go_simp
    (try rfl)
  (try simp only [Act.put, List.setIfInBounds_toArray, List.set_cons_zero, List.set_cons_succ])
  refine hx_take 35 (some 80) ?_ (by kernel_rfl) (by kernel_rfl) (by kernel_rfl) (by kernel_rfl) (by kernel_rfl) (fun _ _ _ h => h) (by assumption) (fun o ho w hSw => ?_) ?_
  rotate_left
  · replace ho := Option.some.inj ho
    conv at ho => lhs; whnf
    subst ho
    (try dsimp only at hSw)
    go_simp
    (try rfl)
  (try simp only [Act.put, List.setIfInBounds_toArray, List.set_cons_zero, List.set_cons_succ])
  refine hx_take 36 (some 81) ?_ (by kernel_rfl) (by kernel_rfl) (by kernel_rfl) (by kernel_rfl) (by kernel_rfl) (fun _ _ _ h => h) (by assumption) (fun o ho w hSw => ?_) ?_
  rotate_left
  · replace ho := Option.some.inj ho
    conv at ho => lhs; whnf
    subst ho
    (try dsimp only at hSw)
    go_simp
    (try rfl)
  (try simp only [Act.put, List.setIfInBounds_toArray, List.set_cons_zero, List.set_cons_succ])
  refine hx_take 37 (some 82) ?_ (by kernel_rfl) (by kernel_rfl) (by kernel_rfl) (by kernel_rfl) (by kernel_rfl) (fun _ _ _ h => h) (by assumption) (fun o ho w hSw => ?_) ?_
  rotate_left
  · replace ho := Option.some.inj ho
    conv at ho => lhs; whnf
    subst ho
    (try dsimp only at hSw)
    go_simp
    (try rfl)
  (try simp only [Act.put, List.setIfInBounds_toArray, List.set_cons_zero, List.set_cons_succ])
  refine hx_take 38 (some 83) ?_ (by kernel_rfl) (by kernel_rfl) (by kernel_rfl) (by kernel_rfl) (by kernel_rfl) (fun _ _ _ h => h) (by assumption) (fun o ho w hSw => ?_) ?_
  rotate_left
  · replace ho := Option.some.inj ho
    conv at ho => lhs; whnf
    subst ho
    (try dsimp only at hSw)
    go_simp
    (try rfl)
  (try simp only [Act.put, List.setIfInBounds_toArray, List.set_cons_zero, List.set_cons_succ])
  refine hx_take 39 (some 84) ?_ (by kernel_rfl) (by kernel_rfl) (by kernel_rfl) (by kernel_rfl) (by kernel_rfl) (fun _ _ _ h => h) (by assumption) (fun o ho w hSw => ?_) ?_
  rotate_left
  · replace ho := Option.some.inj ho
    conv at ho => lhs; whnf
    subst ho
    (try dsimp only at hSw)
    go_simp
    (try rfl)
  (try simp only [Act.put, List.setIfInBounds_toArray, List.set_cons_zero, List.set_cons_succ])
  refine wpAnyH_done (by kernel_rfl) ?_ _
  replace HG := Lib.hid (show GrS w3 _ from by assumption)
  go_wp2_with fail
  clear hA hB hN1 hN2 hma hls hcr
  go_loopw [18] (fun i wr => (∃ k : Nat, k ≤ 2 ∧ i = .int .i64 k) ∧ Hid (GrS w3 wr)) (fun i _ => 2 - (intOf i).toNat)
  case atStart => exact ⟨⟨0, Nat.zero_le _, rfl⟩, HG⟩
  case round =>
    clear HG
    obtain ⟨⟨k, hk, rfl⟩, HB⟩ := hrel
    by_cases hlt : k < 2
    · go_wp2_with fail
      refine (list_o am cm n ln xs L i s _ HN.out HL.out HLN.out (HSM.out.mono HB.out.1) (HPX.out.mono HB.out.1) (by omega)).mono ?_
      rintro e w5 ⟨ar, cq, rfl, hb5, ho5⟩
      have HB5 : Hid (Below w3.heap.size w3 w5) := Lib.hid (grow_trans HB.out.1 hb5)
      go_wp2_with fail
      refine (rList_o la lc n ln xs L i s _ HN.out HL.out HLN.out (HSL.out.mono HB5.out)).mono ?_
      rintro e w6 ⟨a6, c6, rfl, hb6, hs6⟩
      have ho6 := ho5.mono hb6
      go_wp2_with fail
      refine (rSame_n HLN.out (own_slO ho6) hs6).mono ?_
      rintro e w7 ⟨rfl, hb7⟩
      have HO7 := Lib.hid (ho6.mono hb7)
      have HB7 : Hid (Below w3.heap.size w3 w7) := Lib.hid (grow_trans HB5.out (grow_trans hb6 hb7))
      have hwr : w3.heap.size ≤ wr.heap.size := HB.out.1.size
      clear ho5 ho6 hb5 hb6 hb7 hs6
      go_wp2_with fail
      refine (spoil_c w7 HO7.out rfl HLN.out).mono ?_
      rintro e w8 ⟨rfl, hg8⟩
      have HB8 : Hid (GrS w3 w8) := Lib.hid (GrS.of (Below.grown HB7.out hg8 HB7.out.size (fun q hq => Nat.le_trans hwr (Own.lt HO7.out q hq).1)))
      clear hg8
      go_wp2
      go_roundw
      case rel => exact ⟨⟨k + 1, by omega, by go_num⟩, HB8⟩
      case measure => simp [intOf]; omega
    · have HSM1 := Lib.hid (HSM.out.mono HB.out.1)
      have HSL1 := Lib.hid (HSL.out.mono HB.out.1)
      have HP1 := Lib.hid (HPX.out.mono HB.out.1)
      have HW1 : Hid (Below w.heap.size w wr) := Lib.hid (grow_trans HBW.out HB.out.1)
      clear HSM HSL HPX HBW HB HM1 HM2
      have he1 := eqlO_self F
      have hg1 := guardE F F
      have he2 := eqlO_self G
      have hg2 := guardE G G
      go_wp2_with fail
      refine (first_v HN.out HL.out HFq.out.1 HFq.out.2 HSM1.out HP1.out (by omega)).mono ?_
      rintro e w5 ⟨rfl, hb1⟩
      replace HSM1 := Lib.hid (HSM1.out.mono hb1)
      replace HSL1 := Lib.hid (HSL1.out.mono hb1)
      replace HP1 := Lib.hid (HP1.out.mono hb1)
      replace HW1 := Lib.hid (grow_trans HW1.out hb1)
      go_wp2_with fail
      obtain ⟨X, hX, hb1, hbx⟩ := boxO w5 F
      rw [hX]
      have HX1 := Lib.hid hbx
      clear hX hbx
      replace HSM1 := Lib.hid (HSM1.out.mono hb1)
      replace HSL1 := Lib.hid (HSL1.out.mono hb1)
      replace HP1 := Lib.hid (HP1.out.mono hb1)
      replace HW1 := Lib.hid (grow_trans HW1.out hb1)
      generalize w5.heap.size = N1 at *
      refine (rFirst_v HN.out HL.out HFq.out.1 HFq.out.2 HSL1.out).mono ?_
      rintro e w6 ⟨rfl, hb1⟩
      replace HSM1 := Lib.hid (HSM1.out.mono hb1)
      replace HSL1 := Lib.hid (HSL1.out.mono hb1)
      replace HP1 := Lib.hid (HP1.out.mono hb1)
      replace HX1 := Lib.hid (HX1.out.mono hb1)
      replace HW1 := Lib.hid (grow_trans HW1.out hb1)
      go_wp2_with fail
      obtain ⟨X, hX, hb1, hbx⟩ := boxO w6 F
      rw [hX]
      have HX2 := Lib.hid hbx
      clear hX hbx
      replace HSM1 := Lib.hid (HSM1.out.mono hb1)
      replace HSL1 := Lib.hid (HSL1.out.mono hb1)
      replace HP1 := Lib.hid (HP1.out.mono hb1)
      replace HX1 := Lib.hid (HX1.out.mono hb1)
      replace HW1 := Lib.hid (grow_trans HW1.out hb1)
      generalize w6.heap.size = N2 at *
      refine (find_v HN.out HGq.out.1 HGq.out.2 HSM1.out (by omega)).mono ?_
      rintro e w7 ⟨rfl, hb1⟩
      replace HSM1 := Lib.hid (HSM1.out.mono hb1)
      replace HSL1 := Lib.hid (HSL1.out.mono hb1)
      replace HP1 := Lib.hid (HP1.out.mono hb1)
      replace HX1 := Lib.hid (HX1.out.mono hb1)
      replace HX2 := Lib.hid (HX2.out.mono hb1)
      replace HW1 := Lib.hid (grow_trans HW1.out hb1)
      go_wp2_with fail
      obtain ⟨X, hX, hb1, hbx⟩ := boxO w7 G
      rw [hX]
      have HX3 := Lib.hid hbx
      clear hX hbx
      replace HSM1 := Lib.hid (HSM1.out.mono hb1)
      replace HSL1 := Lib.hid (HSL1.out.mono hb1)
      replace HP1 := Lib.hid (HP1.out.mono hb1)
      replace HX1 := Lib.hid (HX1.out.mono hb1)
      replace HX2 := Lib.hid (HX2.out.mono hb1)
      replace HW1 := Lib.hid (grow_trans HW1.out hb1)
      generalize w7.heap.size = N3 at *
      refine (rFind_v HN.out HGq.out.1 HGq.out.2 HSL1.out).mono ?_
      rintro e w8 ⟨rfl, hb1⟩
      replace HSM1 := Lib.hid (HSM1.out.mono hb1)
      replace HSL1 := Lib.hid (HSL1.out.mono hb1)
      replace HP1 := Lib.hid (HP1.out.mono hb1)
      replace HX1 := Lib.hid (HX1.out.mono hb1)
      replace HX2 := Lib.hid (HX2.out.mono hb1)
      replace HX3 := Lib.hid (HX3.out.mono hb1)
      replace HW1 := Lib.hid (grow_trans HW1.out hb1)
      have c1 := HX1.out.2
      have c2 := HX2.out.2
      have c3 := HX3.out.2
      have k1 := HX1.out.1
      have k2 := HX2.out.1
      have k3 := HX3.out.1
      clear hb1
      go_wp2_with fail
      refine (rSame_n HN.out (sl_alloc' _ HSM1.out) (sl_alloc' _ HSL1.out)).mono ?_
      rintro e w9 ⟨rfl, hb1⟩
      have HW9 : Hid (Below w.heap.size w w9) := Lib.hid (grow_trans HW1.out (grow_trans (below_alloc _ _) hb1))
      have HP9 : Hid (PrW w9) := Lib.hid (HP1.out.mono (grow_trans (below_alloc _ _) hb1))
      clear hb1 c1 c2 c3 k1 k2 k3
      go_wp2_with fail
      refine (works_c _ HP9.out).mono ?_
      rintro e w10 ⟨rfl, hb1⟩
      go_wp2
      go_ret
      exact ⟨rfl, grow_trans HW9.out hb1⟩
theorem lawTells_c (la : Option Addr) (lc : Nat) (xs : List Ord) (a b : Ord) (i s id : Int) (w : World) (hs : SlO w la lc xs) (hp : PrW w) :
    Calls Tryd.prog 6 #[.slice la xs.length lc, (.agg #[.int .i64 a.id, .int .i64 a.acct, .int .i64 a.inst, .int .u8 a.side, .int .i64 a.price, .int .i64 a.left]), (.agg #[.int .i64 b.id, .int .i64 b.acct, .int .i64 b.inst, .int .u8 b.side, .int .i64 b.price, .int .i64 b.left]), .int .i64 i, .int .u8 s, .int .i64 id] w fun e w' => e = .returned (.bool true) ∧ Below w.heap.size w w' := by
  cases hn : decide (200 < (xs.length : Int)) with
  | true => exact lawTe_big la lc _ a b i s id w hp hn
  | false => exact lawTe_x la lc _ _ xs _ a b i s id w (Lib.hid hs) (Lib.hid rfl) hp hn (Lib.hid rfl) (Lib.hid rfl) _ _ _ _ (Lib.hid ⟨rfl, rfl⟩) (Lib.hid ⟨rfl, rfl⟩) _ _ _ _ rfl rfl rfl rfl
end Go.Proofs.YtecfajnmekpeoaaDoor
