/-
  Contract of souklaw16.BookCrossing: true, in every world. Conditions: the list reads as one; the table 'prices' holds its two functions (PrW).
-/
import Derived.Test.YtecfajnmekpeoaaDoorLRo
import Derived.Test.YtecfajnmekpeoaaDoorHx
import Derived.Test.YtecfajnmekpeoaaDoorBkJ
namespace Go.Proofs.YtecfajnmekpeoaaDoor
open Go.RowKit

theorem crosses_v (a b : Ord) (r : Bool) (h : crosses a b = r) (w : World) (hp : PrW w) :
    Calls Tryd.prog 15 #[(.agg #[.int .i64 a.id, .int .i64 a.acct, .int .i64 a.inst, .int .u8 a.side, .int .i64 a.price, .int .i64 a.left]), (.agg #[.int .i64 b.id, .int .i64 b.acct, .int .i64 b.inst, .int .u8 b.side, .int .i64 b.price, .int .i64 b.left])] w fun e w' => e = .returned (.bool r) ∧ Below w.heap.size w w' := by
  rw [← h]; exact crosses_c a b w hp
theorem crosses_symm (a b : Ord) : crosses a b = crosses b a := by
  rw [Bool.eq_iff_iff, crosses_iff, crosses_iff]
  constructor
  · rintro ⟨h1, h2, h3, h4, h5, h6⟩
    have s1 := side_of h1; have s2 := side_of h2
    exact ⟨h2, h1, h3.symm, fun e => h4 e.symm, fun e => h6 (by omega), fun e => h5 (by omega)⟩
  · rintro ⟨h1, h2, h3, h4, h5, h6⟩
    have s1 := side_of h1; have s2 := side_of h2
    exact ⟨h2, h1, h3.symm, fun e => h4 e.symm, fun e => h6 (by omega), fun e => h5 (by omega)⟩
theorem crosses_less {a b c : Ord} (h : crosses a b = true) (g : less c b = true) : crosses a c = true := by
  obtain ⟨h1, h2, h3, h4, h5, h6⟩ := crosses_iff.1 h
  obtain ⟨g1, g2, g3, g4, g5⟩ := less_iff.1 g
  have s1 := side_of h1; have s2 := side_of h2
  rw [rowLt_iff] at g5
  refine crosses_iff.2 ⟨h1, g1, by omega, by omega, fun e => ?_, fun e => ?_⟩
  · have := h5 e; omega
  · have := h6 e; omega
theorem crosses_first {xs : List Ord} {a x : Ord} (hm : mayL xs = true) (hx : x ∈ xs) (h : crosses a x = true) {s : Int} (hs : s = 3 - a.side) : ∃ f, (listOf xs a.inst s).head? = some f ∧ crosses a f = true := by
  obtain ⟨h1, h2, h3, h4, h5, h6⟩ := crosses_iff.1 h
  have s1 := side_of h1; have s2 := side_of h2
  have hsx : x.side = s := by omega
  have hp := listOf_perm hm a.inst s
  have hmem : x ∈ listOf xs a.inst s := hp.mem_iff.2 (List.mem_filter.2 ⟨hx, by simp [isOf, h3, hsx]⟩)
  have hso := listOf_sorted xs a.inst s
  have hall : ∀ y ∈ listOf xs a.inst s, mayOne y = true ∧ y.inst = a.inst ∧ y.side = s := fun y hy => by
    obtain ⟨g1, g2⟩ := List.mem_filter.1 (hp.mem_iff.1 hy)
    simp [isOf] at g2
    exact ⟨(mayL_iff.1 hm).2.1 y g1, g2⟩
  cases hl : listOf xs a.inst s with
  | nil => rw [hl] at hmem; cases hmem
  | cons f r =>
    rw [hl] at hmem hso hall
    refine ⟨f, rfl, ?_⟩
    obtain ⟨f1, f2, f3⟩ := hall f (by simp)
    rcases List.mem_cons.1 hmem with rfl | hr
    · exact h
    · have := (List.pairwise_cons.1 hso).1 x hr
      rw [ahead_not] at this
      refine crosses_iff.2 ⟨h1, f1, f2.symm, by omega, fun e => ?_, fun e => ?_⟩
      · have := h5 e; omega
      · have := h6 e; omega

set_option maxHeartbeats 4000000 in
theorem lawCr_big (la : Option Addr) (lc n : Nat) (a b c : Ord) (w : World) (hp : PrW w) (hn : decide (200 < (n : Int)) = true) :
    Calls Tryd.prog 5 #[.slice la n lc, (.agg #[.int .i64 a.id, .int .i64 a.acct, .int .i64 a.inst, .int .u8 a.side, .int .i64 a.price, .int .i64 a.left]), (.agg #[.int .i64 b.id, .int .i64 b.acct, .int .i64 b.inst, .int .u8 b.side, .int .i64 b.price, .int .i64 b.left]), (.agg #[.int .i64 c.id, .int .i64 c.acct, .int .i64 c.inst, .int .u8 c.side, .int .i64 c.price, .int .i64 c.left])] w fun e w' => e = .returned (.bool true) ∧ Below w.heap.size w w' := by
  obtain ⟨W, hW, hWb, hWs, hA, hB, hC⟩ := box3 w #[.int .i64 a.id, .int .i64 a.acct, .int .i64 a.inst, .int .u8 a.side, .int .i64 a.price, .int .i64 a.left] #[.int .i64 b.id, .int .i64 b.acct, .int .i64 b.inst, .int .u8 b.side, .int .i64 b.price, .int .i64 b.left] #[.int .i64 c.id, .int .i64 c.acct, .int .i64 c.inst, .int .u8 c.side, .int .i64 c.price, .int .i64 c.left] 23
  have HWb := Lib.hid hWb; clear hWb
  have HG := Lib.hid (GrS.refl W)
  have HP := Lib.hid (hp.mono HWb.out); clear hp
  go_enter Tryd.func5, Tryd.ntmps5
  go_wp2_with (go_at_call 11; (with_reducible refine (works_c _ (HP.out.mono HG.out.1)).mono ?_); rintro e w1 ⟨rfl, hb1⟩; replace HG := Lib.hid (GrS.call HG.out hb1); clear hb1; (try clear hG); have hG := HG.out)
  go_ret
  exact ⟨rfl, grow_trans HWb.out HG.out.1⟩
theorem first_for (la : Option Addr) (lc n : Nat) (xs : List Ord) (a : Ord) (w : World) (HS : Hid (SlO w la lc xs)) (HN : Hid (n = xs.length)) (hlen : n ≤ 1000000) (HP : Hid (PrW w)) (s : Int) :
    ∃ (F : Ord) (is : Bool), Hid (∀ w1, Below w.heap.size w w1 → Calls Tryd.prog 16 #[.slice la n lc, .int .i64 a.inst, .int .u8 s] w1 fun e w' => e = .returned (.tuple #[(.agg #[.int .i64 F.id, .int .i64 F.acct, .int .i64 F.inst, .int .u8 F.side, .int .i64 F.price, .int .i64 F.left]), .bool is]) ∧ Below w1.heap.size w1 w') ∧ Hid (s = 3 - a.side → mayL xs = true → ∀ x ∈ xs, crosses a x = true → is = true ∧ crosses a F = true) := by
  refine ⟨(listOf xs a.inst s).head?.getD nilO, (listOf xs a.inst s).head?.isSome, Lib.hid (fun w1 hb => ?_), Lib.hid (fun hs hm x hx hc => ?_)⟩
  · rw [HN.out] at hlen ⊢
    exact first_c la lc xs a.inst s w1 (HS.out.mono hb) (HP.out.mono hb) hlen
  · obtain ⟨f, hf, hcf⟩ := crosses_first hm hx hc hs
    rw [hf]; exact ⟨rfl, hcf⟩
set_option maxHeartbeats 4000000 in
theorem lawCr_x (la : Option Addr) (lc n : Nat) (xs : List Ord) (a b c : Ord) (w : World) (HS : Hid (SlO w la lc xs)) (HN : Hid (n = xs.length)) (hp : PrW w) (hn : decide (200 < (n : Int)) = false)
    (hab : crosses a b = false) (hba : crosses b a = false) :
    Calls Tryd.prog 5 #[.slice la n lc, (.agg #[.int .i64 a.id, .int .i64 a.acct, .int .i64 a.inst, .int .u8 a.side, .int .i64 a.price, .int .i64 a.left]), (.agg #[.int .i64 b.id, .int .i64 b.acct, .int .i64 b.inst, .int .u8 b.side, .int .i64 b.price, .int .i64 b.left]), (.agg #[.int .i64 c.id, .int .i64 c.acct, .int .i64 c.inst, .int .u8 c.side, .int .i64 c.price, .int .i64 c.left])] w fun e w' => e = .returned (.bool true) ∧ Below w.heap.size w w' := by
  have hac : True := trivial
  have hcb : True := trivial
  have hle : n ≤ 200 := by simp at hn; omega
  obtain ⟨W, hW, hWb, hWs, hA, hB, hC⟩ := box3 w #[.int .i64 a.id, .int .i64 a.acct, .int .i64 a.inst, .int .u8 a.side, .int .i64 a.price, .int .i64 a.left] #[.int .i64 b.id, .int .i64 b.acct, .int .i64 b.inst, .int .u8 b.side, .int .i64 b.price, .int .i64 b.left] #[.int .i64 c.id, .int .i64 c.acct, .int .i64 c.inst, .int .u8 c.side, .int .i64 c.price, .int .i64 c.left] 23
  have HWb := Lib.hid hWb; clear hWb
  have HG := Lib.hid (GrS.refl W)
  have HP := Lib.hid (hp.mono HWb.out); clear hp
  have HSW : Hid (SlO W la lc xs) := Lib.hid (HS.out.mono HWb.out)
  obtain ⟨F, is, HF1, HF2⟩ := first_for la lc n xs a W HSW HN (by omega) HP ((3 - min a.side 3) % 256)
  go_enter Tryd.func5, Tryd.ntmps5
  go_wp2_with (first
    | (go_at_call 15; (first | (with_reducible refine (crosses_v a b _ hab _ (HP.out.mono HG.out.1)).mono ?_) | (with_reducible refine (crosses_v b a _ hba _ (HP.out.mono HG.out.1)).mono ?_) | (with_reducible refine (crosses_v a c _ hac _ (HP.out.mono HG.out.1)).mono ?_)); rintro e w1 ⟨rfl, hb1⟩; replace HG := Lib.hid (GrS.call HG.out hb1); clear hb1; (try clear hG); have hG := HG.out)
    | (go_at_call 14; (with_reducible refine (less_v c b _ hcb _ (HP.out.mono HG.out.1)).mono ?_); rintro e w1 ⟨rfl, hb1⟩; replace HG := Lib.hid (GrS.call HG.out hb1); clear hb1; (try clear hG); have hG := HG.out)
    | (go_at_call 11; (with_reducible refine (works_c _ (HP.out.mono HG.out.1)).mono ?_); rintro e w1 ⟨rfl, hb1⟩; replace HG := Lib.hid (GrS.call HG.out hb1); clear hb1; (try clear hG); have hG := HG.out))
  clear hW
  refine wp_region_held_drew (S := fun w' => GrS W w') (by kernel_rfl) ?_ (fun hHeld => ?_)
  · exact GrS.start HG.out.1
  refine hx_take 0 (some 20) ?_ (by kernel_rfl) (by kernel_rfl) (by kernel_rfl) (by kernel_rfl) (by kernel_rfl) (fun _ _ _ h => h) (by assumption) (fun o ho w hSw => ?_) ?_
  rotate_left
  · replace ho := Option.some.inj ho
    conv at ho => lhs; whnf
    subst ho
    (try dsimp only at hSw)
    go_simp
    (try rfl)
  (try simp only [Act.put, List.setIfInBounds_toArray, List.set_cons_zero, List.set_cons_succ])
  refine hx_take 1 (some 21) ?_ (by kernel_rfl) (by kernel_rfl) (by kernel_rfl) (by kernel_rfl) (by kernel_rfl) (fun _ _ _ h => h) (by assumption) (fun o ho w hSw => ?_) ?_
  rotate_left
  · replace ho := Option.some.inj ho
    conv at ho => lhs; whnf
    subst ho
    (try dsimp only at hSw)
    go_simp
    (try rfl)
  (try simp only [Act.put, List.setIfInBounds_toArray, List.set_cons_zero, List.set_cons_succ])
  refine hx_take 3 (some 23) ?_ (by kernel_rfl) (by kernel_rfl) (by kernel_rfl) (by kernel_rfl) (by kernel_rfl) (fun _ _ _ h => h) (by assumption) (fun o ho w hSw => ?_) ?_
  rotate_left
  · replace ho := Option.some.inj ho
    conv at ho => lhs; whnf
    subst ho
    (try dsimp only at hSw)
    go_simp
    (try rfl)
  (try simp only [Act.put, List.setIfInBounds_toArray, List.set_cons_zero, List.set_cons_succ])
  refine hx_take 4 (some 24) ?_ (by kernel_rfl) (by kernel_rfl) (by kernel_rfl) (by kernel_rfl) (by kernel_rfl) (fun _ _ _ h => h) (by assumption) (fun o ho w hSw => ?_) ?_
  rotate_left
  · replace ho := Option.some.inj ho
    conv at ho => lhs; whnf
    subst ho
    (try dsimp only at hSw)
    go_simp
    (try rfl)
  (try simp only [Act.put, List.setIfInBounds_toArray, List.set_cons_zero, List.set_cons_succ])
  refine hx_act 2 (some 22) (by kernel_rfl) (by kernel_rfl) (by kernel_rfl) (fun K hK o ho => ?_)
  replace ho := Option.some.inj ho
  conv at ho => lhs; whnf
  subst ho
  go_simp
  (first
    | (go_at_call 15; (first | (with_reducible refine (crosses_v a b _ hab _ (HP.out.mono (GrS.fin (by assumption)))).mono ?_) | (with_reducible refine (crosses_v b a _ hba _ (HP.out.mono (GrS.fin (by assumption)))).mono ?_) | (with_reducible refine (crosses_v a c _ hac _ (HP.out.mono (GrS.fin (by assumption)))).mono ?_)); rintro e w1 ⟨rfl, hb1⟩; skip)
    | (go_at_call 14; (with_reducible refine (less_v c b _ hcb _ (HP.out.mono (GrS.fin (by assumption)))).mono ?_); rintro e w1 ⟨rfl, hb1⟩; skip)
    | (go_at_call 11; (with_reducible refine (works_c _ (HP.out.mono (GrS.fin (by assumption)))).mono ?_); rintro e w1 ⟨rfl, hb1⟩; skip))
  first | (refine hK _ _ ?_ (fun hHeld => ?_)) | (go_wp2_with fail; refine hK _ _ ?_ (fun hHeld => ?_))
  · exact GrS.call (by assumption) hb1
  clear hK K
  (try simp only [Act.put, List.setIfInBounds_toArray, List.set_cons_zero, List.set_cons_succ])
  refine hx_act 5 (some 25) (by kernel_rfl) (by kernel_rfl) (by kernel_rfl) (fun K hK o ho => ?_)
  replace ho := Option.some.inj ho
  conv at ho => lhs; whnf
  subst ho
  go_simp
  (first
    | (go_at_call 15; (first | (with_reducible refine (crosses_v a b _ hab _ (HP.out.mono (GrS.fin (by assumption)))).mono ?_) | (with_reducible refine (crosses_v b a _ hba _ (HP.out.mono (GrS.fin (by assumption)))).mono ?_) | (with_reducible refine (crosses_v a c _ hac _ (HP.out.mono (GrS.fin (by assumption)))).mono ?_)); rintro e w1 ⟨rfl, hb1⟩; skip)
    | (go_at_call 14; (with_reducible refine (less_v c b _ hcb _ (HP.out.mono (GrS.fin (by assumption)))).mono ?_); rintro e w1 ⟨rfl, hb1⟩; skip)
    | (go_at_call 11; (with_reducible refine (works_c _ (HP.out.mono (GrS.fin (by assumption)))).mono ?_); rintro e w1 ⟨rfl, hb1⟩; skip))
  first | (refine hK _ _ ?_ (fun hHeld => ?_)) | (go_wp2_with fail; refine hK _ _ ?_ (fun hHeld => ?_))
  · exact GrS.call (by assumption) hb1
  clear hK K
  (try simp only [Act.put, List.setIfInBounds_toArray, List.set_cons_zero, List.set_cons_succ])
  refine hx_take 6 (some 26) ?_ (by kernel_rfl) (by kernel_rfl) (by kernel_rfl) (by kernel_rfl) (by kernel_rfl) (fun _ _ _ h => h) (by assumption) (fun o ho w hSw => ?_) ?_
  rotate_left
  · replace ho := Option.some.inj ho
    conv at ho => lhs; whnf
    subst ho
    (try dsimp only at hSw)
    go_simp
    (try rfl)
  (try simp only [Act.put, List.setIfInBounds_toArray, List.set_cons_zero, List.set_cons_succ])
  refine hx_take 7 (some 27) ?_ (by kernel_rfl) (by kernel_rfl) (by kernel_rfl) (by kernel_rfl) (by kernel_rfl) (fun _ _ _ h => h) (by assumption) (fun o ho w hSw => ?_) ?_
  rotate_left
  · replace ho := Option.some.inj ho
    conv at ho => lhs; whnf
    subst ho
    (try dsimp only at hSw)
    go_simp
    (try rfl)
  (try simp only [Act.put, List.setIfInBounds_toArray, List.set_cons_zero, List.set_cons_succ])
  refine hx_take 8 (some 28) ?_ (by kernel_rfl) (by kernel_rfl) (by kernel_rfl) (by kernel_rfl) (by kernel_rfl) (fun _ _ _ h => h) (by assumption) (fun o ho w hSw => ?_) ?_
  rotate_left
  · replace ho := Option.some.inj ho
    conv at ho => lhs; whnf
    subst ho
    (try dsimp only at hSw)
    go_simp
    (try rfl)
  (try simp only [Act.put, List.setIfInBounds_toArray, List.set_cons_zero, List.set_cons_succ])
  refine hx_take 9 (some 29) ?_ (by kernel_rfl) (by kernel_rfl) (by kernel_rfl) (by kernel_rfl) (by kernel_rfl) (fun _ _ _ h => h) (by assumption) (fun o ho w hSw => ?_) ?_
  rotate_left
  · replace ho := Option.some.inj ho
    conv at ho => lhs; whnf
    subst ho
    (try dsimp only at hSw)
    go_simp
    (try rfl)
  (try simp only [Act.put, List.setIfInBounds_toArray, List.set_cons_zero, List.set_cons_succ])
  refine hx_act 10 (some 30) (by kernel_rfl) (by kernel_rfl) (by kernel_rfl) (fun K hK o ho => ?_)
  replace ho := Option.some.inj ho
  conv at ho => lhs; whnf
  subst ho
  go_simp
  (first
    | (go_at_call 15; (first | (with_reducible refine (crosses_v a b _ hab _ (HP.out.mono (GrS.fin (by assumption)))).mono ?_) | (with_reducible refine (crosses_v b a _ hba _ (HP.out.mono (GrS.fin (by assumption)))).mono ?_) | (with_reducible refine (crosses_v a c _ hac _ (HP.out.mono (GrS.fin (by assumption)))).mono ?_)); rintro e w1 ⟨rfl, hb1⟩; skip)
    | (go_at_call 14; (with_reducible refine (less_v c b _ hcb _ (HP.out.mono (GrS.fin (by assumption)))).mono ?_); rintro e w1 ⟨rfl, hb1⟩; skip)
    | (go_at_call 11; (with_reducible refine (works_c _ (HP.out.mono (GrS.fin (by assumption)))).mono ?_); rintro e w1 ⟨rfl, hb1⟩; skip))
  first | (refine hK _ _ ?_ (fun hHeld => ?_)) | (go_wp2_with fail; refine hK _ _ ?_ (fun hHeld => ?_))
  · exact GrS.call (by assumption) hb1
  clear hK K
  (try simp only [Act.put, List.setIfInBounds_toArray, List.set_cons_zero, List.set_cons_succ])
  refine hx_take 11 (some 31) ?_ (by kernel_rfl) (by kernel_rfl) (by kernel_rfl) (by kernel_rfl) (by kernel_rfl) (fun _ _ _ h => h) (by assumption) (fun o ho w hSw => ?_) ?_
  rotate_left
  · replace ho := Option.some.inj ho
    conv at ho => lhs; whnf
    subst ho
    (try dsimp only at hSw)
    go_simp
    (try rfl)
  (try simp only [Act.put, List.setIfInBounds_toArray, List.set_cons_zero, List.set_cons_succ])
  (refine hx_skip 12 (some 32) (by kernel_rfl) (by kernel_rfl) (by kernel_rfl) (by kernel_rfl) (by kernel_rfl) (fun _ _ _ h => h) (by assumption) ?_; (try simp only [Act.put, List.setIfInBounds_toArray, List.set_cons_zero, List.set_cons_succ]))
  (refine hx_skip 13 (some 33) (by kernel_rfl) (by kernel_rfl) (by kernel_rfl) (by kernel_rfl) (by kernel_rfl) (fun _ _ _ h => h) (by assumption) ?_; (try simp only [Act.put, List.setIfInBounds_toArray, List.set_cons_zero, List.set_cons_succ]))
  (refine hx_skip 14 (some 34) (by kernel_rfl) (by kernel_rfl) (by kernel_rfl) (by kernel_rfl) (by kernel_rfl) (fun _ _ _ h => h) (by assumption) ?_; (try simp only [Act.put, List.setIfInBounds_toArray, List.set_cons_zero, List.set_cons_succ]))
  refine hx_take 15 (some 35) ?_ (by kernel_rfl) (by kernel_rfl) (by kernel_rfl) (by kernel_rfl) (by kernel_rfl) (fun _ _ _ h => h) (by assumption) (fun o ho w hSw => ?_) ?_
  rotate_left
  · replace ho := Option.some.inj ho
    conv at ho => lhs; whnf
    subst ho
    (try dsimp only at hSw)
    go_simp
    (try rfl)
  (try simp only [Act.put, List.setIfInBounds_toArray, List.set_cons_zero, List.set_cons_succ])
  refine hx_take 16 (some 36) ?_ (by kernel_rfl) (by kernel_rfl) (by kernel_rfl) (by kernel_rfl) (by kernel_rfl) (fun _ _ _ h => h) (by assumption) (fun o ho w hSw => ?_) ?_
  rotate_left
  · replace ho := Option.some.inj ho
    conv at ho => lhs; whnf
    subst ho
    (try dsimp only at hSw)
    go_simp
    (try rfl)
  (try simp only [Act.put, List.setIfInBounds_toArray, List.set_cons_zero, List.set_cons_succ])
  (refine hx_skip 17 (some 37) (by kernel_rfl) (by kernel_rfl) (by kernel_rfl) (by kernel_rfl) (by kernel_rfl) (fun _ _ _ h => h) (by assumption) ?_; (try simp only [Act.put, List.setIfInBounds_toArray, List.set_cons_zero, List.set_cons_succ]))
  (refine hx_skip 18 (some 38) (by kernel_rfl) (by kernel_rfl) (by kernel_rfl) (by kernel_rfl) (by kernel_rfl) (fun _ _ _ h => h) (by assumption) ?_; (try simp only [Act.put, List.setIfInBounds_toArray, List.set_cons_zero, List.set_cons_succ]))
  (refine hx_skip 19 (some 39) (by kernel_rfl) (by kernel_rfl) (by kernel_rfl) (by kernel_rfl) (by kernel_rfl) (fun _ _ _ h => h) (by assumption) ?_; (try simp only [Act.put, List.setIfInBounds_toArray, List.set_cons_zero, List.set_cons_succ]))
  (refine hx_skip 20 (some 40) (by kernel_rfl) (by kernel_rfl) (by kernel_rfl) (by kernel_rfl) (by kernel_rfl) (fun _ _ _ h => h) (by assumption) ?_; (try simp only [Act.put, List.setIfInBounds_toArray, List.set_cons_zero, List.set_cons_succ]))
  refine hx_take 21 (some 41) ?_ (by kernel_rfl) (by kernel_rfl) (by kernel_rfl) (by kernel_rfl) (by kernel_rfl) (fun _ _ _ h => h) (by assumption) (fun o ho w hSw => ?_) ?_
  rotate_left
  · replace ho := Option.some.inj ho
    conv at ho => lhs; whnf
    subst ho
    (try dsimp only at hSw)
    go_simp
    (try rfl)
  (try simp only [Act.put, List.setIfInBounds_toArray, List.set_cons_zero, List.set_cons_succ])
  refine hx_take 22 (some 42) ?_ (by kernel_rfl) (by kernel_rfl) (by kernel_rfl) (by kernel_rfl) (by kernel_rfl) (fun _ _ _ h => h) (by assumption) (fun o ho w hSw => ?_) ?_
  rotate_left
  · replace ho := Option.some.inj ho
    conv at ho => lhs; whnf
    subst ho
    (try dsimp only at hSw)
    go_simp
    (try rfl)
  (try simp only [Act.put, List.setIfInBounds_toArray, List.set_cons_zero, List.set_cons_succ])
  refine wpAnyH_done (by kernel_rfl) ?_ _
  replace HG := Lib.hid (show GrS W _ from by assumption)
  go_wp2_with (go_at_call 16; (with_reducible refine (HF1.out _ HG.out.1).mono ?_); rintro e w1 ⟨rfl, hb1⟩; replace HG := Lib.hid (GrS.call HG.out hb1); clear hb1; (try clear hG); have hG := HG.out)
  obtain ⟨X, hX, hXb, hXs, hF⟩ := box1 w1 #[.int .i64 F.id, .int .i64 F.acct, .int .i64 F.inst, .int .u8 F.side, .int .i64 F.price, .int .i64 F.left] 23
  rw [hX]
  have HGX : Hid (GrS W X) := Lib.hid (GrS.call HG.out hXb)
  have hWX : W.heap.size ≤ X.heap.size := HGX.out.1.size
  have hN0 : w.heap.size < X.heap.size := by omega
  have hN9 : w1.heap.size < X.heap.size := by omega
  replace hA : ∀ i, X.cell? ⟨w.heap.size, i, none⟩ = #[.int .i64 a.id, .int .i64 a.acct, .int .i64 a.inst, .int .u8 a.side, .int .i64 a.price, .int .i64 a.left][i]? := fun i => by rw [HGX.out.2 _ _ (by omega)]; exact hA i
  have HBX : Hid (Below w.heap.size w X) := Lib.hid (grow_trans HWb.out HGX.out.1)
  have HSX : Hid (SlO X la lc xs) := Lib.hid (HSW.out.mono HGX.out.1)
  have HPX : Hid (PrW X) := Lib.hid (HP.out.mono HGX.out.1)
  clear hX hXb hXs hWs hB hC HP HSW HGX HG HWb HF1 HS hG
  generalize w1.heap.size = N9 at *
  have hmay : ∃ m, m = mayL xs := ⟨_, rfl⟩
  obtain ⟨m, hm⟩ := hmay
  have HMAY : Hid (∀ w1, Below X.heap.size X w1 → Calls Tryd.prog 17 #[.slice la n lc] w1 fun e w' => e = .returned (.bool m) ∧ Below w1.heap.size w1 w') := Lib.hid (fun w1 hb => by rw [HN.out, hm]; exact may_c la lc xs w1 (HSX.out.mono hb))
  have Hm := Lib.hid hm; clear hm
  go_loopw [11] (fun i wr => (∃ k : Nat, k ≤ n ∧ i = .int .i64 k) ∧ Hid (GrS X wr)) (fun i _ => n - (intOf i).toNat)
  case atStart => exact ⟨⟨0, Nat.zero_le _, rfl⟩, Lib.hid (GrS.refl X)⟩
  case round =>
    obtain ⟨⟨k, hk, rfl⟩, HB⟩ := hrel
    by_cases hlt : k < n
    · obtain ⟨x, HX⟩ : ∃ x, Hid (xs[k]? = some x) := ⟨_, Lib.hid (List.getElem?_eq_getElem (by have := HN.out; omega))⟩
      obtain ⟨b9, off, hla, hb9, h6⟩ := SlR.cells6 HSX.out (by intro h; have := HX.out; rw [h] at this; simp at this)
      subst hla
      obtain ⟨x0, x1, x2, x3, x4, x5⟩ := h6 k x HX.out
      have i0 : (0 : Int) ≤ (k : Int) := Int.natCast_nonneg _
      have i1 : (k : Int) < (n : Int) := by omega
      cases hcx : crosses a x with
      | false =>
        cases m with
        | false =>
          go_wp2_with fail
          refine wp_region_held_drew (S := fun w' => GrS X w') (by kernel_rfl) ?_ (fun hHeld => ?_)
          · exact GrS.start HB.out.1
          refine hx_take 0 (some 60) ?_ (by kernel_rfl) (by kernel_rfl) (by kernel_rfl) (by kernel_rfl) (by kernel_rfl) (fun _ _ _ h => h) (by assumption) (fun o ho w hSw => ?_) ?_
          rotate_left
          · replace ho := Option.some.inj ho
            conv at ho => lhs; whnf
            subst ho
            (try dsimp only at hSw)
            go_simp
            (try rfl)
          (try simp only [Act.put, List.setIfInBounds_toArray, List.set_cons_zero, List.set_cons_succ])
          refine hx_act 1 (some 61) (by kernel_rfl) (by kernel_rfl) (by kernel_rfl) (fun K hK o ho => ?_)
          replace ho := Option.some.inj ho
          conv at ho => lhs; whnf
          subst ho
          go_simp
          (first
            | (go_at_call 17; (with_reducible refine (HMAY.out _ (GrS.fin (by assumption))).mono ?_); rintro e w4 ⟨rfl, hb1⟩)
            | (go_at_call 15; (first | (with_reducible refine (crosses_v a x _ hcx _ (HPX.out.mono (GrS.fin (by assumption)))).mono ?_) | (with_reducible refine (crosses_v a F _ hcf _ (HPX.out.mono (GrS.fin (by assumption)))).mono ?_)); rintro e w4 ⟨rfl, hb1⟩))
          first | (refine hK _ _ ?_ (fun hHeld => ?_)) | (go_wp2_with fail; refine hK _ _ ?_ (fun hHeld => ?_))
          · exact GrS.call (by assumption) hb1
          clear hK K
          (try simp only [Act.put, List.setIfInBounds_toArray, List.set_cons_zero, List.set_cons_succ])
          refine hx_take 2 (some 62) ?_ (by kernel_rfl) (by kernel_rfl) (by kernel_rfl) (by kernel_rfl) (by kernel_rfl) (fun _ _ _ h => h) (by assumption) (fun o ho w hSw => ?_) ?_
          rotate_left
          · replace ho := Option.some.inj ho
            conv at ho => lhs; whnf
            subst ho
            (try dsimp only at hSw)
            go_simp
            (try rfl)
          (try simp only [Act.put, List.setIfInBounds_toArray, List.set_cons_zero, List.set_cons_succ])
          (refine hx_skip 3 (some 63) (by kernel_rfl) (by kernel_rfl) (by kernel_rfl) (by kernel_rfl) (by kernel_rfl) (fun _ _ _ h => h) (by assumption) ?_; (try simp only [Act.put, List.setIfInBounds_toArray, List.set_cons_zero, List.set_cons_succ]))
          (refine hx_skip 4 (some 64) (by kernel_rfl) (by kernel_rfl) (by kernel_rfl) (by kernel_rfl) (by kernel_rfl) (fun _ _ _ h => h) (by assumption) ?_; (try simp only [Act.put, List.setIfInBounds_toArray, List.set_cons_zero, List.set_cons_succ]))
          (refine hx_skip 5 (some 65) (by kernel_rfl) (by kernel_rfl) (by kernel_rfl) (by kernel_rfl) (by kernel_rfl) (fun _ _ _ h => h) (by assumption) ?_; (try simp only [Act.put, List.setIfInBounds_toArray, List.set_cons_zero, List.set_cons_succ]))
          (refine hx_skip 6 (some 66) (by kernel_rfl) (by kernel_rfl) (by kernel_rfl) (by kernel_rfl) (by kernel_rfl) (fun _ _ _ h => h) (by assumption) ?_; (try simp only [Act.put, List.setIfInBounds_toArray, List.set_cons_zero, List.set_cons_succ]))
          (refine hx_skip 7 (some 67) (by kernel_rfl) (by kernel_rfl) (by kernel_rfl) (by kernel_rfl) (by kernel_rfl) (fun _ _ _ h => h) (by assumption) ?_; (try simp only [Act.put, List.setIfInBounds_toArray, List.set_cons_zero, List.set_cons_succ]))
          (refine hx_skip 8 (some 68) (by kernel_rfl) (by kernel_rfl) (by kernel_rfl) (by kernel_rfl) (by kernel_rfl) (fun _ _ _ h => h) (by assumption) ?_; (try simp only [Act.put, List.setIfInBounds_toArray, List.set_cons_zero, List.set_cons_succ]))
          refine hx_take 9 (some 69) ?_ (by kernel_rfl) (by kernel_rfl) (by kernel_rfl) (by kernel_rfl) (by kernel_rfl) (fun _ _ _ h => h) (by assumption) (fun o ho w hSw => ?_) ?_
          rotate_left
          · replace ho := Option.some.inj ho
            conv at ho => lhs; whnf
            subst ho
            (try dsimp only at hSw)
            go_simp
            (try rfl)
          (try simp only [Act.put, List.setIfInBounds_toArray, List.set_cons_zero, List.set_cons_succ])
          refine hx_take 10 (some 70) ?_ (by kernel_rfl) (by kernel_rfl) (by kernel_rfl) (by kernel_rfl) (by kernel_rfl) (fun _ _ _ h => h) (by assumption) (fun o ho w hSw => ?_) ?_
          rotate_left
          · replace ho := Option.some.inj ho
            conv at ho => lhs; whnf
            subst ho
            (try dsimp only at hSw)
            go_simp
            (try rfl)
          (try simp only [Act.put, List.setIfInBounds_toArray, List.set_cons_zero, List.set_cons_succ])
          (refine hx_skip 11 (some 71) (by kernel_rfl) (by kernel_rfl) (by kernel_rfl) (by kernel_rfl) (by kernel_rfl) (fun _ _ _ h => h) (by assumption) ?_; (try simp only [Act.put, List.setIfInBounds_toArray, List.set_cons_zero, List.set_cons_succ]))
          (refine hx_skip 12 (some 72) (by kernel_rfl) (by kernel_rfl) (by kernel_rfl) (by kernel_rfl) (by kernel_rfl) (fun _ _ _ h => h) (by assumption) ?_; (try simp only [Act.put, List.setIfInBounds_toArray, List.set_cons_zero, List.set_cons_succ]))
          (refine hx_skip 13 (some 73) (by kernel_rfl) (by kernel_rfl) (by kernel_rfl) (by kernel_rfl) (by kernel_rfl) (fun _ _ _ h => h) (by assumption) ?_; (try simp only [Act.put, List.setIfInBounds_toArray, List.set_cons_zero, List.set_cons_succ]))
          (refine hx_skip 14 (some 74) (by kernel_rfl) (by kernel_rfl) (by kernel_rfl) (by kernel_rfl) (by kernel_rfl) (fun _ _ _ h => h) (by assumption) ?_; (try simp only [Act.put, List.setIfInBounds_toArray, List.set_cons_zero, List.set_cons_succ]))
          (refine hx_skip 15 (some 75) (by kernel_rfl) (by kernel_rfl) (by kernel_rfl) (by kernel_rfl) (by kernel_rfl) (fun _ _ _ h => h) (by assumption) ?_; (try simp only [Act.put, List.setIfInBounds_toArray, List.set_cons_zero, List.set_cons_succ]))
          (refine hx_skip 16 (some 76) (by kernel_rfl) (by kernel_rfl) (by kernel_rfl) (by kernel_rfl) (by kernel_rfl) (fun _ _ _ h => h) (by assumption) ?_; (try simp only [Act.put, List.setIfInBounds_toArray, List.set_cons_zero, List.set_cons_succ]))
          (refine hx_skip 17 (some 77) (by kernel_rfl) (by kernel_rfl) (by kernel_rfl) (by kernel_rfl) (by kernel_rfl) (fun _ _ _ h => h) (by assumption) ?_; (try simp only [Act.put, List.setIfInBounds_toArray, List.set_cons_zero, List.set_cons_succ]))
          (refine hx_skip 18 (some 78) (by kernel_rfl) (by kernel_rfl) (by kernel_rfl) (by kernel_rfl) (by kernel_rfl) (fun _ _ _ h => h) (by assumption) ?_; (try simp only [Act.put, List.setIfInBounds_toArray, List.set_cons_zero, List.set_cons_succ]))
          refine hx_take 19 (some 79) ?_ (by kernel_rfl) (by kernel_rfl) (by kernel_rfl) (by kernel_rfl) (by kernel_rfl) (fun _ _ _ h => h) (by assumption) (fun o ho w hSw => ?_) ?_
          rotate_left
          · replace ho := Option.some.inj ho
            conv at ho => lhs; whnf
            subst ho
            (try dsimp only at hSw)
            go_simp
            (try rfl)
          (try simp only [Act.put, List.setIfInBounds_toArray, List.set_cons_zero, List.set_cons_succ])
          refine wpAnyH_done (by kernel_rfl) ?_ _
          have HGE := Lib.hid (show GrS X _ from by assumption)
          go_wp2
          go_roundw
          case rel => exact ⟨⟨k + 1, by omega, by go_num⟩, HGE⟩
          case measure => simp [intOf]; omega
        | true =>
          go_wp2_with fail
          refine wp_region_held_drew (S := fun w' => GrS X w') (by kernel_rfl) ?_ (fun hHeld => ?_)
          · exact GrS.start HB.out.1
          refine hx_take 0 (some 60) ?_ (by kernel_rfl) (by kernel_rfl) (by kernel_rfl) (by kernel_rfl) (by kernel_rfl) (fun _ _ _ h => h) (by assumption) (fun o ho w hSw => ?_) ?_
          rotate_left
          · replace ho := Option.some.inj ho
            conv at ho => lhs; whnf
            subst ho
            (try dsimp only at hSw)
            go_simp
            (try rfl)
          (try simp only [Act.put, List.setIfInBounds_toArray, List.set_cons_zero, List.set_cons_succ])
          refine hx_act 1 (some 61) (by kernel_rfl) (by kernel_rfl) (by kernel_rfl) (fun K hK o ho => ?_)
          replace ho := Option.some.inj ho
          conv at ho => lhs; whnf
          subst ho
          go_simp
          (first
            | (go_at_call 17; (with_reducible refine (HMAY.out _ (GrS.fin (by assumption))).mono ?_); rintro e w4 ⟨rfl, hb1⟩)
            | (go_at_call 15; (first | (with_reducible refine (crosses_v a x _ hcx _ (HPX.out.mono (GrS.fin (by assumption)))).mono ?_) | (with_reducible refine (crosses_v a F _ hcf _ (HPX.out.mono (GrS.fin (by assumption)))).mono ?_)); rintro e w4 ⟨rfl, hb1⟩))
          first | (refine hK _ _ ?_ (fun hHeld => ?_)) | (go_wp2_with fail; refine hK _ _ ?_ (fun hHeld => ?_))
          · exact GrS.call (by assumption) hb1
          clear hK K
          (try simp only [Act.put, List.setIfInBounds_toArray, List.set_cons_zero, List.set_cons_succ])
          refine hx_take 2 (some 62) ?_ (by kernel_rfl) (by kernel_rfl) (by kernel_rfl) (by kernel_rfl) (by kernel_rfl) (fun _ _ _ h => h) (by assumption) (fun o ho w hSw => ?_) ?_
          rotate_left
          · replace ho := Option.some.inj ho
            conv at ho => lhs; whnf
            subst ho
            (try dsimp only at hSw)
            go_simp
            (try rfl)
          (try simp only [Act.put, List.setIfInBounds_toArray, List.set_cons_zero, List.set_cons_succ])
          refine hx_take 3 (some 63) ?_ (by kernel_rfl) (by kernel_rfl) (by kernel_rfl) (by kernel_rfl) (by kernel_rfl) (fun _ _ _ h => h) (by assumption) (fun o ho w hSw => ?_) ?_
          rotate_left
          · replace ho := Option.some.inj ho
            conv at ho => lhs; whnf
            subst ho
            (try dsimp only at hSw)
            go_simp
            (try rfl)
          (try simp only [Act.put, List.setIfInBounds_toArray, List.set_cons_zero, List.set_cons_succ])
          refine hx_take 4 (some 64) ?_ (by kernel_rfl) (by kernel_rfl) (by kernel_rfl) (by kernel_rfl) (by kernel_rfl) (fun _ _ _ h => h) (by assumption) (fun o ho w hSw => ?_) ?_
          rotate_left
          · replace ho := Option.some.inj ho
            conv at ho => lhs; whnf
            subst ho
            (try dsimp only at hSw)
            go_simp
            (try rfl)
          (try simp only [Act.put, List.setIfInBounds_toArray, List.set_cons_zero, List.set_cons_succ])
          refine hx_take 5 (some 65) ?_ (by kernel_rfl) (by kernel_rfl) (by kernel_rfl) (by kernel_rfl) (by kernel_rfl) (fun _ _ _ h => h) (by assumption) (fun o ho w hSw => ?_) ?_
          rotate_left
          · replace ho := Option.some.inj ho
            conv at ho => lhs; whnf
            subst ho
            (try dsimp only at hSw)
            go_simp
            (try rfl)
          (try simp only [Act.put, List.setIfInBounds_toArray, List.set_cons_zero, List.set_cons_succ])
          refine hx_take 6 (some 66) ?_ (by kernel_rfl) (by kernel_rfl) (by kernel_rfl) (by kernel_rfl) (by kernel_rfl) (fun _ _ _ h => h) (by assumption) (fun o ho w hSw => ?_) ?_
          rotate_left
          · replace ho := Option.some.inj ho
            conv at ho => lhs; whnf
            subst ho
            (try dsimp only at hSw)
            go_simp
            (try rfl)
          (try simp only [Act.put, List.setIfInBounds_toArray, List.set_cons_zero, List.set_cons_succ])
          refine hx_take 7 (some 67) ?_ (by kernel_rfl) (by kernel_rfl) (by kernel_rfl) (by kernel_rfl) (by kernel_rfl) (fun _ _ _ h => h) (by assumption) (fun o ho w hSw => ?_) ?_
          rotate_left
          · replace ho := Option.some.inj ho
            conv at ho => lhs; whnf
            subst ho
            (try dsimp only at hSw)
            go_simp
            (try rfl)
          (try simp only [Act.put, List.setIfInBounds_toArray, List.set_cons_zero, List.set_cons_succ])
          refine hx_act 8 (some 68) (by kernel_rfl) (by kernel_rfl) (by kernel_rfl) (fun K hK o ho => ?_)
          replace ho := Option.some.inj ho
          conv at ho => lhs; whnf
          subst ho
          go_simp
          (first
            | (go_at_call 17; (with_reducible refine (HMAY.out _ (GrS.fin (by assumption))).mono ?_); rintro e w4 ⟨rfl, hb1⟩)
            | (go_at_call 15; (first | (with_reducible refine (crosses_v a x _ hcx _ (HPX.out.mono (GrS.fin (by assumption)))).mono ?_) | (with_reducible refine (crosses_v a F _ hcf _ (HPX.out.mono (GrS.fin (by assumption)))).mono ?_)); rintro e w4 ⟨rfl, hb1⟩))
          first | (refine hK _ _ ?_ (fun hHeld => ?_)) | (go_wp2_with fail; refine hK _ _ ?_ (fun hHeld => ?_))
          · exact GrS.call (by assumption) hb1
          clear hK K
          (try simp only [Act.put, List.setIfInBounds_toArray, List.set_cons_zero, List.set_cons_succ])
          refine hx_take 9 (some 69) ?_ (by kernel_rfl) (by kernel_rfl) (by kernel_rfl) (by kernel_rfl) (by kernel_rfl) (fun _ _ _ h => h) (by assumption) (fun o ho w hSw => ?_) ?_
          rotate_left
          · replace ho := Option.some.inj ho
            conv at ho => lhs; whnf
            subst ho
            (try dsimp only at hSw)
            go_simp
            (try rfl)
          (try simp only [Act.put, List.setIfInBounds_toArray, List.set_cons_zero, List.set_cons_succ])
          refine hx_take 10 (some 70) ?_ (by kernel_rfl) (by kernel_rfl) (by kernel_rfl) (by kernel_rfl) (by kernel_rfl) (fun _ _ _ h => h) (by assumption) (fun o ho w hSw => ?_) ?_
          rotate_left
          · replace ho := Option.some.inj ho
            conv at ho => lhs; whnf
            subst ho
            (try dsimp only at hSw)
            go_simp
            (try rfl)
          (try simp only [Act.put, List.setIfInBounds_toArray, List.set_cons_zero, List.set_cons_succ])
          (refine hx_skip 11 (some 71) (by kernel_rfl) (by kernel_rfl) (by kernel_rfl) (by kernel_rfl) (by kernel_rfl) (fun _ _ _ h => h) (by assumption) ?_; (try simp only [Act.put, List.setIfInBounds_toArray, List.set_cons_zero, List.set_cons_succ]))
          (refine hx_skip 12 (some 72) (by kernel_rfl) (by kernel_rfl) (by kernel_rfl) (by kernel_rfl) (by kernel_rfl) (fun _ _ _ h => h) (by assumption) ?_; (try simp only [Act.put, List.setIfInBounds_toArray, List.set_cons_zero, List.set_cons_succ]))
          (refine hx_skip 13 (some 73) (by kernel_rfl) (by kernel_rfl) (by kernel_rfl) (by kernel_rfl) (by kernel_rfl) (fun _ _ _ h => h) (by assumption) ?_; (try simp only [Act.put, List.setIfInBounds_toArray, List.set_cons_zero, List.set_cons_succ]))
          (refine hx_skip 14 (some 74) (by kernel_rfl) (by kernel_rfl) (by kernel_rfl) (by kernel_rfl) (by kernel_rfl) (fun _ _ _ h => h) (by assumption) ?_; (try simp only [Act.put, List.setIfInBounds_toArray, List.set_cons_zero, List.set_cons_succ]))
          (refine hx_skip 15 (some 75) (by kernel_rfl) (by kernel_rfl) (by kernel_rfl) (by kernel_rfl) (by kernel_rfl) (fun _ _ _ h => h) (by assumption) ?_; (try simp only [Act.put, List.setIfInBounds_toArray, List.set_cons_zero, List.set_cons_succ]))
          (refine hx_skip 16 (some 76) (by kernel_rfl) (by kernel_rfl) (by kernel_rfl) (by kernel_rfl) (by kernel_rfl) (fun _ _ _ h => h) (by assumption) ?_; (try simp only [Act.put, List.setIfInBounds_toArray, List.set_cons_zero, List.set_cons_succ]))
          (refine hx_skip 17 (some 77) (by kernel_rfl) (by kernel_rfl) (by kernel_rfl) (by kernel_rfl) (by kernel_rfl) (fun _ _ _ h => h) (by assumption) ?_; (try simp only [Act.put, List.setIfInBounds_toArray, List.set_cons_zero, List.set_cons_succ]))
          (refine hx_skip 18 (some 78) (by kernel_rfl) (by kernel_rfl) (by kernel_rfl) (by kernel_rfl) (by kernel_rfl) (fun _ _ _ h => h) (by assumption) ?_; (try simp only [Act.put, List.setIfInBounds_toArray, List.set_cons_zero, List.set_cons_succ]))
          refine hx_take 19 (some 79) ?_ (by kernel_rfl) (by kernel_rfl) (by kernel_rfl) (by kernel_rfl) (by kernel_rfl) (fun _ _ _ h => h) (by assumption) (fun o ho w hSw => ?_) ?_
          rotate_left
          · replace ho := Option.some.inj ho
            conv at ho => lhs; whnf
            subst ho
            (try dsimp only at hSw)
            go_simp
            (try rfl)
          (try simp only [Act.put, List.setIfInBounds_toArray, List.set_cons_zero, List.set_cons_succ])
          refine wpAnyH_done (by kernel_rfl) ?_ _
          have HGE := Lib.hid (show GrS X _ from by assumption)
          go_wp2
          go_roundw
          case rel => exact ⟨⟨k + 1, by omega, by go_num⟩, HGE⟩
          case measure => simp [intOf]; omega
      | true =>
        cases m with
        | false =>
          go_wp2_with fail
          refine wp_region_held_drew (S := fun w' => GrS X w') (by kernel_rfl) ?_ (fun hHeld => ?_)
          · exact GrS.start HB.out.1
          refine hx_take 0 (some 60) ?_ (by kernel_rfl) (by kernel_rfl) (by kernel_rfl) (by kernel_rfl) (by kernel_rfl) (fun _ _ _ h => h) (by assumption) (fun o ho w hSw => ?_) ?_
          rotate_left
          · replace ho := Option.some.inj ho
            conv at ho => lhs; whnf
            subst ho
            (try dsimp only at hSw)
            go_simp
            (try rfl)
          (try simp only [Act.put, List.setIfInBounds_toArray, List.set_cons_zero, List.set_cons_succ])
          refine hx_act 1 (some 61) (by kernel_rfl) (by kernel_rfl) (by kernel_rfl) (fun K hK o ho => ?_)
          replace ho := Option.some.inj ho
          conv at ho => lhs; whnf
          subst ho
          go_simp
          (first
            | (go_at_call 17; (with_reducible refine (HMAY.out _ (GrS.fin (by assumption))).mono ?_); rintro e w4 ⟨rfl, hb1⟩)
            | (go_at_call 15; (first | (with_reducible refine (crosses_v a x _ hcx _ (HPX.out.mono (GrS.fin (by assumption)))).mono ?_) | (with_reducible refine (crosses_v a F _ hcf _ (HPX.out.mono (GrS.fin (by assumption)))).mono ?_)); rintro e w4 ⟨rfl, hb1⟩))
          first | (refine hK _ _ ?_ (fun hHeld => ?_)) | (go_wp2_with fail; refine hK _ _ ?_ (fun hHeld => ?_))
          · exact GrS.call (by assumption) hb1
          clear hK K
          (try simp only [Act.put, List.setIfInBounds_toArray, List.set_cons_zero, List.set_cons_succ])
          refine hx_take 2 (some 62) ?_ (by kernel_rfl) (by kernel_rfl) (by kernel_rfl) (by kernel_rfl) (by kernel_rfl) (fun _ _ _ h => h) (by assumption) (fun o ho w hSw => ?_) ?_
          rotate_left
          · replace ho := Option.some.inj ho
            conv at ho => lhs; whnf
            subst ho
            (try dsimp only at hSw)
            go_simp
            (try rfl)
          (try simp only [Act.put, List.setIfInBounds_toArray, List.set_cons_zero, List.set_cons_succ])
          (refine hx_skip 3 (some 63) (by kernel_rfl) (by kernel_rfl) (by kernel_rfl) (by kernel_rfl) (by kernel_rfl) (fun _ _ _ h => h) (by assumption) ?_; (try simp only [Act.put, List.setIfInBounds_toArray, List.set_cons_zero, List.set_cons_succ]))
          (refine hx_skip 4 (some 64) (by kernel_rfl) (by kernel_rfl) (by kernel_rfl) (by kernel_rfl) (by kernel_rfl) (fun _ _ _ h => h) (by assumption) ?_; (try simp only [Act.put, List.setIfInBounds_toArray, List.set_cons_zero, List.set_cons_succ]))
          (refine hx_skip 5 (some 65) (by kernel_rfl) (by kernel_rfl) (by kernel_rfl) (by kernel_rfl) (by kernel_rfl) (fun _ _ _ h => h) (by assumption) ?_; (try simp only [Act.put, List.setIfInBounds_toArray, List.set_cons_zero, List.set_cons_succ]))
          (refine hx_skip 6 (some 66) (by kernel_rfl) (by kernel_rfl) (by kernel_rfl) (by kernel_rfl) (by kernel_rfl) (fun _ _ _ h => h) (by assumption) ?_; (try simp only [Act.put, List.setIfInBounds_toArray, List.set_cons_zero, List.set_cons_succ]))
          (refine hx_skip 7 (some 67) (by kernel_rfl) (by kernel_rfl) (by kernel_rfl) (by kernel_rfl) (by kernel_rfl) (fun _ _ _ h => h) (by assumption) ?_; (try simp only [Act.put, List.setIfInBounds_toArray, List.set_cons_zero, List.set_cons_succ]))
          (refine hx_skip 8 (some 68) (by kernel_rfl) (by kernel_rfl) (by kernel_rfl) (by kernel_rfl) (by kernel_rfl) (fun _ _ _ h => h) (by assumption) ?_; (try simp only [Act.put, List.setIfInBounds_toArray, List.set_cons_zero, List.set_cons_succ]))
          refine hx_take 9 (some 69) ?_ (by kernel_rfl) (by kernel_rfl) (by kernel_rfl) (by kernel_rfl) (by kernel_rfl) (fun _ _ _ h => h) (by assumption) (fun o ho w hSw => ?_) ?_
          rotate_left
          · replace ho := Option.some.inj ho
            conv at ho => lhs; whnf
            subst ho
            (try dsimp only at hSw)
            go_simp
            (try rfl)
          (try simp only [Act.put, List.setIfInBounds_toArray, List.set_cons_zero, List.set_cons_succ])
          refine hx_take 10 (some 70) ?_ (by kernel_rfl) (by kernel_rfl) (by kernel_rfl) (by kernel_rfl) (by kernel_rfl) (fun _ _ _ h => h) (by assumption) (fun o ho w hSw => ?_) ?_
          rotate_left
          · replace ho := Option.some.inj ho
            conv at ho => lhs; whnf
            subst ho
            (try dsimp only at hSw)
            go_simp
            (try rfl)
          (try simp only [Act.put, List.setIfInBounds_toArray, List.set_cons_zero, List.set_cons_succ])
          (refine hx_skip 11 (some 71) (by kernel_rfl) (by kernel_rfl) (by kernel_rfl) (by kernel_rfl) (by kernel_rfl) (fun _ _ _ h => h) (by assumption) ?_; (try simp only [Act.put, List.setIfInBounds_toArray, List.set_cons_zero, List.set_cons_succ]))
          (refine hx_skip 12 (some 72) (by kernel_rfl) (by kernel_rfl) (by kernel_rfl) (by kernel_rfl) (by kernel_rfl) (fun _ _ _ h => h) (by assumption) ?_; (try simp only [Act.put, List.setIfInBounds_toArray, List.set_cons_zero, List.set_cons_succ]))
          (refine hx_skip 13 (some 73) (by kernel_rfl) (by kernel_rfl) (by kernel_rfl) (by kernel_rfl) (by kernel_rfl) (fun _ _ _ h => h) (by assumption) ?_; (try simp only [Act.put, List.setIfInBounds_toArray, List.set_cons_zero, List.set_cons_succ]))
          (refine hx_skip 14 (some 74) (by kernel_rfl) (by kernel_rfl) (by kernel_rfl) (by kernel_rfl) (by kernel_rfl) (fun _ _ _ h => h) (by assumption) ?_; (try simp only [Act.put, List.setIfInBounds_toArray, List.set_cons_zero, List.set_cons_succ]))
          (refine hx_skip 15 (some 75) (by kernel_rfl) (by kernel_rfl) (by kernel_rfl) (by kernel_rfl) (by kernel_rfl) (fun _ _ _ h => h) (by assumption) ?_; (try simp only [Act.put, List.setIfInBounds_toArray, List.set_cons_zero, List.set_cons_succ]))
          (refine hx_skip 16 (some 76) (by kernel_rfl) (by kernel_rfl) (by kernel_rfl) (by kernel_rfl) (by kernel_rfl) (fun _ _ _ h => h) (by assumption) ?_; (try simp only [Act.put, List.setIfInBounds_toArray, List.set_cons_zero, List.set_cons_succ]))
          (refine hx_skip 17 (some 77) (by kernel_rfl) (by kernel_rfl) (by kernel_rfl) (by kernel_rfl) (by kernel_rfl) (fun _ _ _ h => h) (by assumption) ?_; (try simp only [Act.put, List.setIfInBounds_toArray, List.set_cons_zero, List.set_cons_succ]))
          (refine hx_skip 18 (some 78) (by kernel_rfl) (by kernel_rfl) (by kernel_rfl) (by kernel_rfl) (by kernel_rfl) (fun _ _ _ h => h) (by assumption) ?_; (try simp only [Act.put, List.setIfInBounds_toArray, List.set_cons_zero, List.set_cons_succ]))
          refine hx_take 19 (some 79) ?_ (by kernel_rfl) (by kernel_rfl) (by kernel_rfl) (by kernel_rfl) (by kernel_rfl) (fun _ _ _ h => h) (by assumption) (fun o ho w hSw => ?_) ?_
          rotate_left
          · replace ho := Option.some.inj ho
            conv at ho => lhs; whnf
            subst ho
            (try dsimp only at hSw)
            go_simp
            (try rfl)
          (try simp only [Act.put, List.setIfInBounds_toArray, List.set_cons_zero, List.set_cons_succ])
          refine wpAnyH_done (by kernel_rfl) ?_ _
          have HGE := Lib.hid (show GrS X _ from by assumption)
          go_wp2
          go_roundw
          case rel => exact ⟨⟨k + 1, by omega, by go_num⟩, HGE⟩
          case measure => simp [intOf]; omega
        | true =>
          obtain ⟨his, hcf⟩ := HF2.out (by obtain ⟨q1, _⟩ := crosses_iff.1 hcx; have := side_of q1; omega) Hm.out.symm x (List.mem_of_getElem? HX.out) hcx
          subst his
          go_wp2_with fail
          refine wp_region_held_drew (S := fun w' => GrS X w') (by kernel_rfl) ?_ (fun hHeld => ?_)
          · exact GrS.start HB.out.1
          refine hx_take 0 (some 60) ?_ (by kernel_rfl) (by kernel_rfl) (by kernel_rfl) (by kernel_rfl) (by kernel_rfl) (fun _ _ _ h => h) (by assumption) (fun o ho w hSw => ?_) ?_
          rotate_left
          · replace ho := Option.some.inj ho
            conv at ho => lhs; whnf
            subst ho
            (try dsimp only at hSw)
            go_simp
            (try rfl)
          (try simp only [Act.put, List.setIfInBounds_toArray, List.set_cons_zero, List.set_cons_succ])
          refine hx_act 1 (some 61) (by kernel_rfl) (by kernel_rfl) (by kernel_rfl) (fun K hK o ho => ?_)
          replace ho := Option.some.inj ho
          conv at ho => lhs; whnf
          subst ho
          go_simp
          (first
            | (go_at_call 17; (with_reducible refine (HMAY.out _ (GrS.fin (by assumption))).mono ?_); rintro e w4 ⟨rfl, hb1⟩)
            | (go_at_call 15; (first | (with_reducible refine (crosses_v a x _ hcx _ (HPX.out.mono (GrS.fin (by assumption)))).mono ?_) | (with_reducible refine (crosses_v a F _ hcf _ (HPX.out.mono (GrS.fin (by assumption)))).mono ?_)); rintro e w4 ⟨rfl, hb1⟩))
          first | (refine hK _ _ ?_ (fun hHeld => ?_)) | (go_wp2_with fail; refine hK _ _ ?_ (fun hHeld => ?_))
          · exact GrS.call (by assumption) hb1
          clear hK K
          (try simp only [Act.put, List.setIfInBounds_toArray, List.set_cons_zero, List.set_cons_succ])
          refine hx_take 2 (some 62) ?_ (by kernel_rfl) (by kernel_rfl) (by kernel_rfl) (by kernel_rfl) (by kernel_rfl) (fun _ _ _ h => h) (by assumption) (fun o ho w hSw => ?_) ?_
          rotate_left
          · replace ho := Option.some.inj ho
            conv at ho => lhs; whnf
            subst ho
            (try dsimp only at hSw)
            go_simp
            (try rfl)
          (try simp only [Act.put, List.setIfInBounds_toArray, List.set_cons_zero, List.set_cons_succ])
          refine hx_take 3 (some 63) ?_ (by kernel_rfl) (by kernel_rfl) (by kernel_rfl) (by kernel_rfl) (by kernel_rfl) (fun _ _ _ h => h) (by assumption) (fun o ho w hSw => ?_) ?_
          rotate_left
          · replace ho := Option.some.inj ho
            conv at ho => lhs; whnf
            subst ho
            (try dsimp only at hSw)
            go_simp
            (try rfl)
          (try simp only [Act.put, List.setIfInBounds_toArray, List.set_cons_zero, List.set_cons_succ])
          refine hx_take 4 (some 64) ?_ (by kernel_rfl) (by kernel_rfl) (by kernel_rfl) (by kernel_rfl) (by kernel_rfl) (fun _ _ _ h => h) (by assumption) (fun o ho w hSw => ?_) ?_
          rotate_left
          · replace ho := Option.some.inj ho
            conv at ho => lhs; whnf
            subst ho
            (try dsimp only at hSw)
            go_simp
            (try rfl)
          (try simp only [Act.put, List.setIfInBounds_toArray, List.set_cons_zero, List.set_cons_succ])
          refine hx_take 5 (some 65) ?_ (by kernel_rfl) (by kernel_rfl) (by kernel_rfl) (by kernel_rfl) (by kernel_rfl) (fun _ _ _ h => h) (by assumption) (fun o ho w hSw => ?_) ?_
          rotate_left
          · replace ho := Option.some.inj ho
            conv at ho => lhs; whnf
            subst ho
            (try dsimp only at hSw)
            go_simp
            (try rfl)
          (try simp only [Act.put, List.setIfInBounds_toArray, List.set_cons_zero, List.set_cons_succ])
          refine hx_take 6 (some 66) ?_ (by kernel_rfl) (by kernel_rfl) (by kernel_rfl) (by kernel_rfl) (by kernel_rfl) (fun _ _ _ h => h) (by assumption) (fun o ho w hSw => ?_) ?_
          rotate_left
          · replace ho := Option.some.inj ho
            conv at ho => lhs; whnf
            subst ho
            (try dsimp only at hSw)
            go_simp
            (try rfl)
          (try simp only [Act.put, List.setIfInBounds_toArray, List.set_cons_zero, List.set_cons_succ])
          refine hx_take 7 (some 67) ?_ (by kernel_rfl) (by kernel_rfl) (by kernel_rfl) (by kernel_rfl) (by kernel_rfl) (fun _ _ _ h => h) (by assumption) (fun o ho w hSw => ?_) ?_
          rotate_left
          · replace ho := Option.some.inj ho
            conv at ho => lhs; whnf
            subst ho
            (try dsimp only at hSw)
            go_simp
            (try rfl)
          (try simp only [Act.put, List.setIfInBounds_toArray, List.set_cons_zero, List.set_cons_succ])
          refine hx_act 8 (some 68) (by kernel_rfl) (by kernel_rfl) (by kernel_rfl) (fun K hK o ho => ?_)
          replace ho := Option.some.inj ho
          conv at ho => lhs; whnf
          subst ho
          go_simp
          (first
            | (go_at_call 17; (with_reducible refine (HMAY.out _ (GrS.fin (by assumption))).mono ?_); rintro e w4 ⟨rfl, hb1⟩)
            | (go_at_call 15; (first | (with_reducible refine (crosses_v a x _ hcx _ (HPX.out.mono (GrS.fin (by assumption)))).mono ?_) | (with_reducible refine (crosses_v a F _ hcf _ (HPX.out.mono (GrS.fin (by assumption)))).mono ?_)); rintro e w4 ⟨rfl, hb1⟩))
          first | (refine hK _ _ ?_ (fun hHeld => ?_)) | (go_wp2_with fail; refine hK _ _ ?_ (fun hHeld => ?_))
          · exact GrS.call (by assumption) hb1
          clear hK K
          (try simp only [Act.put, List.setIfInBounds_toArray, List.set_cons_zero, List.set_cons_succ])
          refine hx_take 9 (some 69) ?_ (by kernel_rfl) (by kernel_rfl) (by kernel_rfl) (by kernel_rfl) (by kernel_rfl) (fun _ _ _ h => h) (by assumption) (fun o ho w hSw => ?_) ?_
          rotate_left
          · replace ho := Option.some.inj ho
            conv at ho => lhs; whnf
            subst ho
            (try dsimp only at hSw)
            go_simp
            (try rfl)
          (try simp only [Act.put, List.setIfInBounds_toArray, List.set_cons_zero, List.set_cons_succ])
          refine hx_take 10 (some 70) ?_ (by kernel_rfl) (by kernel_rfl) (by kernel_rfl) (by kernel_rfl) (by kernel_rfl) (fun _ _ _ h => h) (by assumption) (fun o ho w hSw => ?_) ?_
          rotate_left
          · replace ho := Option.some.inj ho
            conv at ho => lhs; whnf
            subst ho
            (try dsimp only at hSw)
            go_simp
            (try rfl)
          (try simp only [Act.put, List.setIfInBounds_toArray, List.set_cons_zero, List.set_cons_succ])
          refine hx_take 11 (some 71) ?_ (by kernel_rfl) (by kernel_rfl) (by kernel_rfl) (by kernel_rfl) (by kernel_rfl) (fun _ _ _ h => h) (by assumption) (fun o ho w hSw => ?_) ?_
          rotate_left
          · replace ho := Option.some.inj ho
            conv at ho => lhs; whnf
            subst ho
            (try dsimp only at hSw)
            go_simp
            (try rfl)
          (try simp only [Act.put, List.setIfInBounds_toArray, List.set_cons_zero, List.set_cons_succ])
          refine hx_take 12 (some 72) ?_ (by kernel_rfl) (by kernel_rfl) (by kernel_rfl) (by kernel_rfl) (by kernel_rfl) (fun _ _ _ h => h) (by assumption) (fun o ho w hSw => ?_) ?_
          rotate_left
          · replace ho := Option.some.inj ho
            conv at ho => lhs; whnf
            subst ho
            (try dsimp only at hSw)
            go_simp
            (try rfl)
          (try simp only [Act.put, List.setIfInBounds_toArray, List.set_cons_zero, List.set_cons_succ])
          refine hx_take 13 (some 73) ?_ (by kernel_rfl) (by kernel_rfl) (by kernel_rfl) (by kernel_rfl) (by kernel_rfl) (fun _ _ _ h => h) (by assumption) (fun o ho w hSw => ?_) ?_
          rotate_left
          · replace ho := Option.some.inj ho
            conv at ho => lhs; whnf
            subst ho
            (try dsimp only at hSw)
            go_simp
            (try rfl)
          (try simp only [Act.put, List.setIfInBounds_toArray, List.set_cons_zero, List.set_cons_succ])
          refine hx_take 14 (some 74) ?_ (by kernel_rfl) (by kernel_rfl) (by kernel_rfl) (by kernel_rfl) (by kernel_rfl) (fun _ _ _ h => h) (by assumption) (fun o ho w hSw => ?_) ?_
          rotate_left
          · replace ho := Option.some.inj ho
            conv at ho => lhs; whnf
            subst ho
            (try dsimp only at hSw)
            go_simp
            (try rfl)
          (try simp only [Act.put, List.setIfInBounds_toArray, List.set_cons_zero, List.set_cons_succ])
          refine hx_take 15 (some 75) ?_ (by kernel_rfl) (by kernel_rfl) (by kernel_rfl) (by kernel_rfl) (by kernel_rfl) (fun _ _ _ h => h) (by assumption) (fun o ho w hSw => ?_) ?_
          rotate_left
          · replace ho := Option.some.inj ho
            conv at ho => lhs; whnf
            subst ho
            (try dsimp only at hSw)
            go_simp
            (try rfl)
          (try simp only [Act.put, List.setIfInBounds_toArray, List.set_cons_zero, List.set_cons_succ])
          refine hx_act 16 (some 76) (by kernel_rfl) (by kernel_rfl) (by kernel_rfl) (fun K hK o ho => ?_)
          replace ho := Option.some.inj ho
          conv at ho => lhs; whnf
          subst ho
          go_simp
          (first
            | (go_at_call 17; (with_reducible refine (HMAY.out _ (GrS.fin (by assumption))).mono ?_); rintro e w4 ⟨rfl, hb1⟩)
            | (go_at_call 15; (first | (with_reducible refine (crosses_v a x _ hcx _ (HPX.out.mono (GrS.fin (by assumption)))).mono ?_) | (with_reducible refine (crosses_v a F _ hcf _ (HPX.out.mono (GrS.fin (by assumption)))).mono ?_)); rintro e w4 ⟨rfl, hb1⟩))
          first | (refine hK _ _ ?_ (fun hHeld => ?_)) | (go_wp2_with fail; refine hK _ _ ?_ (fun hHeld => ?_))
          · exact GrS.call (by assumption) hb1
          clear hK K
          (try simp only [Act.put, List.setIfInBounds_toArray, List.set_cons_zero, List.set_cons_succ])
          refine hx_take 17 (some 77) ?_ (by kernel_rfl) (by kernel_rfl) (by kernel_rfl) (by kernel_rfl) (by kernel_rfl) (fun _ _ _ h => h) (by assumption) (fun o ho w hSw => ?_) ?_
          rotate_left
          · replace ho := Option.some.inj ho
            conv at ho => lhs; whnf
            subst ho
            (try dsimp only at hSw)
            go_simp
            (try rfl)
          (try simp only [Act.put, List.setIfInBounds_toArray, List.set_cons_zero, List.set_cons_succ])
          refine hx_take 18 (some 78) ?_ (by kernel_rfl) (by kernel_rfl) (by kernel_rfl) (by kernel_rfl) (by kernel_rfl) (fun _ _ _ h => h) (by assumption) (fun o ho w hSw => ?_) ?_
          rotate_left
          · replace ho := Option.some.inj ho
            conv at ho => lhs; whnf
            subst ho
            (try dsimp only at hSw)
            go_simp
            (try rfl)
          (try simp only [Act.put, List.setIfInBounds_toArray, List.set_cons_zero, List.set_cons_succ])
          refine hx_take 19 (some 79) ?_ (by kernel_rfl) (by kernel_rfl) (by kernel_rfl) (by kernel_rfl) (by kernel_rfl) (fun _ _ _ h => h) (by assumption) (fun o ho w hSw => ?_) ?_
          rotate_left
          · replace ho := Option.some.inj ho
            conv at ho => lhs; whnf
            subst ho
            (try dsimp only at hSw)
            go_simp
            (try rfl)
          (try simp only [Act.put, List.setIfInBounds_toArray, List.set_cons_zero, List.set_cons_succ])
          refine wpAnyH_done (by kernel_rfl) ?_ _
          have HGE := Lib.hid (show GrS X _ from by assumption)
          go_wp2
          go_roundw
          case rel => exact ⟨⟨k + 1, by omega, by go_num⟩, HGE⟩
          case measure => simp [intOf]; omega
    · go_wp2
      go_ret
      exact ⟨rfl, grow_trans HBX.out HB.out.1⟩
set_option maxHeartbeats 4000000 in
theorem lawCr_y (la : Option Addr) (lc n : Nat) (xs : List Ord) (a b c : Ord) (w : World) (HS : Hid (SlO w la lc xs)) (HN : Hid (n = xs.length)) (hp : PrW w) (hn : decide (200 < (n : Int)) = false)
    (hab : crosses a b = true) (hba : crosses b a = true) (hcb : less c b = false) :
    Calls Tryd.prog 5 #[.slice la n lc, (.agg #[.int .i64 a.id, .int .i64 a.acct, .int .i64 a.inst, .int .u8 a.side, .int .i64 a.price, .int .i64 a.left]), (.agg #[.int .i64 b.id, .int .i64 b.acct, .int .i64 b.inst, .int .u8 b.side, .int .i64 b.price, .int .i64 b.left]), (.agg #[.int .i64 c.id, .int .i64 c.acct, .int .i64 c.inst, .int .u8 c.side, .int .i64 c.price, .int .i64 c.left])] w fun e w' => e = .returned (.bool true) ∧ Below w.heap.size w w' := by
  have hac : True := trivial
  have hle : n ≤ 200 := by simp at hn; omega
  obtain ⟨W, hW, hWb, hWs, hA, hB, hC⟩ := box3 w #[.int .i64 a.id, .int .i64 a.acct, .int .i64 a.inst, .int .u8 a.side, .int .i64 a.price, .int .i64 a.left] #[.int .i64 b.id, .int .i64 b.acct, .int .i64 b.inst, .int .u8 b.side, .int .i64 b.price, .int .i64 b.left] #[.int .i64 c.id, .int .i64 c.acct, .int .i64 c.inst, .int .u8 c.side, .int .i64 c.price, .int .i64 c.left] 23
  have HWb := Lib.hid hWb; clear hWb
  have HG := Lib.hid (GrS.refl W)
  have HP := Lib.hid (hp.mono HWb.out); clear hp
  have HSW : Hid (SlO W la lc xs) := Lib.hid (HS.out.mono HWb.out)
  obtain ⟨F, is, HF1, HF2⟩ := first_for la lc n xs a W HSW HN (by omega) HP ((3 - min a.side 3) % 256)
  go_enter Tryd.func5, Tryd.ntmps5
  go_wp2_with (first
    | (go_at_call 15; (first | (with_reducible refine (crosses_v a b _ hab _ (HP.out.mono HG.out.1)).mono ?_) | (with_reducible refine (crosses_v b a _ hba _ (HP.out.mono HG.out.1)).mono ?_) | (with_reducible refine (crosses_v a c _ hac _ (HP.out.mono HG.out.1)).mono ?_)); rintro e w1 ⟨rfl, hb1⟩; replace HG := Lib.hid (GrS.call HG.out hb1); clear hb1; (try clear hG); have hG := HG.out)
    | (go_at_call 14; (with_reducible refine (less_v c b _ hcb _ (HP.out.mono HG.out.1)).mono ?_); rintro e w1 ⟨rfl, hb1⟩; replace HG := Lib.hid (GrS.call HG.out hb1); clear hb1; (try clear hG); have hG := HG.out)
    | (go_at_call 11; (with_reducible refine (works_c _ (HP.out.mono HG.out.1)).mono ?_); rintro e w1 ⟨rfl, hb1⟩; replace HG := Lib.hid (GrS.call HG.out hb1); clear hb1; (try clear hG); have hG := HG.out))
  clear hW
  refine wp_region_held_drew (S := fun w' => GrS W w') (by kernel_rfl) ?_ (fun hHeld => ?_)
  · exact GrS.start HG.out.1
  refine hx_take 0 (some 20) ?_ (by kernel_rfl) (by kernel_rfl) (by kernel_rfl) (by kernel_rfl) (by kernel_rfl) (fun _ _ _ h => h) (by assumption) (fun o ho w hSw => ?_) ?_
  rotate_left
  · replace ho := Option.some.inj ho
    conv at ho => lhs; whnf
    subst ho
    (try dsimp only at hSw)
    go_simp
    (try rfl)
  (try simp only [Act.put, List.setIfInBounds_toArray, List.set_cons_zero, List.set_cons_succ])
  refine hx_take 1 (some 21) ?_ (by kernel_rfl) (by kernel_rfl) (by kernel_rfl) (by kernel_rfl) (by kernel_rfl) (fun _ _ _ h => h) (by assumption) (fun o ho w hSw => ?_) ?_
  rotate_left
  · replace ho := Option.some.inj ho
    conv at ho => lhs; whnf
    subst ho
    (try dsimp only at hSw)
    go_simp
    (try rfl)
  (try simp only [Act.put, List.setIfInBounds_toArray, List.set_cons_zero, List.set_cons_succ])
  refine hx_take 3 (some 23) ?_ (by kernel_rfl) (by kernel_rfl) (by kernel_rfl) (by kernel_rfl) (by kernel_rfl) (fun _ _ _ h => h) (by assumption) (fun o ho w hSw => ?_) ?_
  rotate_left
  · replace ho := Option.some.inj ho
    conv at ho => lhs; whnf
    subst ho
    (try dsimp only at hSw)
    go_simp
    (try rfl)
  (try simp only [Act.put, List.setIfInBounds_toArray, List.set_cons_zero, List.set_cons_succ])
  refine hx_take 4 (some 24) ?_ (by kernel_rfl) (by kernel_rfl) (by kernel_rfl) (by kernel_rfl) (by kernel_rfl) (fun _ _ _ h => h) (by assumption) (fun o ho w hSw => ?_) ?_
  rotate_left
  · replace ho := Option.some.inj ho
    conv at ho => lhs; whnf
    subst ho
    (try dsimp only at hSw)
    go_simp
    (try rfl)
  (try simp only [Act.put, List.setIfInBounds_toArray, List.set_cons_zero, List.set_cons_succ])
  refine hx_act 2 (some 22) (by kernel_rfl) (by kernel_rfl) (by kernel_rfl) (fun K hK o ho => ?_)
  replace ho := Option.some.inj ho
  conv at ho => lhs; whnf
  subst ho
  go_simp
  (first
    | (go_at_call 15; (first | (with_reducible refine (crosses_v a b _ hab _ (HP.out.mono (GrS.fin (by assumption)))).mono ?_) | (with_reducible refine (crosses_v b a _ hba _ (HP.out.mono (GrS.fin (by assumption)))).mono ?_) | (with_reducible refine (crosses_v a c _ hac _ (HP.out.mono (GrS.fin (by assumption)))).mono ?_)); rintro e w1 ⟨rfl, hb1⟩; skip)
    | (go_at_call 14; (with_reducible refine (less_v c b _ hcb _ (HP.out.mono (GrS.fin (by assumption)))).mono ?_); rintro e w1 ⟨rfl, hb1⟩; skip)
    | (go_at_call 11; (with_reducible refine (works_c _ (HP.out.mono (GrS.fin (by assumption)))).mono ?_); rintro e w1 ⟨rfl, hb1⟩; skip))
  first | (refine hK _ _ ?_ (fun hHeld => ?_)) | (go_wp2_with fail; refine hK _ _ ?_ (fun hHeld => ?_))
  · exact GrS.call (by assumption) hb1
  clear hK K
  (try simp only [Act.put, List.setIfInBounds_toArray, List.set_cons_zero, List.set_cons_succ])
  refine hx_act 5 (some 25) (by kernel_rfl) (by kernel_rfl) (by kernel_rfl) (fun K hK o ho => ?_)
  replace ho := Option.some.inj ho
  conv at ho => lhs; whnf
  subst ho
  go_simp
  (first
    | (go_at_call 15; (first | (with_reducible refine (crosses_v a b _ hab _ (HP.out.mono (GrS.fin (by assumption)))).mono ?_) | (with_reducible refine (crosses_v b a _ hba _ (HP.out.mono (GrS.fin (by assumption)))).mono ?_) | (with_reducible refine (crosses_v a c _ hac _ (HP.out.mono (GrS.fin (by assumption)))).mono ?_)); rintro e w1 ⟨rfl, hb1⟩; skip)
    | (go_at_call 14; (with_reducible refine (less_v c b _ hcb _ (HP.out.mono (GrS.fin (by assumption)))).mono ?_); rintro e w1 ⟨rfl, hb1⟩; skip)
    | (go_at_call 11; (with_reducible refine (works_c _ (HP.out.mono (GrS.fin (by assumption)))).mono ?_); rintro e w1 ⟨rfl, hb1⟩; skip))
  first | (refine hK _ _ ?_ (fun hHeld => ?_)) | (go_wp2_with fail; refine hK _ _ ?_ (fun hHeld => ?_))
  · exact GrS.call (by assumption) hb1
  clear hK K
  (try simp only [Act.put, List.setIfInBounds_toArray, List.set_cons_zero, List.set_cons_succ])
  refine hx_take 6 (some 26) ?_ (by kernel_rfl) (by kernel_rfl) (by kernel_rfl) (by kernel_rfl) (by kernel_rfl) (fun _ _ _ h => h) (by assumption) (fun o ho w hSw => ?_) ?_
  rotate_left
  · replace ho := Option.some.inj ho
    conv at ho => lhs; whnf
    subst ho
    (try dsimp only at hSw)
    go_simp
    (try rfl)
  (try simp only [Act.put, List.setIfInBounds_toArray, List.set_cons_zero, List.set_cons_succ])
  refine hx_take 7 (some 27) ?_ (by kernel_rfl) (by kernel_rfl) (by kernel_rfl) (by kernel_rfl) (by kernel_rfl) (fun _ _ _ h => h) (by assumption) (fun o ho w hSw => ?_) ?_
  rotate_left
  · replace ho := Option.some.inj ho
    conv at ho => lhs; whnf
    subst ho
    (try dsimp only at hSw)
    go_simp
    (try rfl)
  (try simp only [Act.put, List.setIfInBounds_toArray, List.set_cons_zero, List.set_cons_succ])
  refine hx_take 8 (some 28) ?_ (by kernel_rfl) (by kernel_rfl) (by kernel_rfl) (by kernel_rfl) (by kernel_rfl) (fun _ _ _ h => h) (by assumption) (fun o ho w hSw => ?_) ?_
  rotate_left
  · replace ho := Option.some.inj ho
    conv at ho => lhs; whnf
    subst ho
    (try dsimp only at hSw)
    go_simp
    (try rfl)
  (try simp only [Act.put, List.setIfInBounds_toArray, List.set_cons_zero, List.set_cons_succ])
  refine hx_take 9 (some 29) ?_ (by kernel_rfl) (by kernel_rfl) (by kernel_rfl) (by kernel_rfl) (by kernel_rfl) (fun _ _ _ h => h) (by assumption) (fun o ho w hSw => ?_) ?_
  rotate_left
  · replace ho := Option.some.inj ho
    conv at ho => lhs; whnf
    subst ho
    (try dsimp only at hSw)
    go_simp
    (try rfl)
  (try simp only [Act.put, List.setIfInBounds_toArray, List.set_cons_zero, List.set_cons_succ])
  refine hx_act 10 (some 30) (by kernel_rfl) (by kernel_rfl) (by kernel_rfl) (fun K hK o ho => ?_)
  replace ho := Option.some.inj ho
  conv at ho => lhs; whnf
  subst ho
  go_simp
  (first
    | (go_at_call 15; (first | (with_reducible refine (crosses_v a b _ hab _ (HP.out.mono (GrS.fin (by assumption)))).mono ?_) | (with_reducible refine (crosses_v b a _ hba _ (HP.out.mono (GrS.fin (by assumption)))).mono ?_) | (with_reducible refine (crosses_v a c _ hac _ (HP.out.mono (GrS.fin (by assumption)))).mono ?_)); rintro e w1 ⟨rfl, hb1⟩; skip)
    | (go_at_call 14; (with_reducible refine (less_v c b _ hcb _ (HP.out.mono (GrS.fin (by assumption)))).mono ?_); rintro e w1 ⟨rfl, hb1⟩; skip)
    | (go_at_call 11; (with_reducible refine (works_c _ (HP.out.mono (GrS.fin (by assumption)))).mono ?_); rintro e w1 ⟨rfl, hb1⟩; skip))
  first | (refine hK _ _ ?_ (fun hHeld => ?_)) | (go_wp2_with fail; refine hK _ _ ?_ (fun hHeld => ?_))
  · exact GrS.call (by assumption) hb1
  clear hK K
  (try simp only [Act.put, List.setIfInBounds_toArray, List.set_cons_zero, List.set_cons_succ])
  refine hx_take 11 (some 31) ?_ (by kernel_rfl) (by kernel_rfl) (by kernel_rfl) (by kernel_rfl) (by kernel_rfl) (fun _ _ _ h => h) (by assumption) (fun o ho w hSw => ?_) ?_
  rotate_left
  · replace ho := Option.some.inj ho
    conv at ho => lhs; whnf
    subst ho
    (try dsimp only at hSw)
    go_simp
    (try rfl)
  (try simp only [Act.put, List.setIfInBounds_toArray, List.set_cons_zero, List.set_cons_succ])
  refine hx_take 12 (some 32) ?_ (by kernel_rfl) (by kernel_rfl) (by kernel_rfl) (by kernel_rfl) (by kernel_rfl) (fun _ _ _ h => h) (by assumption) (fun o ho w hSw => ?_) ?_
  rotate_left
  · replace ho := Option.some.inj ho
    conv at ho => lhs; whnf
    subst ho
    (try dsimp only at hSw)
    go_simp
    (try rfl)
  (try simp only [Act.put, List.setIfInBounds_toArray, List.set_cons_zero, List.set_cons_succ])
  refine hx_take 13 (some 33) ?_ (by kernel_rfl) (by kernel_rfl) (by kernel_rfl) (by kernel_rfl) (by kernel_rfl) (fun _ _ _ h => h) (by assumption) (fun o ho w hSw => ?_) ?_
  rotate_left
  · replace ho := Option.some.inj ho
    conv at ho => lhs; whnf
    subst ho
    (try dsimp only at hSw)
    go_simp
    (try rfl)
  (try simp only [Act.put, List.setIfInBounds_toArray, List.set_cons_zero, List.set_cons_succ])
  refine hx_act 14 (some 34) (by kernel_rfl) (by kernel_rfl) (by kernel_rfl) (fun K hK o ho => ?_)
  replace ho := Option.some.inj ho
  conv at ho => lhs; whnf
  subst ho
  go_simp
  (first
    | (go_at_call 15; (first | (with_reducible refine (crosses_v a b _ hab _ (HP.out.mono (GrS.fin (by assumption)))).mono ?_) | (with_reducible refine (crosses_v b a _ hba _ (HP.out.mono (GrS.fin (by assumption)))).mono ?_) | (with_reducible refine (crosses_v a c _ hac _ (HP.out.mono (GrS.fin (by assumption)))).mono ?_)); rintro e w1 ⟨rfl, hb1⟩; skip)
    | (go_at_call 14; (with_reducible refine (less_v c b _ hcb _ (HP.out.mono (GrS.fin (by assumption)))).mono ?_); rintro e w1 ⟨rfl, hb1⟩; skip)
    | (go_at_call 11; (with_reducible refine (works_c _ (HP.out.mono (GrS.fin (by assumption)))).mono ?_); rintro e w1 ⟨rfl, hb1⟩; skip))
  first | (refine hK _ _ ?_ (fun hHeld => ?_)) | (go_wp2_with fail; refine hK _ _ ?_ (fun hHeld => ?_))
  · exact GrS.call (by assumption) hb1
  clear hK K
  (try simp only [Act.put, List.setIfInBounds_toArray, List.set_cons_zero, List.set_cons_succ])
  refine hx_take 15 (some 35) ?_ (by kernel_rfl) (by kernel_rfl) (by kernel_rfl) (by kernel_rfl) (by kernel_rfl) (fun _ _ _ h => h) (by assumption) (fun o ho w hSw => ?_) ?_
  rotate_left
  · replace ho := Option.some.inj ho
    conv at ho => lhs; whnf
    subst ho
    (try dsimp only at hSw)
    go_simp
    (try rfl)
  (try simp only [Act.put, List.setIfInBounds_toArray, List.set_cons_zero, List.set_cons_succ])
  refine hx_take 16 (some 36) ?_ (by kernel_rfl) (by kernel_rfl) (by kernel_rfl) (by kernel_rfl) (by kernel_rfl) (fun _ _ _ h => h) (by assumption) (fun o ho w hSw => ?_) ?_
  rotate_left
  · replace ho := Option.some.inj ho
    conv at ho => lhs; whnf
    subst ho
    (try dsimp only at hSw)
    go_simp
    (try rfl)
  (try simp only [Act.put, List.setIfInBounds_toArray, List.set_cons_zero, List.set_cons_succ])
  (refine hx_skip 17 (some 37) (by kernel_rfl) (by kernel_rfl) (by kernel_rfl) (by kernel_rfl) (by kernel_rfl) (fun _ _ _ h => h) (by assumption) ?_; (try simp only [Act.put, List.setIfInBounds_toArray, List.set_cons_zero, List.set_cons_succ]))
  (refine hx_skip 18 (some 38) (by kernel_rfl) (by kernel_rfl) (by kernel_rfl) (by kernel_rfl) (by kernel_rfl) (fun _ _ _ h => h) (by assumption) ?_; (try simp only [Act.put, List.setIfInBounds_toArray, List.set_cons_zero, List.set_cons_succ]))
  (refine hx_skip 19 (some 39) (by kernel_rfl) (by kernel_rfl) (by kernel_rfl) (by kernel_rfl) (by kernel_rfl) (fun _ _ _ h => h) (by assumption) ?_; (try simp only [Act.put, List.setIfInBounds_toArray, List.set_cons_zero, List.set_cons_succ]))
  (refine hx_skip 20 (some 40) (by kernel_rfl) (by kernel_rfl) (by kernel_rfl) (by kernel_rfl) (by kernel_rfl) (fun _ _ _ h => h) (by assumption) ?_; (try simp only [Act.put, List.setIfInBounds_toArray, List.set_cons_zero, List.set_cons_succ]))
  refine hx_take 21 (some 41) ?_ (by kernel_rfl) (by kernel_rfl) (by kernel_rfl) (by kernel_rfl) (by kernel_rfl) (fun _ _ _ h => h) (by assumption) (fun o ho w hSw => ?_) ?_
  rotate_left
  · replace ho := Option.some.inj ho
    conv at ho => lhs; whnf
    subst ho
    (try dsimp only at hSw)
    go_simp
    (try rfl)
  (try simp only [Act.put, List.setIfInBounds_toArray, List.set_cons_zero, List.set_cons_succ])
  refine hx_take 22 (some 42) ?_ (by kernel_rfl) (by kernel_rfl) (by kernel_rfl) (by kernel_rfl) (by kernel_rfl) (fun _ _ _ h => h) (by assumption) (fun o ho w hSw => ?_) ?_
  rotate_left
  · replace ho := Option.some.inj ho
    conv at ho => lhs; whnf
    subst ho
    (try dsimp only at hSw)
    go_simp
    (try rfl)
  (try simp only [Act.put, List.setIfInBounds_toArray, List.set_cons_zero, List.set_cons_succ])
  refine wpAnyH_done (by kernel_rfl) ?_ _
  replace HG := Lib.hid (show GrS W _ from by assumption)
  go_wp2_with (go_at_call 16; (with_reducible refine (HF1.out _ HG.out.1).mono ?_); rintro e w1 ⟨rfl, hb1⟩; replace HG := Lib.hid (GrS.call HG.out hb1); clear hb1; (try clear hG); have hG := HG.out)
  obtain ⟨X, hX, hXb, hXs, hF⟩ := box1 w1 #[.int .i64 F.id, .int .i64 F.acct, .int .i64 F.inst, .int .u8 F.side, .int .i64 F.price, .int .i64 F.left] 23
  rw [hX]
  have HGX : Hid (GrS W X) := Lib.hid (GrS.call HG.out hXb)
  have hWX : W.heap.size ≤ X.heap.size := HGX.out.1.size
  have hN0 : w.heap.size < X.heap.size := by omega
  have hN9 : w1.heap.size < X.heap.size := by omega
  replace hA : ∀ i, X.cell? ⟨w.heap.size, i, none⟩ = #[.int .i64 a.id, .int .i64 a.acct, .int .i64 a.inst, .int .u8 a.side, .int .i64 a.price, .int .i64 a.left][i]? := fun i => by rw [HGX.out.2 _ _ (by omega)]; exact hA i
  have HBX : Hid (Below w.heap.size w X) := Lib.hid (grow_trans HWb.out HGX.out.1)
  have HSX : Hid (SlO X la lc xs) := Lib.hid (HSW.out.mono HGX.out.1)
  have HPX : Hid (PrW X) := Lib.hid (HP.out.mono HGX.out.1)
  clear hX hXb hXs hWs hB hC HP HSW HGX HG HWb HF1 HS hG
  generalize w1.heap.size = N9 at *
  have hmay : ∃ m, m = mayL xs := ⟨_, rfl⟩
  obtain ⟨m, hm⟩ := hmay
  have HMAY : Hid (∀ w1, Below X.heap.size X w1 → Calls Tryd.prog 17 #[.slice la n lc] w1 fun e w' => e = .returned (.bool m) ∧ Below w1.heap.size w1 w') := Lib.hid (fun w1 hb => by rw [HN.out, hm]; exact may_c la lc xs w1 (HSX.out.mono hb))
  have Hm := Lib.hid hm; clear hm
  go_loopw [11] (fun i wr => (∃ k : Nat, k ≤ n ∧ i = .int .i64 k) ∧ Hid (GrS X wr)) (fun i _ => n - (intOf i).toNat)
  case atStart => exact ⟨⟨0, Nat.zero_le _, rfl⟩, Lib.hid (GrS.refl X)⟩
  case round =>
    obtain ⟨⟨k, hk, rfl⟩, HB⟩ := hrel
    by_cases hlt : k < n
    · obtain ⟨x, HX⟩ : ∃ x, Hid (xs[k]? = some x) := ⟨_, Lib.hid (List.getElem?_eq_getElem (by have := HN.out; omega))⟩
      obtain ⟨b9, off, hla, hb9, h6⟩ := SlR.cells6 HSX.out (by intro h; have := HX.out; rw [h] at this; simp at this)
      subst hla
      obtain ⟨x0, x1, x2, x3, x4, x5⟩ := h6 k x HX.out
      have i0 : (0 : Int) ≤ (k : Int) := Int.natCast_nonneg _
      have i1 : (k : Int) < (n : Int) := by omega
      cases hcx : crosses a x with
      | false =>
        cases m with
        | false =>
          go_wp2_with fail
          refine wp_region_held_drew (S := fun w' => GrS X w') (by kernel_rfl) ?_ (fun hHeld => ?_)
          · exact GrS.start HB.out.1
          refine hx_take 0 (some 60) ?_ (by kernel_rfl) (by kernel_rfl) (by kernel_rfl) (by kernel_rfl) (by kernel_rfl) (fun _ _ _ h => h) (by assumption) (fun o ho w hSw => ?_) ?_
          rotate_left
          · replace ho := Option.some.inj ho
            conv at ho => lhs; whnf
            subst ho
            (try dsimp only at hSw)
            go_simp
            (try rfl)
          (try simp only [Act.put, List.setIfInBounds_toArray, List.set_cons_zero, List.set_cons_succ])
          refine hx_act 1 (some 61) (by kernel_rfl) (by kernel_rfl) (by kernel_rfl) (fun K hK o ho => ?_)
          replace ho := Option.some.inj ho
          conv at ho => lhs; whnf
          subst ho
          go_simp
          (first
            | (go_at_call 17; (with_reducible refine (HMAY.out _ (GrS.fin (by assumption))).mono ?_); rintro e w4 ⟨rfl, hb1⟩)
            | (go_at_call 15; (first | (with_reducible refine (crosses_v a x _ hcx _ (HPX.out.mono (GrS.fin (by assumption)))).mono ?_) | (with_reducible refine (crosses_v a F _ hcf _ (HPX.out.mono (GrS.fin (by assumption)))).mono ?_)); rintro e w4 ⟨rfl, hb1⟩))
          first | (refine hK _ _ ?_ (fun hHeld => ?_)) | (go_wp2_with fail; refine hK _ _ ?_ (fun hHeld => ?_))
          · exact GrS.call (by assumption) hb1
          clear hK K
          (try simp only [Act.put, List.setIfInBounds_toArray, List.set_cons_zero, List.set_cons_succ])
          refine hx_take 2 (some 62) ?_ (by kernel_rfl) (by kernel_rfl) (by kernel_rfl) (by kernel_rfl) (by kernel_rfl) (fun _ _ _ h => h) (by assumption) (fun o ho w hSw => ?_) ?_
          rotate_left
          · replace ho := Option.some.inj ho
            conv at ho => lhs; whnf
            subst ho
            (try dsimp only at hSw)
            go_simp
            (try rfl)
          (try simp only [Act.put, List.setIfInBounds_toArray, List.set_cons_zero, List.set_cons_succ])
          (refine hx_skip 3 (some 63) (by kernel_rfl) (by kernel_rfl) (by kernel_rfl) (by kernel_rfl) (by kernel_rfl) (fun _ _ _ h => h) (by assumption) ?_; (try simp only [Act.put, List.setIfInBounds_toArray, List.set_cons_zero, List.set_cons_succ]))
          (refine hx_skip 4 (some 64) (by kernel_rfl) (by kernel_rfl) (by kernel_rfl) (by kernel_rfl) (by kernel_rfl) (fun _ _ _ h => h) (by assumption) ?_; (try simp only [Act.put, List.setIfInBounds_toArray, List.set_cons_zero, List.set_cons_succ]))
          (refine hx_skip 5 (some 65) (by kernel_rfl) (by kernel_rfl) (by kernel_rfl) (by kernel_rfl) (by kernel_rfl) (fun _ _ _ h => h) (by assumption) ?_; (try simp only [Act.put, List.setIfInBounds_toArray, List.set_cons_zero, List.set_cons_succ]))
          (refine hx_skip 6 (some 66) (by kernel_rfl) (by kernel_rfl) (by kernel_rfl) (by kernel_rfl) (by kernel_rfl) (fun _ _ _ h => h) (by assumption) ?_; (try simp only [Act.put, List.setIfInBounds_toArray, List.set_cons_zero, List.set_cons_succ]))
          (refine hx_skip 7 (some 67) (by kernel_rfl) (by kernel_rfl) (by kernel_rfl) (by kernel_rfl) (by kernel_rfl) (fun _ _ _ h => h) (by assumption) ?_; (try simp only [Act.put, List.setIfInBounds_toArray, List.set_cons_zero, List.set_cons_succ]))
          (refine hx_skip 8 (some 68) (by kernel_rfl) (by kernel_rfl) (by kernel_rfl) (by kernel_rfl) (by kernel_rfl) (fun _ _ _ h => h) (by assumption) ?_; (try simp only [Act.put, List.setIfInBounds_toArray, List.set_cons_zero, List.set_cons_succ]))
          refine hx_take 9 (some 69) ?_ (by kernel_rfl) (by kernel_rfl) (by kernel_rfl) (by kernel_rfl) (by kernel_rfl) (fun _ _ _ h => h) (by assumption) (fun o ho w hSw => ?_) ?_
          rotate_left
          · replace ho := Option.some.inj ho
            conv at ho => lhs; whnf
            subst ho
            (try dsimp only at hSw)
            go_simp
            (try rfl)
          (try simp only [Act.put, List.setIfInBounds_toArray, List.set_cons_zero, List.set_cons_succ])
          refine hx_take 10 (some 70) ?_ (by kernel_rfl) (by kernel_rfl) (by kernel_rfl) (by kernel_rfl) (by kernel_rfl) (fun _ _ _ h => h) (by assumption) (fun o ho w hSw => ?_) ?_
          rotate_left
          · replace ho := Option.some.inj ho
            conv at ho => lhs; whnf
            subst ho
            (try dsimp only at hSw)
            go_simp
            (try rfl)
          (try simp only [Act.put, List.setIfInBounds_toArray, List.set_cons_zero, List.set_cons_succ])
          (refine hx_skip 11 (some 71) (by kernel_rfl) (by kernel_rfl) (by kernel_rfl) (by kernel_rfl) (by kernel_rfl) (fun _ _ _ h => h) (by assumption) ?_; (try simp only [Act.put, List.setIfInBounds_toArray, List.set_cons_zero, List.set_cons_succ]))
          (refine hx_skip 12 (some 72) (by kernel_rfl) (by kernel_rfl) (by kernel_rfl) (by kernel_rfl) (by kernel_rfl) (fun _ _ _ h => h) (by assumption) ?_; (try simp only [Act.put, List.setIfInBounds_toArray, List.set_cons_zero, List.set_cons_succ]))
          (refine hx_skip 13 (some 73) (by kernel_rfl) (by kernel_rfl) (by kernel_rfl) (by kernel_rfl) (by kernel_rfl) (fun _ _ _ h => h) (by assumption) ?_; (try simp only [Act.put, List.setIfInBounds_toArray, List.set_cons_zero, List.set_cons_succ]))
          (refine hx_skip 14 (some 74) (by kernel_rfl) (by kernel_rfl) (by kernel_rfl) (by kernel_rfl) (by kernel_rfl) (fun _ _ _ h => h) (by assumption) ?_; (try simp only [Act.put, List.setIfInBounds_toArray, List.set_cons_zero, List.set_cons_succ]))
          (refine hx_skip 15 (some 75) (by kernel_rfl) (by kernel_rfl) (by kernel_rfl) (by kernel_rfl) (by kernel_rfl) (fun _ _ _ h => h) (by assumption) ?_; (try simp only [Act.put, List.setIfInBounds_toArray, List.set_cons_zero, List.set_cons_succ]))
          (refine hx_skip 16 (some 76) (by kernel_rfl) (by kernel_rfl) (by kernel_rfl) (by kernel_rfl) (by kernel_rfl) (fun _ _ _ h => h) (by assumption) ?_; (try simp only [Act.put, List.setIfInBounds_toArray, List.set_cons_zero, List.set_cons_succ]))
          (refine hx_skip 17 (some 77) (by kernel_rfl) (by kernel_rfl) (by kernel_rfl) (by kernel_rfl) (by kernel_rfl) (fun _ _ _ h => h) (by assumption) ?_; (try simp only [Act.put, List.setIfInBounds_toArray, List.set_cons_zero, List.set_cons_succ]))
          (refine hx_skip 18 (some 78) (by kernel_rfl) (by kernel_rfl) (by kernel_rfl) (by kernel_rfl) (by kernel_rfl) (fun _ _ _ h => h) (by assumption) ?_; (try simp only [Act.put, List.setIfInBounds_toArray, List.set_cons_zero, List.set_cons_succ]))
          refine hx_take 19 (some 79) ?_ (by kernel_rfl) (by kernel_rfl) (by kernel_rfl) (by kernel_rfl) (by kernel_rfl) (fun _ _ _ h => h) (by assumption) (fun o ho w hSw => ?_) ?_
          rotate_left
          · replace ho := Option.some.inj ho
            conv at ho => lhs; whnf
            subst ho
            (try dsimp only at hSw)
            go_simp
            (try rfl)
          (try simp only [Act.put, List.setIfInBounds_toArray, List.set_cons_zero, List.set_cons_succ])
          refine wpAnyH_done (by kernel_rfl) ?_ _
          have HGE := Lib.hid (show GrS X _ from by assumption)
          go_wp2
          go_roundw
          case rel => exact ⟨⟨k + 1, by omega, by go_num⟩, HGE⟩
          case measure => simp [intOf]; omega
        | true =>
          go_wp2_with fail
          refine wp_region_held_drew (S := fun w' => GrS X w') (by kernel_rfl) ?_ (fun hHeld => ?_)
          · exact GrS.start HB.out.1
          refine hx_take 0 (some 60) ?_ (by kernel_rfl) (by kernel_rfl) (by kernel_rfl) (by kernel_rfl) (by kernel_rfl) (fun _ _ _ h => h) (by assumption) (fun o ho w hSw => ?_) ?_
          rotate_left
          · replace ho := Option.some.inj ho
            conv at ho => lhs; whnf
            subst ho
            (try dsimp only at hSw)
            go_simp
            (try rfl)
          (try simp only [Act.put, List.setIfInBounds_toArray, List.set_cons_zero, List.set_cons_succ])
          refine hx_act 1 (some 61) (by kernel_rfl) (by kernel_rfl) (by kernel_rfl) (fun K hK o ho => ?_)
          replace ho := Option.some.inj ho
          conv at ho => lhs; whnf
          subst ho
          go_simp
          (first
            | (go_at_call 17; (with_reducible refine (HMAY.out _ (GrS.fin (by assumption))).mono ?_); rintro e w4 ⟨rfl, hb1⟩)
            | (go_at_call 15; (first | (with_reducible refine (crosses_v a x _ hcx _ (HPX.out.mono (GrS.fin (by assumption)))).mono ?_) | (with_reducible refine (crosses_v a F _ hcf _ (HPX.out.mono (GrS.fin (by assumption)))).mono ?_)); rintro e w4 ⟨rfl, hb1⟩))
          first | (refine hK _ _ ?_ (fun hHeld => ?_)) | (go_wp2_with fail; refine hK _ _ ?_ (fun hHeld => ?_))
          · exact GrS.call (by assumption) hb1
          clear hK K
          (try simp only [Act.put, List.setIfInBounds_toArray, List.set_cons_zero, List.set_cons_succ])
          refine hx_take 2 (some 62) ?_ (by kernel_rfl) (by kernel_rfl) (by kernel_rfl) (by kernel_rfl) (by kernel_rfl) (fun _ _ _ h => h) (by assumption) (fun o ho w hSw => ?_) ?_
          rotate_left
          · replace ho := Option.some.inj ho
            conv at ho => lhs; whnf
            subst ho
            (try dsimp only at hSw)
            go_simp
            (try rfl)
          (try simp only [Act.put, List.setIfInBounds_toArray, List.set_cons_zero, List.set_cons_succ])
          refine hx_take 3 (some 63) ?_ (by kernel_rfl) (by kernel_rfl) (by kernel_rfl) (by kernel_rfl) (by kernel_rfl) (fun _ _ _ h => h) (by assumption) (fun o ho w hSw => ?_) ?_
          rotate_left
          · replace ho := Option.some.inj ho
            conv at ho => lhs; whnf
            subst ho
            (try dsimp only at hSw)
            go_simp
            (try rfl)
          (try simp only [Act.put, List.setIfInBounds_toArray, List.set_cons_zero, List.set_cons_succ])
          refine hx_take 4 (some 64) ?_ (by kernel_rfl) (by kernel_rfl) (by kernel_rfl) (by kernel_rfl) (by kernel_rfl) (fun _ _ _ h => h) (by assumption) (fun o ho w hSw => ?_) ?_
          rotate_left
          · replace ho := Option.some.inj ho
            conv at ho => lhs; whnf
            subst ho
            (try dsimp only at hSw)
            go_simp
            (try rfl)
          (try simp only [Act.put, List.setIfInBounds_toArray, List.set_cons_zero, List.set_cons_succ])
          refine hx_take 5 (some 65) ?_ (by kernel_rfl) (by kernel_rfl) (by kernel_rfl) (by kernel_rfl) (by kernel_rfl) (fun _ _ _ h => h) (by assumption) (fun o ho w hSw => ?_) ?_
          rotate_left
          · replace ho := Option.some.inj ho
            conv at ho => lhs; whnf
            subst ho
            (try dsimp only at hSw)
            go_simp
            (try rfl)
          (try simp only [Act.put, List.setIfInBounds_toArray, List.set_cons_zero, List.set_cons_succ])
          refine hx_take 6 (some 66) ?_ (by kernel_rfl) (by kernel_rfl) (by kernel_rfl) (by kernel_rfl) (by kernel_rfl) (fun _ _ _ h => h) (by assumption) (fun o ho w hSw => ?_) ?_
          rotate_left
          · replace ho := Option.some.inj ho
            conv at ho => lhs; whnf
            subst ho
            (try dsimp only at hSw)
            go_simp
            (try rfl)
          (try simp only [Act.put, List.setIfInBounds_toArray, List.set_cons_zero, List.set_cons_succ])
          refine hx_take 7 (some 67) ?_ (by kernel_rfl) (by kernel_rfl) (by kernel_rfl) (by kernel_rfl) (by kernel_rfl) (fun _ _ _ h => h) (by assumption) (fun o ho w hSw => ?_) ?_
          rotate_left
          · replace ho := Option.some.inj ho
            conv at ho => lhs; whnf
            subst ho
            (try dsimp only at hSw)
            go_simp
            (try rfl)
          (try simp only [Act.put, List.setIfInBounds_toArray, List.set_cons_zero, List.set_cons_succ])
          refine hx_act 8 (some 68) (by kernel_rfl) (by kernel_rfl) (by kernel_rfl) (fun K hK o ho => ?_)
          replace ho := Option.some.inj ho
          conv at ho => lhs; whnf
          subst ho
          go_simp
          (first
            | (go_at_call 17; (with_reducible refine (HMAY.out _ (GrS.fin (by assumption))).mono ?_); rintro e w4 ⟨rfl, hb1⟩)
            | (go_at_call 15; (first | (with_reducible refine (crosses_v a x _ hcx _ (HPX.out.mono (GrS.fin (by assumption)))).mono ?_) | (with_reducible refine (crosses_v a F _ hcf _ (HPX.out.mono (GrS.fin (by assumption)))).mono ?_)); rintro e w4 ⟨rfl, hb1⟩))
          first | (refine hK _ _ ?_ (fun hHeld => ?_)) | (go_wp2_with fail; refine hK _ _ ?_ (fun hHeld => ?_))
          · exact GrS.call (by assumption) hb1
          clear hK K
          (try simp only [Act.put, List.setIfInBounds_toArray, List.set_cons_zero, List.set_cons_succ])
          refine hx_take 9 (some 69) ?_ (by kernel_rfl) (by kernel_rfl) (by kernel_rfl) (by kernel_rfl) (by kernel_rfl) (fun _ _ _ h => h) (by assumption) (fun o ho w hSw => ?_) ?_
          rotate_left
          · replace ho := Option.some.inj ho
            conv at ho => lhs; whnf
            subst ho
            (try dsimp only at hSw)
            go_simp
            (try rfl)
          (try simp only [Act.put, List.setIfInBounds_toArray, List.set_cons_zero, List.set_cons_succ])
          refine hx_take 10 (some 70) ?_ (by kernel_rfl) (by kernel_rfl) (by kernel_rfl) (by kernel_rfl) (by kernel_rfl) (fun _ _ _ h => h) (by assumption) (fun o ho w hSw => ?_) ?_
          rotate_left
          · replace ho := Option.some.inj ho
            conv at ho => lhs; whnf
            subst ho
            (try dsimp only at hSw)
            go_simp
            (try rfl)
          (try simp only [Act.put, List.setIfInBounds_toArray, List.set_cons_zero, List.set_cons_succ])
          (refine hx_skip 11 (some 71) (by kernel_rfl) (by kernel_rfl) (by kernel_rfl) (by kernel_rfl) (by kernel_rfl) (fun _ _ _ h => h) (by assumption) ?_; (try simp only [Act.put, List.setIfInBounds_toArray, List.set_cons_zero, List.set_cons_succ]))
          (refine hx_skip 12 (some 72) (by kernel_rfl) (by kernel_rfl) (by kernel_rfl) (by kernel_rfl) (by kernel_rfl) (fun _ _ _ h => h) (by assumption) ?_; (try simp only [Act.put, List.setIfInBounds_toArray, List.set_cons_zero, List.set_cons_succ]))
          (refine hx_skip 13 (some 73) (by kernel_rfl) (by kernel_rfl) (by kernel_rfl) (by kernel_rfl) (by kernel_rfl) (fun _ _ _ h => h) (by assumption) ?_; (try simp only [Act.put, List.setIfInBounds_toArray, List.set_cons_zero, List.set_cons_succ]))
          (refine hx_skip 14 (some 74) (by kernel_rfl) (by kernel_rfl) (by kernel_rfl) (by kernel_rfl) (by kernel_rfl) (fun _ _ _ h => h) (by assumption) ?_; (try simp only [Act.put, List.setIfInBounds_toArray, List.set_cons_zero, List.set_cons_succ]))
          (refine hx_skip 15 (some 75) (by kernel_rfl) (by kernel_rfl) (by kernel_rfl) (by kernel_rfl) (by kernel_rfl) (fun _ _ _ h => h) (by assumption) ?_; (try simp only [Act.put, List.setIfInBounds_toArray, List.set_cons_zero, List.set_cons_succ]))
          (refine hx_skip 16 (some 76) (by kernel_rfl) (by kernel_rfl) (by kernel_rfl) (by kernel_rfl) (by kernel_rfl) (fun _ _ _ h => h) (by assumption) ?_; (try simp only [Act.put, List.setIfInBounds_toArray, List.set_cons_zero, List.set_cons_succ]))
          (refine hx_skip 17 (some 77) (by kernel_rfl) (by kernel_rfl) (by kernel_rfl) (by kernel_rfl) (by kernel_rfl) (fun _ _ _ h => h) (by assumption) ?_; (try simp only [Act.put, List.setIfInBounds_toArray, List.set_cons_zero, List.set_cons_succ]))
          (refine hx_skip 18 (some 78) (by kernel_rfl) (by kernel_rfl) (by kernel_rfl) (by kernel_rfl) (by kernel_rfl) (fun _ _ _ h => h) (by assumption) ?_; (try simp only [Act.put, List.setIfInBounds_toArray, List.set_cons_zero, List.set_cons_succ]))
          refine hx_take 19 (some 79) ?_ (by kernel_rfl) (by kernel_rfl) (by kernel_rfl) (by kernel_rfl) (by kernel_rfl) (fun _ _ _ h => h) (by assumption) (fun o ho w hSw => ?_) ?_
          rotate_left
          · replace ho := Option.some.inj ho
            conv at ho => lhs; whnf
            subst ho
            (try dsimp only at hSw)
            go_simp
            (try rfl)
          (try simp only [Act.put, List.setIfInBounds_toArray, List.set_cons_zero, List.set_cons_succ])
          refine wpAnyH_done (by kernel_rfl) ?_ _
          have HGE := Lib.hid (show GrS X _ from by assumption)
          go_wp2
          go_roundw
          case rel => exact ⟨⟨k + 1, by omega, by go_num⟩, HGE⟩
          case measure => simp [intOf]; omega
      | true =>
        cases m with
        | false =>
          go_wp2_with fail
          refine wp_region_held_drew (S := fun w' => GrS X w') (by kernel_rfl) ?_ (fun hHeld => ?_)
          · exact GrS.start HB.out.1
          refine hx_take 0 (some 60) ?_ (by kernel_rfl) (by kernel_rfl) (by kernel_rfl) (by kernel_rfl) (by kernel_rfl) (fun _ _ _ h => h) (by assumption) (fun o ho w hSw => ?_) ?_
          rotate_left
          · replace ho := Option.some.inj ho
            conv at ho => lhs; whnf
            subst ho
            (try dsimp only at hSw)
            go_simp
            (try rfl)
          (try simp only [Act.put, List.setIfInBounds_toArray, List.set_cons_zero, List.set_cons_succ])
          refine hx_act 1 (some 61) (by kernel_rfl) (by kernel_rfl) (by kernel_rfl) (fun K hK o ho => ?_)
          replace ho := Option.some.inj ho
          conv at ho => lhs; whnf
          subst ho
          go_simp
          (first
            | (go_at_call 17; (with_reducible refine (HMAY.out _ (GrS.fin (by assumption))).mono ?_); rintro e w4 ⟨rfl, hb1⟩)
            | (go_at_call 15; (first | (with_reducible refine (crosses_v a x _ hcx _ (HPX.out.mono (GrS.fin (by assumption)))).mono ?_) | (with_reducible refine (crosses_v a F _ hcf _ (HPX.out.mono (GrS.fin (by assumption)))).mono ?_)); rintro e w4 ⟨rfl, hb1⟩))
          first | (refine hK _ _ ?_ (fun hHeld => ?_)) | (go_wp2_with fail; refine hK _ _ ?_ (fun hHeld => ?_))
          · exact GrS.call (by assumption) hb1
          clear hK K
          (try simp only [Act.put, List.setIfInBounds_toArray, List.set_cons_zero, List.set_cons_succ])
          refine hx_take 2 (some 62) ?_ (by kernel_rfl) (by kernel_rfl) (by kernel_rfl) (by kernel_rfl) (by kernel_rfl) (fun _ _ _ h => h) (by assumption) (fun o ho w hSw => ?_) ?_
          rotate_left
          · replace ho := Option.some.inj ho
            conv at ho => lhs; whnf
            subst ho
            (try dsimp only at hSw)
            go_simp
            (try rfl)
          (try simp only [Act.put, List.setIfInBounds_toArray, List.set_cons_zero, List.set_cons_succ])
          (refine hx_skip 3 (some 63) (by kernel_rfl) (by kernel_rfl) (by kernel_rfl) (by kernel_rfl) (by kernel_rfl) (fun _ _ _ h => h) (by assumption) ?_; (try simp only [Act.put, List.setIfInBounds_toArray, List.set_cons_zero, List.set_cons_succ]))
          (refine hx_skip 4 (some 64) (by kernel_rfl) (by kernel_rfl) (by kernel_rfl) (by kernel_rfl) (by kernel_rfl) (fun _ _ _ h => h) (by assumption) ?_; (try simp only [Act.put, List.setIfInBounds_toArray, List.set_cons_zero, List.set_cons_succ]))
          (refine hx_skip 5 (some 65) (by kernel_rfl) (by kernel_rfl) (by kernel_rfl) (by kernel_rfl) (by kernel_rfl) (fun _ _ _ h => h) (by assumption) ?_; (try simp only [Act.put, List.setIfInBounds_toArray, List.set_cons_zero, List.set_cons_succ]))
          (refine hx_skip 6 (some 66) (by kernel_rfl) (by kernel_rfl) (by kernel_rfl) (by kernel_rfl) (by kernel_rfl) (fun _ _ _ h => h) (by assumption) ?_; (try simp only [Act.put, List.setIfInBounds_toArray, List.set_cons_zero, List.set_cons_succ]))
          (refine hx_skip 7 (some 67) (by kernel_rfl) (by kernel_rfl) (by kernel_rfl) (by kernel_rfl) (by kernel_rfl) (fun _ _ _ h => h) (by assumption) ?_; (try simp only [Act.put, List.setIfInBounds_toArray, List.set_cons_zero, List.set_cons_succ]))
          (refine hx_skip 8 (some 68) (by kernel_rfl) (by kernel_rfl) (by kernel_rfl) (by kernel_rfl) (by kernel_rfl) (fun _ _ _ h => h) (by assumption) ?_; (try simp only [Act.put, List.setIfInBounds_toArray, List.set_cons_zero, List.set_cons_succ]))
          refine hx_take 9 (some 69) ?_ (by kernel_rfl) (by kernel_rfl) (by kernel_rfl) (by kernel_rfl) (by kernel_rfl) (fun _ _ _ h => h) (by assumption) (fun o ho w hSw => ?_) ?_
          rotate_left
          · replace ho := Option.some.inj ho
            conv at ho => lhs; whnf
            subst ho
            (try dsimp only at hSw)
            go_simp
            (try rfl)
          (try simp only [Act.put, List.setIfInBounds_toArray, List.set_cons_zero, List.set_cons_succ])
          refine hx_take 10 (some 70) ?_ (by kernel_rfl) (by kernel_rfl) (by kernel_rfl) (by kernel_rfl) (by kernel_rfl) (fun _ _ _ h => h) (by assumption) (fun o ho w hSw => ?_) ?_
          rotate_left
          · replace ho := Option.some.inj ho
            conv at ho => lhs; whnf
            subst ho
            (try dsimp only at hSw)
            go_simp
            (try rfl)
          (try simp only [Act.put, List.setIfInBounds_toArray, List.set_cons_zero, List.set_cons_succ])
          (refine hx_skip 11 (some 71) (by kernel_rfl) (by kernel_rfl) (by kernel_rfl) (by kernel_rfl) (by kernel_rfl) (fun _ _ _ h => h) (by assumption) ?_; (try simp only [Act.put, List.setIfInBounds_toArray, List.set_cons_zero, List.set_cons_succ]))
          (refine hx_skip 12 (some 72) (by kernel_rfl) (by kernel_rfl) (by kernel_rfl) (by kernel_rfl) (by kernel_rfl) (fun _ _ _ h => h) (by assumption) ?_; (try simp only [Act.put, List.setIfInBounds_toArray, List.set_cons_zero, List.set_cons_succ]))
          (refine hx_skip 13 (some 73) (by kernel_rfl) (by kernel_rfl) (by kernel_rfl) (by kernel_rfl) (by kernel_rfl) (fun _ _ _ h => h) (by assumption) ?_; (try simp only [Act.put, List.setIfInBounds_toArray, List.set_cons_zero, List.set_cons_succ]))
          (refine hx_skip 14 (some 74) (by kernel_rfl) (by kernel_rfl) (by kernel_rfl) (by kernel_rfl) (by kernel_rfl) (fun _ _ _ h => h) (by assumption) ?_; (try simp only [Act.put, List.setIfInBounds_toArray, List.set_cons_zero, List.set_cons_succ]))
          (refine hx_skip 15 (some 75) (by kernel_rfl) (by kernel_rfl) (by kernel_rfl) (by kernel_rfl) (by kernel_rfl) (fun _ _ _ h => h) (by assumption) ?_; (try simp only [Act.put, List.setIfInBounds_toArray, List.set_cons_zero, List.set_cons_succ]))
          (refine hx_skip 16 (some 76) (by kernel_rfl) (by kernel_rfl) (by kernel_rfl) (by kernel_rfl) (by kernel_rfl) (fun _ _ _ h => h) (by assumption) ?_; (try simp only [Act.put, List.setIfInBounds_toArray, List.set_cons_zero, List.set_cons_succ]))
          (refine hx_skip 17 (some 77) (by kernel_rfl) (by kernel_rfl) (by kernel_rfl) (by kernel_rfl) (by kernel_rfl) (fun _ _ _ h => h) (by assumption) ?_; (try simp only [Act.put, List.setIfInBounds_toArray, List.set_cons_zero, List.set_cons_succ]))
          (refine hx_skip 18 (some 78) (by kernel_rfl) (by kernel_rfl) (by kernel_rfl) (by kernel_rfl) (by kernel_rfl) (fun _ _ _ h => h) (by assumption) ?_; (try simp only [Act.put, List.setIfInBounds_toArray, List.set_cons_zero, List.set_cons_succ]))
          refine hx_take 19 (some 79) ?_ (by kernel_rfl) (by kernel_rfl) (by kernel_rfl) (by kernel_rfl) (by kernel_rfl) (fun _ _ _ h => h) (by assumption) (fun o ho w hSw => ?_) ?_
          rotate_left
          · replace ho := Option.some.inj ho
            conv at ho => lhs; whnf
            subst ho
            (try dsimp only at hSw)
            go_simp
            (try rfl)
          (try simp only [Act.put, List.setIfInBounds_toArray, List.set_cons_zero, List.set_cons_succ])
          refine wpAnyH_done (by kernel_rfl) ?_ _
          have HGE := Lib.hid (show GrS X _ from by assumption)
          go_wp2
          go_roundw
          case rel => exact ⟨⟨k + 1, by omega, by go_num⟩, HGE⟩
          case measure => simp [intOf]; omega
        | true =>
          obtain ⟨his, hcf⟩ := HF2.out (by obtain ⟨q1, _⟩ := crosses_iff.1 hcx; have := side_of q1; omega) Hm.out.symm x (List.mem_of_getElem? HX.out) hcx
          subst his
          go_wp2_with fail
          refine wp_region_held_drew (S := fun w' => GrS X w') (by kernel_rfl) ?_ (fun hHeld => ?_)
          · exact GrS.start HB.out.1
          refine hx_take 0 (some 60) ?_ (by kernel_rfl) (by kernel_rfl) (by kernel_rfl) (by kernel_rfl) (by kernel_rfl) (fun _ _ _ h => h) (by assumption) (fun o ho w hSw => ?_) ?_
          rotate_left
          · replace ho := Option.some.inj ho
            conv at ho => lhs; whnf
            subst ho
            (try dsimp only at hSw)
            go_simp
            (try rfl)
          (try simp only [Act.put, List.setIfInBounds_toArray, List.set_cons_zero, List.set_cons_succ])
          refine hx_act 1 (some 61) (by kernel_rfl) (by kernel_rfl) (by kernel_rfl) (fun K hK o ho => ?_)
          replace ho := Option.some.inj ho
          conv at ho => lhs; whnf
          subst ho
          go_simp
          (first
            | (go_at_call 17; (with_reducible refine (HMAY.out _ (GrS.fin (by assumption))).mono ?_); rintro e w4 ⟨rfl, hb1⟩)
            | (go_at_call 15; (first | (with_reducible refine (crosses_v a x _ hcx _ (HPX.out.mono (GrS.fin (by assumption)))).mono ?_) | (with_reducible refine (crosses_v a F _ hcf _ (HPX.out.mono (GrS.fin (by assumption)))).mono ?_)); rintro e w4 ⟨rfl, hb1⟩))
          first | (refine hK _ _ ?_ (fun hHeld => ?_)) | (go_wp2_with fail; refine hK _ _ ?_ (fun hHeld => ?_))
          · exact GrS.call (by assumption) hb1
          clear hK K
          (try simp only [Act.put, List.setIfInBounds_toArray, List.set_cons_zero, List.set_cons_succ])
          refine hx_take 2 (some 62) ?_ (by kernel_rfl) (by kernel_rfl) (by kernel_rfl) (by kernel_rfl) (by kernel_rfl) (fun _ _ _ h => h) (by assumption) (fun o ho w hSw => ?_) ?_
          rotate_left
          · replace ho := Option.some.inj ho
            conv at ho => lhs; whnf
            subst ho
            (try dsimp only at hSw)
            go_simp
            (try rfl)
          (try simp only [Act.put, List.setIfInBounds_toArray, List.set_cons_zero, List.set_cons_succ])
          refine hx_take 3 (some 63) ?_ (by kernel_rfl) (by kernel_rfl) (by kernel_rfl) (by kernel_rfl) (by kernel_rfl) (fun _ _ _ h => h) (by assumption) (fun o ho w hSw => ?_) ?_
          rotate_left
          · replace ho := Option.some.inj ho
            conv at ho => lhs; whnf
            subst ho
            (try dsimp only at hSw)
            go_simp
            (try rfl)
          (try simp only [Act.put, List.setIfInBounds_toArray, List.set_cons_zero, List.set_cons_succ])
          refine hx_take 4 (some 64) ?_ (by kernel_rfl) (by kernel_rfl) (by kernel_rfl) (by kernel_rfl) (by kernel_rfl) (fun _ _ _ h => h) (by assumption) (fun o ho w hSw => ?_) ?_
          rotate_left
          · replace ho := Option.some.inj ho
            conv at ho => lhs; whnf
            subst ho
            (try dsimp only at hSw)
            go_simp
            (try rfl)
          (try simp only [Act.put, List.setIfInBounds_toArray, List.set_cons_zero, List.set_cons_succ])
          refine hx_take 5 (some 65) ?_ (by kernel_rfl) (by kernel_rfl) (by kernel_rfl) (by kernel_rfl) (by kernel_rfl) (fun _ _ _ h => h) (by assumption) (fun o ho w hSw => ?_) ?_
          rotate_left
          · replace ho := Option.some.inj ho
            conv at ho => lhs; whnf
            subst ho
            (try dsimp only at hSw)
            go_simp
            (try rfl)
          (try simp only [Act.put, List.setIfInBounds_toArray, List.set_cons_zero, List.set_cons_succ])
          refine hx_take 6 (some 66) ?_ (by kernel_rfl) (by kernel_rfl) (by kernel_rfl) (by kernel_rfl) (by kernel_rfl) (fun _ _ _ h => h) (by assumption) (fun o ho w hSw => ?_) ?_
          rotate_left
          · replace ho := Option.some.inj ho
            conv at ho => lhs; whnf
            subst ho
            (try dsimp only at hSw)
            go_simp
            (try rfl)
          (try simp only [Act.put, List.setIfInBounds_toArray, List.set_cons_zero, List.set_cons_succ])
          refine hx_take 7 (some 67) ?_ (by kernel_rfl) (by kernel_rfl) (by kernel_rfl) (by kernel_rfl) (by kernel_rfl) (fun _ _ _ h => h) (by assumption) (fun o ho w hSw => ?_) ?_
          rotate_left
          · replace ho := Option.some.inj ho
            conv at ho => lhs; whnf
            subst ho
            (try dsimp only at hSw)
            go_simp
            (try rfl)
          (try simp only [Act.put, List.setIfInBounds_toArray, List.set_cons_zero, List.set_cons_succ])
          refine hx_act 8 (some 68) (by kernel_rfl) (by kernel_rfl) (by kernel_rfl) (fun K hK o ho => ?_)
          replace ho := Option.some.inj ho
          conv at ho => lhs; whnf
          subst ho
          go_simp
          (first
            | (go_at_call 17; (with_reducible refine (HMAY.out _ (GrS.fin (by assumption))).mono ?_); rintro e w4 ⟨rfl, hb1⟩)
            | (go_at_call 15; (first | (with_reducible refine (crosses_v a x _ hcx _ (HPX.out.mono (GrS.fin (by assumption)))).mono ?_) | (with_reducible refine (crosses_v a F _ hcf _ (HPX.out.mono (GrS.fin (by assumption)))).mono ?_)); rintro e w4 ⟨rfl, hb1⟩))
          first | (refine hK _ _ ?_ (fun hHeld => ?_)) | (go_wp2_with fail; refine hK _ _ ?_ (fun hHeld => ?_))
          · exact GrS.call (by assumption) hb1
          clear hK K
          (try simp only [Act.put, List.setIfInBounds_toArray, List.set_cons_zero, List.set_cons_succ])
          refine hx_take 9 (some 69) ?_ (by kernel_rfl) (by kernel_rfl) (by kernel_rfl) (by kernel_rfl) (by kernel_rfl) (fun _ _ _ h => h) (by assumption) (fun o ho w hSw => ?_) ?_
          rotate_left
          · replace ho := Option.some.inj ho
            conv at ho => lhs; whnf
            subst ho
            (try dsimp only at hSw)
            go_simp
            (try rfl)
          (try simp only [Act.put, List.setIfInBounds_toArray, List.set_cons_zero, List.set_cons_succ])
          refine hx_take 10 (some 70) ?_ (by kernel_rfl) (by kernel_rfl) (by kernel_rfl) (by kernel_rfl) (by kernel_rfl) (fun _ _ _ h => h) (by assumption) (fun o ho w hSw => ?_) ?_
          rotate_left
          · replace ho := Option.some.inj ho
            conv at ho => lhs; whnf
            subst ho
            (try dsimp only at hSw)
            go_simp
            (try rfl)
          (try simp only [Act.put, List.setIfInBounds_toArray, List.set_cons_zero, List.set_cons_succ])
          refine hx_take 11 (some 71) ?_ (by kernel_rfl) (by kernel_rfl) (by kernel_rfl) (by kernel_rfl) (by kernel_rfl) (fun _ _ _ h => h) (by assumption) (fun o ho w hSw => ?_) ?_
          rotate_left
          · replace ho := Option.some.inj ho
            conv at ho => lhs; whnf
            subst ho
            (try dsimp only at hSw)
            go_simp
            (try rfl)
          (try simp only [Act.put, List.setIfInBounds_toArray, List.set_cons_zero, List.set_cons_succ])
          refine hx_take 12 (some 72) ?_ (by kernel_rfl) (by kernel_rfl) (by kernel_rfl) (by kernel_rfl) (by kernel_rfl) (fun _ _ _ h => h) (by assumption) (fun o ho w hSw => ?_) ?_
          rotate_left
          · replace ho := Option.some.inj ho
            conv at ho => lhs; whnf
            subst ho
            (try dsimp only at hSw)
            go_simp
            (try rfl)
          (try simp only [Act.put, List.setIfInBounds_toArray, List.set_cons_zero, List.set_cons_succ])
          refine hx_take 13 (some 73) ?_ (by kernel_rfl) (by kernel_rfl) (by kernel_rfl) (by kernel_rfl) (by kernel_rfl) (fun _ _ _ h => h) (by assumption) (fun o ho w hSw => ?_) ?_
          rotate_left
          · replace ho := Option.some.inj ho
            conv at ho => lhs; whnf
            subst ho
            (try dsimp only at hSw)
            go_simp
            (try rfl)
          (try simp only [Act.put, List.setIfInBounds_toArray, List.set_cons_zero, List.set_cons_succ])
          refine hx_take 14 (some 74) ?_ (by kernel_rfl) (by kernel_rfl) (by kernel_rfl) (by kernel_rfl) (by kernel_rfl) (fun _ _ _ h => h) (by assumption) (fun o ho w hSw => ?_) ?_
          rotate_left
          · replace ho := Option.some.inj ho
            conv at ho => lhs; whnf
            subst ho
            (try dsimp only at hSw)
            go_simp
            (try rfl)
          (try simp only [Act.put, List.setIfInBounds_toArray, List.set_cons_zero, List.set_cons_succ])
          refine hx_take 15 (some 75) ?_ (by kernel_rfl) (by kernel_rfl) (by kernel_rfl) (by kernel_rfl) (by kernel_rfl) (fun _ _ _ h => h) (by assumption) (fun o ho w hSw => ?_) ?_
          rotate_left
          · replace ho := Option.some.inj ho
            conv at ho => lhs; whnf
            subst ho
            (try dsimp only at hSw)
            go_simp
            (try rfl)
          (try simp only [Act.put, List.setIfInBounds_toArray, List.set_cons_zero, List.set_cons_succ])
          refine hx_act 16 (some 76) (by kernel_rfl) (by kernel_rfl) (by kernel_rfl) (fun K hK o ho => ?_)
          replace ho := Option.some.inj ho
          conv at ho => lhs; whnf
          subst ho
          go_simp
          (first
            | (go_at_call 17; (with_reducible refine (HMAY.out _ (GrS.fin (by assumption))).mono ?_); rintro e w4 ⟨rfl, hb1⟩)
            | (go_at_call 15; (first | (with_reducible refine (crosses_v a x _ hcx _ (HPX.out.mono (GrS.fin (by assumption)))).mono ?_) | (with_reducible refine (crosses_v a F _ hcf _ (HPX.out.mono (GrS.fin (by assumption)))).mono ?_)); rintro e w4 ⟨rfl, hb1⟩))
          first | (refine hK _ _ ?_ (fun hHeld => ?_)) | (go_wp2_with fail; refine hK _ _ ?_ (fun hHeld => ?_))
          · exact GrS.call (by assumption) hb1
          clear hK K
          (try simp only [Act.put, List.setIfInBounds_toArray, List.set_cons_zero, List.set_cons_succ])
          refine hx_take 17 (some 77) ?_ (by kernel_rfl) (by kernel_rfl) (by kernel_rfl) (by kernel_rfl) (by kernel_rfl) (fun _ _ _ h => h) (by assumption) (fun o ho w hSw => ?_) ?_
          rotate_left
          · replace ho := Option.some.inj ho
            conv at ho => lhs; whnf
            subst ho
            (try dsimp only at hSw)
            go_simp
            (try rfl)
          (try simp only [Act.put, List.setIfInBounds_toArray, List.set_cons_zero, List.set_cons_succ])
          refine hx_take 18 (some 78) ?_ (by kernel_rfl) (by kernel_rfl) (by kernel_rfl) (by kernel_rfl) (by kernel_rfl) (fun _ _ _ h => h) (by assumption) (fun o ho w hSw => ?_) ?_
          rotate_left
          · replace ho := Option.some.inj ho
            conv at ho => lhs; whnf
            subst ho
            (try dsimp only at hSw)
            go_simp
            (try rfl)
          (try simp only [Act.put, List.setIfInBounds_toArray, List.set_cons_zero, List.set_cons_succ])
          refine hx_take 19 (some 79) ?_ (by kernel_rfl) (by kernel_rfl) (by kernel_rfl) (by kernel_rfl) (by kernel_rfl) (fun _ _ _ h => h) (by assumption) (fun o ho w hSw => ?_) ?_
          rotate_left
          · replace ho := Option.some.inj ho
            conv at ho => lhs; whnf
            subst ho
            (try dsimp only at hSw)
            go_simp
            (try rfl)
          (try simp only [Act.put, List.setIfInBounds_toArray, List.set_cons_zero, List.set_cons_succ])
          refine wpAnyH_done (by kernel_rfl) ?_ _
          have HGE := Lib.hid (show GrS X _ from by assumption)
          go_wp2
          go_roundw
          case rel => exact ⟨⟨k + 1, by omega, by go_num⟩, HGE⟩
          case measure => simp [intOf]; omega
    · go_wp2
      go_ret
      exact ⟨rfl, grow_trans HBX.out HB.out.1⟩
set_option maxHeartbeats 4000000 in
theorem lawCr_z (la : Option Addr) (lc n : Nat) (xs : List Ord) (a b c : Ord) (w : World) (HS : Hid (SlO w la lc xs)) (HN : Hid (n = xs.length)) (hp : PrW w) (hn : decide (200 < (n : Int)) = false)
    (hab : crosses a b = true) (hba : crosses b a = true) (hcb : less c b = true) (hac : crosses a c = true) :
    Calls Tryd.prog 5 #[.slice la n lc, (.agg #[.int .i64 a.id, .int .i64 a.acct, .int .i64 a.inst, .int .u8 a.side, .int .i64 a.price, .int .i64 a.left]), (.agg #[.int .i64 b.id, .int .i64 b.acct, .int .i64 b.inst, .int .u8 b.side, .int .i64 b.price, .int .i64 b.left]), (.agg #[.int .i64 c.id, .int .i64 c.acct, .int .i64 c.inst, .int .u8 c.side, .int .i64 c.price, .int .i64 c.left])] w fun e w' => e = .returned (.bool true) ∧ Below w.heap.size w w' := by
  have hle : n ≤ 200 := by simp at hn; omega
  obtain ⟨W, hW, hWb, hWs, hA, hB, hC⟩ := box3 w #[.int .i64 a.id, .int .i64 a.acct, .int .i64 a.inst, .int .u8 a.side, .int .i64 a.price, .int .i64 a.left] #[.int .i64 b.id, .int .i64 b.acct, .int .i64 b.inst, .int .u8 b.side, .int .i64 b.price, .int .i64 b.left] #[.int .i64 c.id, .int .i64 c.acct, .int .i64 c.inst, .int .u8 c.side, .int .i64 c.price, .int .i64 c.left] 23
  have HWb := Lib.hid hWb; clear hWb
  have HG := Lib.hid (GrS.refl W)
  have HP := Lib.hid (hp.mono HWb.out); clear hp
  have HSW : Hid (SlO W la lc xs) := Lib.hid (HS.out.mono HWb.out)
  obtain ⟨F, is, HF1, HF2⟩ := first_for la lc n xs a W HSW HN (by omega) HP ((3 - min a.side 3) % 256)
  go_enter Tryd.func5, Tryd.ntmps5
  go_wp2_with (first
    | (go_at_call 15; (first | (with_reducible refine (crosses_v a b _ hab _ (HP.out.mono HG.out.1)).mono ?_) | (with_reducible refine (crosses_v b a _ hba _ (HP.out.mono HG.out.1)).mono ?_) | (with_reducible refine (crosses_v a c _ hac _ (HP.out.mono HG.out.1)).mono ?_)); rintro e w1 ⟨rfl, hb1⟩; replace HG := Lib.hid (GrS.call HG.out hb1); clear hb1; (try clear hG); have hG := HG.out)
    | (go_at_call 14; (with_reducible refine (less_v c b _ hcb _ (HP.out.mono HG.out.1)).mono ?_); rintro e w1 ⟨rfl, hb1⟩; replace HG := Lib.hid (GrS.call HG.out hb1); clear hb1; (try clear hG); have hG := HG.out)
    | (go_at_call 11; (with_reducible refine (works_c _ (HP.out.mono HG.out.1)).mono ?_); rintro e w1 ⟨rfl, hb1⟩; replace HG := Lib.hid (GrS.call HG.out hb1); clear hb1; (try clear hG); have hG := HG.out))
  clear hW
  refine wp_region_held_drew (S := fun w' => GrS W w') (by kernel_rfl) ?_ (fun hHeld => ?_)
  · exact GrS.start HG.out.1
  refine hx_take 0 (some 20) ?_ (by kernel_rfl) (by kernel_rfl) (by kernel_rfl) (by kernel_rfl) (by kernel_rfl) (fun _ _ _ h => h) (by assumption) (fun o ho w hSw => ?_) ?_
  rotate_left
  · replace ho := Option.some.inj ho
    conv at ho => lhs; whnf
    subst ho
    (try dsimp only at hSw)
    go_simp
    (try rfl)
  (try simp only [Act.put, List.setIfInBounds_toArray, List.set_cons_zero, List.set_cons_succ])
  refine hx_take 1 (some 21) ?_ (by kernel_rfl) (by kernel_rfl) (by kernel_rfl) (by kernel_rfl) (by kernel_rfl) (fun _ _ _ h => h) (by assumption) (fun o ho w hSw => ?_) ?_
  rotate_left
  · replace ho := Option.some.inj ho
    conv at ho => lhs; whnf
    subst ho
    (try dsimp only at hSw)
    go_simp
    (try rfl)
  (try simp only [Act.put, List.setIfInBounds_toArray, List.set_cons_zero, List.set_cons_succ])
  refine hx_take 3 (some 23) ?_ (by kernel_rfl) (by kernel_rfl) (by kernel_rfl) (by kernel_rfl) (by kernel_rfl) (fun _ _ _ h => h) (by assumption) (fun o ho w hSw => ?_) ?_
  rotate_left
  · replace ho := Option.some.inj ho
    conv at ho => lhs; whnf
    subst ho
    (try dsimp only at hSw)
    go_simp
    (try rfl)
  (try simp only [Act.put, List.setIfInBounds_toArray, List.set_cons_zero, List.set_cons_succ])
  refine hx_take 4 (some 24) ?_ (by kernel_rfl) (by kernel_rfl) (by kernel_rfl) (by kernel_rfl) (by kernel_rfl) (fun _ _ _ h => h) (by assumption) (fun o ho w hSw => ?_) ?_
  rotate_left
  · replace ho := Option.some.inj ho
    conv at ho => lhs; whnf
    subst ho
    (try dsimp only at hSw)
    go_simp
    (try rfl)
  (try simp only [Act.put, List.setIfInBounds_toArray, List.set_cons_zero, List.set_cons_succ])
  refine hx_act 2 (some 22) (by kernel_rfl) (by kernel_rfl) (by kernel_rfl) (fun K hK o ho => ?_)
  replace ho := Option.some.inj ho
  conv at ho => lhs; whnf
  subst ho
  go_simp
  (first
    | (go_at_call 15; (first | (with_reducible refine (crosses_v a b _ hab _ (HP.out.mono (GrS.fin (by assumption)))).mono ?_) | (with_reducible refine (crosses_v b a _ hba _ (HP.out.mono (GrS.fin (by assumption)))).mono ?_) | (with_reducible refine (crosses_v a c _ hac _ (HP.out.mono (GrS.fin (by assumption)))).mono ?_)); rintro e w1 ⟨rfl, hb1⟩; skip)
    | (go_at_call 14; (with_reducible refine (less_v c b _ hcb _ (HP.out.mono (GrS.fin (by assumption)))).mono ?_); rintro e w1 ⟨rfl, hb1⟩; skip)
    | (go_at_call 11; (with_reducible refine (works_c _ (HP.out.mono (GrS.fin (by assumption)))).mono ?_); rintro e w1 ⟨rfl, hb1⟩; skip))
  first | (refine hK _ _ ?_ (fun hHeld => ?_)) | (go_wp2_with fail; refine hK _ _ ?_ (fun hHeld => ?_))
  · exact GrS.call (by assumption) hb1
  clear hK K
  (try simp only [Act.put, List.setIfInBounds_toArray, List.set_cons_zero, List.set_cons_succ])
  refine hx_act 5 (some 25) (by kernel_rfl) (by kernel_rfl) (by kernel_rfl) (fun K hK o ho => ?_)
  replace ho := Option.some.inj ho
  conv at ho => lhs; whnf
  subst ho
  go_simp
  (first
    | (go_at_call 15; (first | (with_reducible refine (crosses_v a b _ hab _ (HP.out.mono (GrS.fin (by assumption)))).mono ?_) | (with_reducible refine (crosses_v b a _ hba _ (HP.out.mono (GrS.fin (by assumption)))).mono ?_) | (with_reducible refine (crosses_v a c _ hac _ (HP.out.mono (GrS.fin (by assumption)))).mono ?_)); rintro e w1 ⟨rfl, hb1⟩; skip)
    | (go_at_call 14; (with_reducible refine (less_v c b _ hcb _ (HP.out.mono (GrS.fin (by assumption)))).mono ?_); rintro e w1 ⟨rfl, hb1⟩; skip)
    | (go_at_call 11; (with_reducible refine (works_c _ (HP.out.mono (GrS.fin (by assumption)))).mono ?_); rintro e w1 ⟨rfl, hb1⟩; skip))
  first | (refine hK _ _ ?_ (fun hHeld => ?_)) | (go_wp2_with fail; refine hK _ _ ?_ (fun hHeld => ?_))
  · exact GrS.call (by assumption) hb1
  clear hK K
  (try simp only [Act.put, List.setIfInBounds_toArray, List.set_cons_zero, List.set_cons_succ])
  refine hx_take 6 (some 26) ?_ (by kernel_rfl) (by kernel_rfl) (by kernel_rfl) (by kernel_rfl) (by kernel_rfl) (fun _ _ _ h => h) (by assumption) (fun o ho w hSw => ?_) ?_
  rotate_left
  · replace ho := Option.some.inj ho
    conv at ho => lhs; whnf
    subst ho
    (try dsimp only at hSw)
    go_simp
    (try rfl)
  (try simp only [Act.put, List.setIfInBounds_toArray, List.set_cons_zero, List.set_cons_succ])
  refine hx_take 7 (some 27) ?_ (by kernel_rfl) (by kernel_rfl) (by kernel_rfl) (by kernel_rfl) (by kernel_rfl) (fun _ _ _ h => h) (by assumption) (fun o ho w hSw => ?_) ?_
  rotate_left
  · replace ho := Option.some.inj ho
    conv at ho => lhs; whnf
    subst ho
    (try dsimp only at hSw)
    go_simp
    (try rfl)
  (try simp only [Act.put, List.setIfInBounds_toArray, List.set_cons_zero, List.set_cons_succ])
  refine hx_take 8 (some 28) ?_ (by kernel_rfl) (by kernel_rfl) (by kernel_rfl) (by kernel_rfl) (by kernel_rfl) (fun _ _ _ h => h) (by assumption) (fun o ho w hSw => ?_) ?_
  rotate_left
  · replace ho := Option.some.inj ho
    conv at ho => lhs; whnf
    subst ho
    (try dsimp only at hSw)
    go_simp
    (try rfl)
  (try simp only [Act.put, List.setIfInBounds_toArray, List.set_cons_zero, List.set_cons_succ])
  refine hx_take 9 (some 29) ?_ (by kernel_rfl) (by kernel_rfl) (by kernel_rfl) (by kernel_rfl) (by kernel_rfl) (fun _ _ _ h => h) (by assumption) (fun o ho w hSw => ?_) ?_
  rotate_left
  · replace ho := Option.some.inj ho
    conv at ho => lhs; whnf
    subst ho
    (try dsimp only at hSw)
    go_simp
    (try rfl)
  (try simp only [Act.put, List.setIfInBounds_toArray, List.set_cons_zero, List.set_cons_succ])
  refine hx_act 10 (some 30) (by kernel_rfl) (by kernel_rfl) (by kernel_rfl) (fun K hK o ho => ?_)
  replace ho := Option.some.inj ho
  conv at ho => lhs; whnf
  subst ho
  go_simp
  (first
    | (go_at_call 15; (first | (with_reducible refine (crosses_v a b _ hab _ (HP.out.mono (GrS.fin (by assumption)))).mono ?_) | (with_reducible refine (crosses_v b a _ hba _ (HP.out.mono (GrS.fin (by assumption)))).mono ?_) | (with_reducible refine (crosses_v a c _ hac _ (HP.out.mono (GrS.fin (by assumption)))).mono ?_)); rintro e w1 ⟨rfl, hb1⟩; skip)
    | (go_at_call 14; (with_reducible refine (less_v c b _ hcb _ (HP.out.mono (GrS.fin (by assumption)))).mono ?_); rintro e w1 ⟨rfl, hb1⟩; skip)
    | (go_at_call 11; (with_reducible refine (works_c _ (HP.out.mono (GrS.fin (by assumption)))).mono ?_); rintro e w1 ⟨rfl, hb1⟩; skip))
  first | (refine hK _ _ ?_ (fun hHeld => ?_)) | (go_wp2_with fail; refine hK _ _ ?_ (fun hHeld => ?_))
  · exact GrS.call (by assumption) hb1
  clear hK K
  (try simp only [Act.put, List.setIfInBounds_toArray, List.set_cons_zero, List.set_cons_succ])
  refine hx_take 11 (some 31) ?_ (by kernel_rfl) (by kernel_rfl) (by kernel_rfl) (by kernel_rfl) (by kernel_rfl) (fun _ _ _ h => h) (by assumption) (fun o ho w hSw => ?_) ?_
  rotate_left
  · replace ho := Option.some.inj ho
    conv at ho => lhs; whnf
    subst ho
    (try dsimp only at hSw)
    go_simp
    (try rfl)
  (try simp only [Act.put, List.setIfInBounds_toArray, List.set_cons_zero, List.set_cons_succ])
  refine hx_take 12 (some 32) ?_ (by kernel_rfl) (by kernel_rfl) (by kernel_rfl) (by kernel_rfl) (by kernel_rfl) (fun _ _ _ h => h) (by assumption) (fun o ho w hSw => ?_) ?_
  rotate_left
  · replace ho := Option.some.inj ho
    conv at ho => lhs; whnf
    subst ho
    (try dsimp only at hSw)
    go_simp
    (try rfl)
  (try simp only [Act.put, List.setIfInBounds_toArray, List.set_cons_zero, List.set_cons_succ])
  refine hx_take 13 (some 33) ?_ (by kernel_rfl) (by kernel_rfl) (by kernel_rfl) (by kernel_rfl) (by kernel_rfl) (fun _ _ _ h => h) (by assumption) (fun o ho w hSw => ?_) ?_
  rotate_left
  · replace ho := Option.some.inj ho
    conv at ho => lhs; whnf
    subst ho
    (try dsimp only at hSw)
    go_simp
    (try rfl)
  (try simp only [Act.put, List.setIfInBounds_toArray, List.set_cons_zero, List.set_cons_succ])
  refine hx_act 14 (some 34) (by kernel_rfl) (by kernel_rfl) (by kernel_rfl) (fun K hK o ho => ?_)
  replace ho := Option.some.inj ho
  conv at ho => lhs; whnf
  subst ho
  go_simp
  (first
    | (go_at_call 15; (first | (with_reducible refine (crosses_v a b _ hab _ (HP.out.mono (GrS.fin (by assumption)))).mono ?_) | (with_reducible refine (crosses_v b a _ hba _ (HP.out.mono (GrS.fin (by assumption)))).mono ?_) | (with_reducible refine (crosses_v a c _ hac _ (HP.out.mono (GrS.fin (by assumption)))).mono ?_)); rintro e w1 ⟨rfl, hb1⟩; skip)
    | (go_at_call 14; (with_reducible refine (less_v c b _ hcb _ (HP.out.mono (GrS.fin (by assumption)))).mono ?_); rintro e w1 ⟨rfl, hb1⟩; skip)
    | (go_at_call 11; (with_reducible refine (works_c _ (HP.out.mono (GrS.fin (by assumption)))).mono ?_); rintro e w1 ⟨rfl, hb1⟩; skip))
  first | (refine hK _ _ ?_ (fun hHeld => ?_)) | (go_wp2_with fail; refine hK _ _ ?_ (fun hHeld => ?_))
  · exact GrS.call (by assumption) hb1
  clear hK K
  (try simp only [Act.put, List.setIfInBounds_toArray, List.set_cons_zero, List.set_cons_succ])
  refine hx_take 15 (some 35) ?_ (by kernel_rfl) (by kernel_rfl) (by kernel_rfl) (by kernel_rfl) (by kernel_rfl) (fun _ _ _ h => h) (by assumption) (fun o ho w hSw => ?_) ?_
  rotate_left
  · replace ho := Option.some.inj ho
    conv at ho => lhs; whnf
    subst ho
    (try dsimp only at hSw)
    go_simp
    (try rfl)
  (try simp only [Act.put, List.setIfInBounds_toArray, List.set_cons_zero, List.set_cons_succ])
  refine hx_take 16 (some 36) ?_ (by kernel_rfl) (by kernel_rfl) (by kernel_rfl) (by kernel_rfl) (by kernel_rfl) (fun _ _ _ h => h) (by assumption) (fun o ho w hSw => ?_) ?_
  rotate_left
  · replace ho := Option.some.inj ho
    conv at ho => lhs; whnf
    subst ho
    (try dsimp only at hSw)
    go_simp
    (try rfl)
  (try simp only [Act.put, List.setIfInBounds_toArray, List.set_cons_zero, List.set_cons_succ])
  refine hx_take 17 (some 37) ?_ (by kernel_rfl) (by kernel_rfl) (by kernel_rfl) (by kernel_rfl) (by kernel_rfl) (fun _ _ _ h => h) (by assumption) (fun o ho w hSw => ?_) ?_
  rotate_left
  · replace ho := Option.some.inj ho
    conv at ho => lhs; whnf
    subst ho
    (try dsimp only at hSw)
    go_simp
    (try rfl)
  (try simp only [Act.put, List.setIfInBounds_toArray, List.set_cons_zero, List.set_cons_succ])
  refine hx_take 18 (some 38) ?_ (by kernel_rfl) (by kernel_rfl) (by kernel_rfl) (by kernel_rfl) (by kernel_rfl) (fun _ _ _ h => h) (by assumption) (fun o ho w hSw => ?_) ?_
  rotate_left
  · replace ho := Option.some.inj ho
    conv at ho => lhs; whnf
    subst ho
    (try dsimp only at hSw)
    go_simp
    (try rfl)
  (try simp only [Act.put, List.setIfInBounds_toArray, List.set_cons_zero, List.set_cons_succ])
  refine hx_act 19 (some 39) (by kernel_rfl) (by kernel_rfl) (by kernel_rfl) (fun K hK o ho => ?_)
  replace ho := Option.some.inj ho
  conv at ho => lhs; whnf
  subst ho
  go_simp
  (first
    | (go_at_call 15; (first | (with_reducible refine (crosses_v a b _ hab _ (HP.out.mono (GrS.fin (by assumption)))).mono ?_) | (with_reducible refine (crosses_v b a _ hba _ (HP.out.mono (GrS.fin (by assumption)))).mono ?_) | (with_reducible refine (crosses_v a c _ hac _ (HP.out.mono (GrS.fin (by assumption)))).mono ?_)); rintro e w1 ⟨rfl, hb1⟩; skip)
    | (go_at_call 14; (with_reducible refine (less_v c b _ hcb _ (HP.out.mono (GrS.fin (by assumption)))).mono ?_); rintro e w1 ⟨rfl, hb1⟩; skip)
    | (go_at_call 11; (with_reducible refine (works_c _ (HP.out.mono (GrS.fin (by assumption)))).mono ?_); rintro e w1 ⟨rfl, hb1⟩; skip))
  first | (refine hK _ _ ?_ (fun hHeld => ?_)) | (go_wp2_with fail; refine hK _ _ ?_ (fun hHeld => ?_))
  · exact GrS.call (by assumption) hb1
  clear hK K
  (try simp only [Act.put, List.setIfInBounds_toArray, List.set_cons_zero, List.set_cons_succ])
  refine hx_take 20 (some 40) ?_ (by kernel_rfl) (by kernel_rfl) (by kernel_rfl) (by kernel_rfl) (by kernel_rfl) (fun _ _ _ h => h) (by assumption) (fun o ho w hSw => ?_) ?_
  rotate_left
  · replace ho := Option.some.inj ho
    conv at ho => lhs; whnf
    subst ho
    (try dsimp only at hSw)
    go_simp
    (try rfl)
  (try simp only [Act.put, List.setIfInBounds_toArray, List.set_cons_zero, List.set_cons_succ])
  refine hx_take 21 (some 41) ?_ (by kernel_rfl) (by kernel_rfl) (by kernel_rfl) (by kernel_rfl) (by kernel_rfl) (fun _ _ _ h => h) (by assumption) (fun o ho w hSw => ?_) ?_
  rotate_left
  · replace ho := Option.some.inj ho
    conv at ho => lhs; whnf
    subst ho
    (try dsimp only at hSw)
    go_simp
    (try rfl)
  (try simp only [Act.put, List.setIfInBounds_toArray, List.set_cons_zero, List.set_cons_succ])
  refine hx_take 22 (some 42) ?_ (by kernel_rfl) (by kernel_rfl) (by kernel_rfl) (by kernel_rfl) (by kernel_rfl) (fun _ _ _ h => h) (by assumption) (fun o ho w hSw => ?_) ?_
  rotate_left
  · replace ho := Option.some.inj ho
    conv at ho => lhs; whnf
    subst ho
    (try dsimp only at hSw)
    go_simp
    (try rfl)
  (try simp only [Act.put, List.setIfInBounds_toArray, List.set_cons_zero, List.set_cons_succ])
  refine wpAnyH_done (by kernel_rfl) ?_ _
  replace HG := Lib.hid (show GrS W _ from by assumption)
  go_wp2_with (go_at_call 16; (with_reducible refine (HF1.out _ HG.out.1).mono ?_); rintro e w1 ⟨rfl, hb1⟩; replace HG := Lib.hid (GrS.call HG.out hb1); clear hb1; (try clear hG); have hG := HG.out)
  obtain ⟨X, hX, hXb, hXs, hF⟩ := box1 w1 #[.int .i64 F.id, .int .i64 F.acct, .int .i64 F.inst, .int .u8 F.side, .int .i64 F.price, .int .i64 F.left] 23
  rw [hX]
  have HGX : Hid (GrS W X) := Lib.hid (GrS.call HG.out hXb)
  have hWX : W.heap.size ≤ X.heap.size := HGX.out.1.size
  have hN0 : w.heap.size < X.heap.size := by omega
  have hN9 : w1.heap.size < X.heap.size := by omega
  replace hA : ∀ i, X.cell? ⟨w.heap.size, i, none⟩ = #[.int .i64 a.id, .int .i64 a.acct, .int .i64 a.inst, .int .u8 a.side, .int .i64 a.price, .int .i64 a.left][i]? := fun i => by rw [HGX.out.2 _ _ (by omega)]; exact hA i
  have HBX : Hid (Below w.heap.size w X) := Lib.hid (grow_trans HWb.out HGX.out.1)
  have HSX : Hid (SlO X la lc xs) := Lib.hid (HSW.out.mono HGX.out.1)
  have HPX : Hid (PrW X) := Lib.hid (HP.out.mono HGX.out.1)
  clear hX hXb hXs hWs hB hC HP HSW HGX HG HWb HF1 HS hG
  generalize w1.heap.size = N9 at *
  have hmay : ∃ m, m = mayL xs := ⟨_, rfl⟩
  obtain ⟨m, hm⟩ := hmay
  have HMAY : Hid (∀ w1, Below X.heap.size X w1 → Calls Tryd.prog 17 #[.slice la n lc] w1 fun e w' => e = .returned (.bool m) ∧ Below w1.heap.size w1 w') := Lib.hid (fun w1 hb => by rw [HN.out, hm]; exact may_c la lc xs w1 (HSX.out.mono hb))
  have Hm := Lib.hid hm; clear hm
  go_loopw [11] (fun i wr => (∃ k : Nat, k ≤ n ∧ i = .int .i64 k) ∧ Hid (GrS X wr)) (fun i _ => n - (intOf i).toNat)
  case atStart => exact ⟨⟨0, Nat.zero_le _, rfl⟩, Lib.hid (GrS.refl X)⟩
  case round =>
    obtain ⟨⟨k, hk, rfl⟩, HB⟩ := hrel
    by_cases hlt : k < n
    · obtain ⟨x, HX⟩ : ∃ x, Hid (xs[k]? = some x) := ⟨_, Lib.hid (List.getElem?_eq_getElem (by have := HN.out; omega))⟩
      obtain ⟨b9, off, hla, hb9, h6⟩ := SlR.cells6 HSX.out (by intro h; have := HX.out; rw [h] at this; simp at this)
      subst hla
      obtain ⟨x0, x1, x2, x3, x4, x5⟩ := h6 k x HX.out
      have i0 : (0 : Int) ≤ (k : Int) := Int.natCast_nonneg _
      have i1 : (k : Int) < (n : Int) := by omega
      cases hcx : crosses a x with
      | false =>
        cases m with
        | false =>
          go_wp2_with fail
          refine wp_region_held_drew (S := fun w' => GrS X w') (by kernel_rfl) ?_ (fun hHeld => ?_)
          · exact GrS.start HB.out.1
          refine hx_take 0 (some 60) ?_ (by kernel_rfl) (by kernel_rfl) (by kernel_rfl) (by kernel_rfl) (by kernel_rfl) (fun _ _ _ h => h) (by assumption) (fun o ho w hSw => ?_) ?_
          rotate_left
          · replace ho := Option.some.inj ho
            conv at ho => lhs; whnf
            subst ho
            (try dsimp only at hSw)
            go_simp
            (try rfl)
          (try simp only [Act.put, List.setIfInBounds_toArray, List.set_cons_zero, List.set_cons_succ])
          refine hx_act 1 (some 61) (by kernel_rfl) (by kernel_rfl) (by kernel_rfl) (fun K hK o ho => ?_)
          replace ho := Option.some.inj ho
          conv at ho => lhs; whnf
          subst ho
          go_simp
          (first
            | (go_at_call 17; (with_reducible refine (HMAY.out _ (GrS.fin (by assumption))).mono ?_); rintro e w4 ⟨rfl, hb1⟩)
            | (go_at_call 15; (first | (with_reducible refine (crosses_v a x _ hcx _ (HPX.out.mono (GrS.fin (by assumption)))).mono ?_) | (with_reducible refine (crosses_v a F _ hcf _ (HPX.out.mono (GrS.fin (by assumption)))).mono ?_)); rintro e w4 ⟨rfl, hb1⟩))
          first | (refine hK _ _ ?_ (fun hHeld => ?_)) | (go_wp2_with fail; refine hK _ _ ?_ (fun hHeld => ?_))
          · exact GrS.call (by assumption) hb1
          clear hK K
          (try simp only [Act.put, List.setIfInBounds_toArray, List.set_cons_zero, List.set_cons_succ])
          refine hx_take 2 (some 62) ?_ (by kernel_rfl) (by kernel_rfl) (by kernel_rfl) (by kernel_rfl) (by kernel_rfl) (fun _ _ _ h => h) (by assumption) (fun o ho w hSw => ?_) ?_
          rotate_left
          · replace ho := Option.some.inj ho
            conv at ho => lhs; whnf
            subst ho
            (try dsimp only at hSw)
            go_simp
            (try rfl)
          (try simp only [Act.put, List.setIfInBounds_toArray, List.set_cons_zero, List.set_cons_succ])
          (refine hx_skip 3 (some 63) (by kernel_rfl) (by kernel_rfl) (by kernel_rfl) (by kernel_rfl) (by kernel_rfl) (fun _ _ _ h => h) (by assumption) ?_; (try simp only [Act.put, List.setIfInBounds_toArray, List.set_cons_zero, List.set_cons_succ]))
          (refine hx_skip 4 (some 64) (by kernel_rfl) (by kernel_rfl) (by kernel_rfl) (by kernel_rfl) (by kernel_rfl) (fun _ _ _ h => h) (by assumption) ?_; (try simp only [Act.put, List.setIfInBounds_toArray, List.set_cons_zero, List.set_cons_succ]))
          (refine hx_skip 5 (some 65) (by kernel_rfl) (by kernel_rfl) (by kernel_rfl) (by kernel_rfl) (by kernel_rfl) (fun _ _ _ h => h) (by assumption) ?_; (try simp only [Act.put, List.setIfInBounds_toArray, List.set_cons_zero, List.set_cons_succ]))
          (refine hx_skip 6 (some 66) (by kernel_rfl) (by kernel_rfl) (by kernel_rfl) (by kernel_rfl) (by kernel_rfl) (fun _ _ _ h => h) (by assumption) ?_; (try simp only [Act.put, List.setIfInBounds_toArray, List.set_cons_zero, List.set_cons_succ]))
          (refine hx_skip 7 (some 67) (by kernel_rfl) (by kernel_rfl) (by kernel_rfl) (by kernel_rfl) (by kernel_rfl) (fun _ _ _ h => h) (by assumption) ?_; (try simp only [Act.put, List.setIfInBounds_toArray, List.set_cons_zero, List.set_cons_succ]))
          (refine hx_skip 8 (some 68) (by kernel_rfl) (by kernel_rfl) (by kernel_rfl) (by kernel_rfl) (by kernel_rfl) (fun _ _ _ h => h) (by assumption) ?_; (try simp only [Act.put, List.setIfInBounds_toArray, List.set_cons_zero, List.set_cons_succ]))
          refine hx_take 9 (some 69) ?_ (by kernel_rfl) (by kernel_rfl) (by kernel_rfl) (by kernel_rfl) (by kernel_rfl) (fun _ _ _ h => h) (by assumption) (fun o ho w hSw => ?_) ?_
          rotate_left
          · replace ho := Option.some.inj ho
            conv at ho => lhs; whnf
            subst ho
            (try dsimp only at hSw)
            go_simp
            (try rfl)
          (try simp only [Act.put, List.setIfInBounds_toArray, List.set_cons_zero, List.set_cons_succ])
          refine hx_take 10 (some 70) ?_ (by kernel_rfl) (by kernel_rfl) (by kernel_rfl) (by kernel_rfl) (by kernel_rfl) (fun _ _ _ h => h) (by assumption) (fun o ho w hSw => ?_) ?_
          rotate_left
          · replace ho := Option.some.inj ho
            conv at ho => lhs; whnf
            subst ho
            (try dsimp only at hSw)
            go_simp
            (try rfl)
          (try simp only [Act.put, List.setIfInBounds_toArray, List.set_cons_zero, List.set_cons_succ])
          (refine hx_skip 11 (some 71) (by kernel_rfl) (by kernel_rfl) (by kernel_rfl) (by kernel_rfl) (by kernel_rfl) (fun _ _ _ h => h) (by assumption) ?_; (try simp only [Act.put, List.setIfInBounds_toArray, List.set_cons_zero, List.set_cons_succ]))
          (refine hx_skip 12 (some 72) (by kernel_rfl) (by kernel_rfl) (by kernel_rfl) (by kernel_rfl) (by kernel_rfl) (fun _ _ _ h => h) (by assumption) ?_; (try simp only [Act.put, List.setIfInBounds_toArray, List.set_cons_zero, List.set_cons_succ]))
          (refine hx_skip 13 (some 73) (by kernel_rfl) (by kernel_rfl) (by kernel_rfl) (by kernel_rfl) (by kernel_rfl) (fun _ _ _ h => h) (by assumption) ?_; (try simp only [Act.put, List.setIfInBounds_toArray, List.set_cons_zero, List.set_cons_succ]))
          (refine hx_skip 14 (some 74) (by kernel_rfl) (by kernel_rfl) (by kernel_rfl) (by kernel_rfl) (by kernel_rfl) (fun _ _ _ h => h) (by assumption) ?_; (try simp only [Act.put, List.setIfInBounds_toArray, List.set_cons_zero, List.set_cons_succ]))
          (refine hx_skip 15 (some 75) (by kernel_rfl) (by kernel_rfl) (by kernel_rfl) (by kernel_rfl) (by kernel_rfl) (fun _ _ _ h => h) (by assumption) ?_; (try simp only [Act.put, List.setIfInBounds_toArray, List.set_cons_zero, List.set_cons_succ]))
          (refine hx_skip 16 (some 76) (by kernel_rfl) (by kernel_rfl) (by kernel_rfl) (by kernel_rfl) (by kernel_rfl) (fun _ _ _ h => h) (by assumption) ?_; (try simp only [Act.put, List.setIfInBounds_toArray, List.set_cons_zero, List.set_cons_succ]))
          (refine hx_skip 17 (some 77) (by kernel_rfl) (by kernel_rfl) (by kernel_rfl) (by kernel_rfl) (by kernel_rfl) (fun _ _ _ h => h) (by assumption) ?_; (try simp only [Act.put, List.setIfInBounds_toArray, List.set_cons_zero, List.set_cons_succ]))
          (refine hx_skip 18 (some 78) (by kernel_rfl) (by kernel_rfl) (by kernel_rfl) (by kernel_rfl) (by kernel_rfl) (fun _ _ _ h => h) (by assumption) ?_; (try simp only [Act.put, List.setIfInBounds_toArray, List.set_cons_zero, List.set_cons_succ]))
          refine hx_take 19 (some 79) ?_ (by kernel_rfl) (by kernel_rfl) (by kernel_rfl) (by kernel_rfl) (by kernel_rfl) (fun _ _ _ h => h) (by assumption) (fun o ho w hSw => ?_) ?_
          rotate_left
          · replace ho := Option.some.inj ho
            conv at ho => lhs; whnf
            subst ho
            (try dsimp only at hSw)
            go_simp
            (try rfl)
          (try simp only [Act.put, List.setIfInBounds_toArray, List.set_cons_zero, List.set_cons_succ])
          refine wpAnyH_done (by kernel_rfl) ?_ _
          have HGE := Lib.hid (show GrS X _ from by assumption)
          go_wp2
          go_roundw
          case rel => exact ⟨⟨k + 1, by omega, by go_num⟩, HGE⟩
          case measure => simp [intOf]; omega
        | true =>
          go_wp2_with fail
          refine wp_region_held_drew (S := fun w' => GrS X w') (by kernel_rfl) ?_ (fun hHeld => ?_)
          · exact GrS.start HB.out.1
          refine hx_take 0 (some 60) ?_ (by kernel_rfl) (by kernel_rfl) (by kernel_rfl) (by kernel_rfl) (by kernel_rfl) (fun _ _ _ h => h) (by assumption) (fun o ho w hSw => ?_) ?_
          rotate_left
          · replace ho := Option.some.inj ho
            conv at ho => lhs; whnf
            subst ho
            (try dsimp only at hSw)
            go_simp
            (try rfl)
          (try simp only [Act.put, List.setIfInBounds_toArray, List.set_cons_zero, List.set_cons_succ])
          refine hx_act 1 (some 61) (by kernel_rfl) (by kernel_rfl) (by kernel_rfl) (fun K hK o ho => ?_)
          replace ho := Option.some.inj ho
          conv at ho => lhs; whnf
          subst ho
          go_simp
          (first
            | (go_at_call 17; (with_reducible refine (HMAY.out _ (GrS.fin (by assumption))).mono ?_); rintro e w4 ⟨rfl, hb1⟩)
            | (go_at_call 15; (first | (with_reducible refine (crosses_v a x _ hcx _ (HPX.out.mono (GrS.fin (by assumption)))).mono ?_) | (with_reducible refine (crosses_v a F _ hcf _ (HPX.out.mono (GrS.fin (by assumption)))).mono ?_)); rintro e w4 ⟨rfl, hb1⟩))
          first | (refine hK _ _ ?_ (fun hHeld => ?_)) | (go_wp2_with fail; refine hK _ _ ?_ (fun hHeld => ?_))
          · exact GrS.call (by assumption) hb1
          clear hK K
          (try simp only [Act.put, List.setIfInBounds_toArray, List.set_cons_zero, List.set_cons_succ])
          refine hx_take 2 (some 62) ?_ (by kernel_rfl) (by kernel_rfl) (by kernel_rfl) (by kernel_rfl) (by kernel_rfl) (fun _ _ _ h => h) (by assumption) (fun o ho w hSw => ?_) ?_
          rotate_left
          · replace ho := Option.some.inj ho
            conv at ho => lhs; whnf
            subst ho
            (try dsimp only at hSw)
            go_simp
            (try rfl)
          (try simp only [Act.put, List.setIfInBounds_toArray, List.set_cons_zero, List.set_cons_succ])
          refine hx_take 3 (some 63) ?_ (by kernel_rfl) (by kernel_rfl) (by kernel_rfl) (by kernel_rfl) (by kernel_rfl) (fun _ _ _ h => h) (by assumption) (fun o ho w hSw => ?_) ?_
          rotate_left
          · replace ho := Option.some.inj ho
            conv at ho => lhs; whnf
            subst ho
            (try dsimp only at hSw)
            go_simp
            (try rfl)
          (try simp only [Act.put, List.setIfInBounds_toArray, List.set_cons_zero, List.set_cons_succ])
          refine hx_take 4 (some 64) ?_ (by kernel_rfl) (by kernel_rfl) (by kernel_rfl) (by kernel_rfl) (by kernel_rfl) (fun _ _ _ h => h) (by assumption) (fun o ho w hSw => ?_) ?_
          rotate_left
          · replace ho := Option.some.inj ho
            conv at ho => lhs; whnf
            subst ho
            (try dsimp only at hSw)
            go_simp
            (try rfl)
          (try simp only [Act.put, List.setIfInBounds_toArray, List.set_cons_zero, List.set_cons_succ])
          refine hx_take 5 (some 65) ?_ (by kernel_rfl) (by kernel_rfl) (by kernel_rfl) (by kernel_rfl) (by kernel_rfl) (fun _ _ _ h => h) (by assumption) (fun o ho w hSw => ?_) ?_
          rotate_left
          · replace ho := Option.some.inj ho
            conv at ho => lhs; whnf
            subst ho
            (try dsimp only at hSw)
            go_simp
            (try rfl)
          (try simp only [Act.put, List.setIfInBounds_toArray, List.set_cons_zero, List.set_cons_succ])
          refine hx_take 6 (some 66) ?_ (by kernel_rfl) (by kernel_rfl) (by kernel_rfl) (by kernel_rfl) (by kernel_rfl) (fun _ _ _ h => h) (by assumption) (fun o ho w hSw => ?_) ?_
          rotate_left
          · replace ho := Option.some.inj ho
            conv at ho => lhs; whnf
            subst ho
            (try dsimp only at hSw)
            go_simp
            (try rfl)
          (try simp only [Act.put, List.setIfInBounds_toArray, List.set_cons_zero, List.set_cons_succ])
          refine hx_take 7 (some 67) ?_ (by kernel_rfl) (by kernel_rfl) (by kernel_rfl) (by kernel_rfl) (by kernel_rfl) (fun _ _ _ h => h) (by assumption) (fun o ho w hSw => ?_) ?_
          rotate_left
          · replace ho := Option.some.inj ho
            conv at ho => lhs; whnf
            subst ho
            (try dsimp only at hSw)
            go_simp
            (try rfl)
          (try simp only [Act.put, List.setIfInBounds_toArray, List.set_cons_zero, List.set_cons_succ])
          refine hx_act 8 (some 68) (by kernel_rfl) (by kernel_rfl) (by kernel_rfl) (fun K hK o ho => ?_)
          replace ho := Option.some.inj ho
          conv at ho => lhs; whnf
          subst ho
          go_simp
          (first
            | (go_at_call 17; (with_reducible refine (HMAY.out _ (GrS.fin (by assumption))).mono ?_); rintro e w4 ⟨rfl, hb1⟩)
            | (go_at_call 15; (first | (with_reducible refine (crosses_v a x _ hcx _ (HPX.out.mono (GrS.fin (by assumption)))).mono ?_) | (with_reducible refine (crosses_v a F _ hcf _ (HPX.out.mono (GrS.fin (by assumption)))).mono ?_)); rintro e w4 ⟨rfl, hb1⟩))
          first | (refine hK _ _ ?_ (fun hHeld => ?_)) | (go_wp2_with fail; refine hK _ _ ?_ (fun hHeld => ?_))
          · exact GrS.call (by assumption) hb1
          clear hK K
          (try simp only [Act.put, List.setIfInBounds_toArray, List.set_cons_zero, List.set_cons_succ])
          refine hx_take 9 (some 69) ?_ (by kernel_rfl) (by kernel_rfl) (by kernel_rfl) (by kernel_rfl) (by kernel_rfl) (fun _ _ _ h => h) (by assumption) (fun o ho w hSw => ?_) ?_
          rotate_left
          · replace ho := Option.some.inj ho
            conv at ho => lhs; whnf
            subst ho
            (try dsimp only at hSw)
            go_simp
            (try rfl)
          (try simp only [Act.put, List.setIfInBounds_toArray, List.set_cons_zero, List.set_cons_succ])
          refine hx_take 10 (some 70) ?_ (by kernel_rfl) (by kernel_rfl) (by kernel_rfl) (by kernel_rfl) (by kernel_rfl) (fun _ _ _ h => h) (by assumption) (fun o ho w hSw => ?_) ?_
          rotate_left
          · replace ho := Option.some.inj ho
            conv at ho => lhs; whnf
            subst ho
            (try dsimp only at hSw)
            go_simp
            (try rfl)
          (try simp only [Act.put, List.setIfInBounds_toArray, List.set_cons_zero, List.set_cons_succ])
          (refine hx_skip 11 (some 71) (by kernel_rfl) (by kernel_rfl) (by kernel_rfl) (by kernel_rfl) (by kernel_rfl) (fun _ _ _ h => h) (by assumption) ?_; (try simp only [Act.put, List.setIfInBounds_toArray, List.set_cons_zero, List.set_cons_succ]))
          (refine hx_skip 12 (some 72) (by kernel_rfl) (by kernel_rfl) (by kernel_rfl) (by kernel_rfl) (by kernel_rfl) (fun _ _ _ h => h) (by assumption) ?_; (try simp only [Act.put, List.setIfInBounds_toArray, List.set_cons_zero, List.set_cons_succ]))
          (refine hx_skip 13 (some 73) (by kernel_rfl) (by kernel_rfl) (by kernel_rfl) (by kernel_rfl) (by kernel_rfl) (fun _ _ _ h => h) (by assumption) ?_; (try simp only [Act.put, List.setIfInBounds_toArray, List.set_cons_zero, List.set_cons_succ]))
          (refine hx_skip 14 (some 74) (by kernel_rfl) (by kernel_rfl) (by kernel_rfl) (by kernel_rfl) (by kernel_rfl) (fun _ _ _ h => h) (by assumption) ?_; (try simp only [Act.put, List.setIfInBounds_toArray, List.set_cons_zero, List.set_cons_succ]))
          (refine hx_skip 15 (some 75) (by kernel_rfl) (by kernel_rfl) (by kernel_rfl) (by kernel_rfl) (by kernel_rfl) (fun _ _ _ h => h) (by assumption) ?_; (try simp only [Act.put, List.setIfInBounds_toArray, List.set_cons_zero, List.set_cons_succ]))
          (refine hx_skip 16 (some 76) (by kernel_rfl) (by kernel_rfl) (by kernel_rfl) (by kernel_rfl) (by kernel_rfl) (fun _ _ _ h => h) (by assumption) ?_; (try simp only [Act.put, List.setIfInBounds_toArray, List.set_cons_zero, List.set_cons_succ]))
          (refine hx_skip 17 (some 77) (by kernel_rfl) (by kernel_rfl) (by kernel_rfl) (by kernel_rfl) (by kernel_rfl) (fun _ _ _ h => h) (by assumption) ?_; (try simp only [Act.put, List.setIfInBounds_toArray, List.set_cons_zero, List.set_cons_succ]))
          (refine hx_skip 18 (some 78) (by kernel_rfl) (by kernel_rfl) (by kernel_rfl) (by kernel_rfl) (by kernel_rfl) (fun _ _ _ h => h) (by assumption) ?_; (try simp only [Act.put, List.setIfInBounds_toArray, List.set_cons_zero, List.set_cons_succ]))
          refine hx_take 19 (some 79) ?_ (by kernel_rfl) (by kernel_rfl) (by kernel_rfl) (by kernel_rfl) (by kernel_rfl) (fun _ _ _ h => h) (by assumption) (fun o ho w hSw => ?_) ?_
          rotate_left
          · replace ho := Option.some.inj ho
            conv at ho => lhs; whnf
            subst ho
            (try dsimp only at hSw)
            go_simp
            (try rfl)
          (try simp only [Act.put, List.setIfInBounds_toArray, List.set_cons_zero, List.set_cons_succ])
          refine wpAnyH_done (by kernel_rfl) ?_ _
          have HGE := Lib.hid (show GrS X _ from by assumption)
          go_wp2
          go_roundw
          case rel => exact ⟨⟨k + 1, by omega, by go_num⟩, HGE⟩
          case measure => simp [intOf]; omega
      | true =>
        cases m with
        | false =>
          go_wp2_with fail
          refine wp_region_held_drew (S := fun w' => GrS X w') (by kernel_rfl) ?_ (fun hHeld => ?_)
          · exact GrS.start HB.out.1
          refine hx_take 0 (some 60) ?_ (by kernel_rfl) (by kernel_rfl) (by kernel_rfl) (by kernel_rfl) (by kernel_rfl) (fun _ _ _ h => h) (by assumption) (fun o ho w hSw => ?_) ?_
          rotate_left
          · replace ho := Option.some.inj ho
            conv at ho => lhs; whnf
            subst ho
            (try dsimp only at hSw)
            go_simp
            (try rfl)
          (try simp only [Act.put, List.setIfInBounds_toArray, List.set_cons_zero, List.set_cons_succ])
          refine hx_act 1 (some 61) (by kernel_rfl) (by kernel_rfl) (by kernel_rfl) (fun K hK o ho => ?_)
          replace ho := Option.some.inj ho
          conv at ho => lhs; whnf
          subst ho
          go_simp
          (first
            | (go_at_call 17; (with_reducible refine (HMAY.out _ (GrS.fin (by assumption))).mono ?_); rintro e w4 ⟨rfl, hb1⟩)
            | (go_at_call 15; (first | (with_reducible refine (crosses_v a x _ hcx _ (HPX.out.mono (GrS.fin (by assumption)))).mono ?_) | (with_reducible refine (crosses_v a F _ hcf _ (HPX.out.mono (GrS.fin (by assumption)))).mono ?_)); rintro e w4 ⟨rfl, hb1⟩))
          first | (refine hK _ _ ?_ (fun hHeld => ?_)) | (go_wp2_with fail; refine hK _ _ ?_ (fun hHeld => ?_))
          · exact GrS.call (by assumption) hb1
          clear hK K
          (try simp only [Act.put, List.setIfInBounds_toArray, List.set_cons_zero, List.set_cons_succ])
          refine hx_take 2 (some 62) ?_ (by kernel_rfl) (by kernel_rfl) (by kernel_rfl) (by kernel_rfl) (by kernel_rfl) (fun _ _ _ h => h) (by assumption) (fun o ho w hSw => ?_) ?_
          rotate_left
          · replace ho := Option.some.inj ho
            conv at ho => lhs; whnf
            subst ho
            (try dsimp only at hSw)
            go_simp
            (try rfl)
          (try simp only [Act.put, List.setIfInBounds_toArray, List.set_cons_zero, List.set_cons_succ])
          (refine hx_skip 3 (some 63) (by kernel_rfl) (by kernel_rfl) (by kernel_rfl) (by kernel_rfl) (by kernel_rfl) (fun _ _ _ h => h) (by assumption) ?_; (try simp only [Act.put, List.setIfInBounds_toArray, List.set_cons_zero, List.set_cons_succ]))
          (refine hx_skip 4 (some 64) (by kernel_rfl) (by kernel_rfl) (by kernel_rfl) (by kernel_rfl) (by kernel_rfl) (fun _ _ _ h => h) (by assumption) ?_; (try simp only [Act.put, List.setIfInBounds_toArray, List.set_cons_zero, List.set_cons_succ]))
          (refine hx_skip 5 (some 65) (by kernel_rfl) (by kernel_rfl) (by kernel_rfl) (by kernel_rfl) (by kernel_rfl) (fun _ _ _ h => h) (by assumption) ?_; (try simp only [Act.put, List.setIfInBounds_toArray, List.set_cons_zero, List.set_cons_succ]))
          (refine hx_skip 6 (some 66) (by kernel_rfl) (by kernel_rfl) (by kernel_rfl) (by kernel_rfl) (by kernel_rfl) (fun _ _ _ h => h) (by assumption) ?_; (try simp only [Act.put, List.setIfInBounds_toArray, List.set_cons_zero, List.set_cons_succ]))
          (refine hx_skip 7 (some 67) (by kernel_rfl) (by kernel_rfl) (by kernel_rfl) (by kernel_rfl) (by kernel_rfl) (fun _ _ _ h => h) (by assumption) ?_; (try simp only [Act.put, List.setIfInBounds_toArray, List.set_cons_zero, List.set_cons_succ]))
          (refine hx_skip 8 (some 68) (by kernel_rfl) (by kernel_rfl) (by kernel_rfl) (by kernel_rfl) (by kernel_rfl) (fun _ _ _ h => h) (by assumption) ?_; (try simp only [Act.put, List.setIfInBounds_toArray, List.set_cons_zero, List.set_cons_succ]))
          refine hx_take 9 (some 69) ?_ (by kernel_rfl) (by kernel_rfl) (by kernel_rfl) (by kernel_rfl) (by kernel_rfl) (fun _ _ _ h => h) (by assumption) (fun o ho w hSw => ?_) ?_
          rotate_left
          · replace ho := Option.some.inj ho
            conv at ho => lhs; whnf
            subst ho
            (try dsimp only at hSw)
            go_simp
            (try rfl)
          (try simp only [Act.put, List.setIfInBounds_toArray, List.set_cons_zero, List.set_cons_succ])
          refine hx_take 10 (some 70) ?_ (by kernel_rfl) (by kernel_rfl) (by kernel_rfl) (by kernel_rfl) (by kernel_rfl) (fun _ _ _ h => h) (by assumption) (fun o ho w hSw => ?_) ?_
          rotate_left
          · replace ho := Option.some.inj ho
            conv at ho => lhs; whnf
            subst ho
            (try dsimp only at hSw)
            go_simp
            (try rfl)
          (try simp only [Act.put, List.setIfInBounds_toArray, List.set_cons_zero, List.set_cons_succ])
          (refine hx_skip 11 (some 71) (by kernel_rfl) (by kernel_rfl) (by kernel_rfl) (by kernel_rfl) (by kernel_rfl) (fun _ _ _ h => h) (by assumption) ?_; (try simp only [Act.put, List.setIfInBounds_toArray, List.set_cons_zero, List.set_cons_succ]))
          (refine hx_skip 12 (some 72) (by kernel_rfl) (by kernel_rfl) (by kernel_rfl) (by kernel_rfl) (by kernel_rfl) (fun _ _ _ h => h) (by assumption) ?_; (try simp only [Act.put, List.setIfInBounds_toArray, List.set_cons_zero, List.set_cons_succ]))
          (refine hx_skip 13 (some 73) (by kernel_rfl) (by kernel_rfl) (by kernel_rfl) (by kernel_rfl) (by kernel_rfl) (fun _ _ _ h => h) (by assumption) ?_; (try simp only [Act.put, List.setIfInBounds_toArray, List.set_cons_zero, List.set_cons_succ]))
          (refine hx_skip 14 (some 74) (by kernel_rfl) (by kernel_rfl) (by kernel_rfl) (by kernel_rfl) (by kernel_rfl) (fun _ _ _ h => h) (by assumption) ?_; (try simp only [Act.put, List.setIfInBounds_toArray, List.set_cons_zero, List.set_cons_succ]))
          (refine hx_skip 15 (some 75) (by kernel_rfl) (by kernel_rfl) (by kernel_rfl) (by kernel_rfl) (by kernel_rfl) (fun _ _ _ h => h) (by assumption) ?_; (try simp only [Act.put, List.setIfInBounds_toArray, List.set_cons_zero, List.set_cons_succ]))
          (refine hx_skip 16 (some 76) (by kernel_rfl) (by kernel_rfl) (by kernel_rfl) (by kernel_rfl) (by kernel_rfl) (fun _ _ _ h => h) (by assumption) ?_; (try simp only [Act.put, List.setIfInBounds_toArray, List.set_cons_zero, List.set_cons_succ]))
          (refine hx_skip 17 (some 77) (by kernel_rfl) (by kernel_rfl) (by kernel_rfl) (by kernel_rfl) (by kernel_rfl) (fun _ _ _ h => h) (by assumption) ?_; (try simp only [Act.put, List.setIfInBounds_toArray, List.set_cons_zero, List.set_cons_succ]))
          (refine hx_skip 18 (some 78) (by kernel_rfl) (by kernel_rfl) (by kernel_rfl) (by kernel_rfl) (by kernel_rfl) (fun _ _ _ h => h) (by assumption) ?_; (try simp only [Act.put, List.setIfInBounds_toArray, List.set_cons_zero, List.set_cons_succ]))
          refine hx_take 19 (some 79) ?_ (by kernel_rfl) (by kernel_rfl) (by kernel_rfl) (by kernel_rfl) (by kernel_rfl) (fun _ _ _ h => h) (by assumption) (fun o ho w hSw => ?_) ?_
          rotate_left
          · replace ho := Option.some.inj ho
            conv at ho => lhs; whnf
            subst ho
            (try dsimp only at hSw)
            go_simp
            (try rfl)
          (try simp only [Act.put, List.setIfInBounds_toArray, List.set_cons_zero, List.set_cons_succ])
          refine wpAnyH_done (by kernel_rfl) ?_ _
          have HGE := Lib.hid (show GrS X _ from by assumption)
          go_wp2
          go_roundw
          case rel => exact ⟨⟨k + 1, by omega, by go_num⟩, HGE⟩
          case measure => simp [intOf]; omega
        | true =>
          obtain ⟨his, hcf⟩ := HF2.out (by obtain ⟨q1, _⟩ := crosses_iff.1 hcx; have := side_of q1; omega) Hm.out.symm x (List.mem_of_getElem? HX.out) hcx
          subst his
          go_wp2_with fail
          refine wp_region_held_drew (S := fun w' => GrS X w') (by kernel_rfl) ?_ (fun hHeld => ?_)
          · exact GrS.start HB.out.1
          refine hx_take 0 (some 60) ?_ (by kernel_rfl) (by kernel_rfl) (by kernel_rfl) (by kernel_rfl) (by kernel_rfl) (fun _ _ _ h => h) (by assumption) (fun o ho w hSw => ?_) ?_
          rotate_left
          · replace ho := Option.some.inj ho
            conv at ho => lhs; whnf
            subst ho
            (try dsimp only at hSw)
            go_simp
            (try rfl)
          (try simp only [Act.put, List.setIfInBounds_toArray, List.set_cons_zero, List.set_cons_succ])
          refine hx_act 1 (some 61) (by kernel_rfl) (by kernel_rfl) (by kernel_rfl) (fun K hK o ho => ?_)
          replace ho := Option.some.inj ho
          conv at ho => lhs; whnf
          subst ho
          go_simp
          (first
            | (go_at_call 17; (with_reducible refine (HMAY.out _ (GrS.fin (by assumption))).mono ?_); rintro e w4 ⟨rfl, hb1⟩)
            | (go_at_call 15; (first | (with_reducible refine (crosses_v a x _ hcx _ (HPX.out.mono (GrS.fin (by assumption)))).mono ?_) | (with_reducible refine (crosses_v a F _ hcf _ (HPX.out.mono (GrS.fin (by assumption)))).mono ?_)); rintro e w4 ⟨rfl, hb1⟩))
          first | (refine hK _ _ ?_ (fun hHeld => ?_)) | (go_wp2_with fail; refine hK _ _ ?_ (fun hHeld => ?_))
          · exact GrS.call (by assumption) hb1
          clear hK K
          (try simp only [Act.put, List.setIfInBounds_toArray, List.set_cons_zero, List.set_cons_succ])
          refine hx_take 2 (some 62) ?_ (by kernel_rfl) (by kernel_rfl) (by kernel_rfl) (by kernel_rfl) (by kernel_rfl) (fun _ _ _ h => h) (by assumption) (fun o ho w hSw => ?_) ?_
          rotate_left
          · replace ho := Option.some.inj ho
            conv at ho => lhs; whnf
            subst ho
            (try dsimp only at hSw)
            go_simp
            (try rfl)
          (try simp only [Act.put, List.setIfInBounds_toArray, List.set_cons_zero, List.set_cons_succ])
          refine hx_take 3 (some 63) ?_ (by kernel_rfl) (by kernel_rfl) (by kernel_rfl) (by kernel_rfl) (by kernel_rfl) (fun _ _ _ h => h) (by assumption) (fun o ho w hSw => ?_) ?_
          rotate_left
          · replace ho := Option.some.inj ho
            conv at ho => lhs; whnf
            subst ho
            (try dsimp only at hSw)
            go_simp
            (try rfl)
          (try simp only [Act.put, List.setIfInBounds_toArray, List.set_cons_zero, List.set_cons_succ])
          refine hx_take 4 (some 64) ?_ (by kernel_rfl) (by kernel_rfl) (by kernel_rfl) (by kernel_rfl) (by kernel_rfl) (fun _ _ _ h => h) (by assumption) (fun o ho w hSw => ?_) ?_
          rotate_left
          · replace ho := Option.some.inj ho
            conv at ho => lhs; whnf
            subst ho
            (try dsimp only at hSw)
            go_simp
            (try rfl)
          (try simp only [Act.put, List.setIfInBounds_toArray, List.set_cons_zero, List.set_cons_succ])
          refine hx_take 5 (some 65) ?_ (by kernel_rfl) (by kernel_rfl) (by kernel_rfl) (by kernel_rfl) (by kernel_rfl) (fun _ _ _ h => h) (by assumption) (fun o ho w hSw => ?_) ?_
          rotate_left
          · replace ho := Option.some.inj ho
            conv at ho => lhs; whnf
            subst ho
            (try dsimp only at hSw)
            go_simp
            (try rfl)
          (try simp only [Act.put, List.setIfInBounds_toArray, List.set_cons_zero, List.set_cons_succ])
          refine hx_take 6 (some 66) ?_ (by kernel_rfl) (by kernel_rfl) (by kernel_rfl) (by kernel_rfl) (by kernel_rfl) (fun _ _ _ h => h) (by assumption) (fun o ho w hSw => ?_) ?_
          rotate_left
          · replace ho := Option.some.inj ho
            conv at ho => lhs; whnf
            subst ho
            (try dsimp only at hSw)
            go_simp
            (try rfl)
          (try simp only [Act.put, List.setIfInBounds_toArray, List.set_cons_zero, List.set_cons_succ])
          refine hx_take 7 (some 67) ?_ (by kernel_rfl) (by kernel_rfl) (by kernel_rfl) (by kernel_rfl) (by kernel_rfl) (fun _ _ _ h => h) (by assumption) (fun o ho w hSw => ?_) ?_
          rotate_left
          · replace ho := Option.some.inj ho
            conv at ho => lhs; whnf
            subst ho
            (try dsimp only at hSw)
            go_simp
            (try rfl)
          (try simp only [Act.put, List.setIfInBounds_toArray, List.set_cons_zero, List.set_cons_succ])
          refine hx_act 8 (some 68) (by kernel_rfl) (by kernel_rfl) (by kernel_rfl) (fun K hK o ho => ?_)
          replace ho := Option.some.inj ho
          conv at ho => lhs; whnf
          subst ho
          go_simp
          (first
            | (go_at_call 17; (with_reducible refine (HMAY.out _ (GrS.fin (by assumption))).mono ?_); rintro e w4 ⟨rfl, hb1⟩)
            | (go_at_call 15; (first | (with_reducible refine (crosses_v a x _ hcx _ (HPX.out.mono (GrS.fin (by assumption)))).mono ?_) | (with_reducible refine (crosses_v a F _ hcf _ (HPX.out.mono (GrS.fin (by assumption)))).mono ?_)); rintro e w4 ⟨rfl, hb1⟩))
          first | (refine hK _ _ ?_ (fun hHeld => ?_)) | (go_wp2_with fail; refine hK _ _ ?_ (fun hHeld => ?_))
          · exact GrS.call (by assumption) hb1
          clear hK K
          (try simp only [Act.put, List.setIfInBounds_toArray, List.set_cons_zero, List.set_cons_succ])
          refine hx_take 9 (some 69) ?_ (by kernel_rfl) (by kernel_rfl) (by kernel_rfl) (by kernel_rfl) (by kernel_rfl) (fun _ _ _ h => h) (by assumption) (fun o ho w hSw => ?_) ?_
          rotate_left
          · replace ho := Option.some.inj ho
            conv at ho => lhs; whnf
            subst ho
            (try dsimp only at hSw)
            go_simp
            (try rfl)
          (try simp only [Act.put, List.setIfInBounds_toArray, List.set_cons_zero, List.set_cons_succ])
          refine hx_take 10 (some 70) ?_ (by kernel_rfl) (by kernel_rfl) (by kernel_rfl) (by kernel_rfl) (by kernel_rfl) (fun _ _ _ h => h) (by assumption) (fun o ho w hSw => ?_) ?_
          rotate_left
          · replace ho := Option.some.inj ho
            conv at ho => lhs; whnf
            subst ho
            (try dsimp only at hSw)
            go_simp
            (try rfl)
          (try simp only [Act.put, List.setIfInBounds_toArray, List.set_cons_zero, List.set_cons_succ])
          refine hx_take 11 (some 71) ?_ (by kernel_rfl) (by kernel_rfl) (by kernel_rfl) (by kernel_rfl) (by kernel_rfl) (fun _ _ _ h => h) (by assumption) (fun o ho w hSw => ?_) ?_
          rotate_left
          · replace ho := Option.some.inj ho
            conv at ho => lhs; whnf
            subst ho
            (try dsimp only at hSw)
            go_simp
            (try rfl)
          (try simp only [Act.put, List.setIfInBounds_toArray, List.set_cons_zero, List.set_cons_succ])
          refine hx_take 12 (some 72) ?_ (by kernel_rfl) (by kernel_rfl) (by kernel_rfl) (by kernel_rfl) (by kernel_rfl) (fun _ _ _ h => h) (by assumption) (fun o ho w hSw => ?_) ?_
          rotate_left
          · replace ho := Option.some.inj ho
            conv at ho => lhs; whnf
            subst ho
            (try dsimp only at hSw)
            go_simp
            (try rfl)
          (try simp only [Act.put, List.setIfInBounds_toArray, List.set_cons_zero, List.set_cons_succ])
          refine hx_take 13 (some 73) ?_ (by kernel_rfl) (by kernel_rfl) (by kernel_rfl) (by kernel_rfl) (by kernel_rfl) (fun _ _ _ h => h) (by assumption) (fun o ho w hSw => ?_) ?_
          rotate_left
          · replace ho := Option.some.inj ho
            conv at ho => lhs; whnf
            subst ho
            (try dsimp only at hSw)
            go_simp
            (try rfl)
          (try simp only [Act.put, List.setIfInBounds_toArray, List.set_cons_zero, List.set_cons_succ])
          refine hx_take 14 (some 74) ?_ (by kernel_rfl) (by kernel_rfl) (by kernel_rfl) (by kernel_rfl) (by kernel_rfl) (fun _ _ _ h => h) (by assumption) (fun o ho w hSw => ?_) ?_
          rotate_left
          · replace ho := Option.some.inj ho
            conv at ho => lhs; whnf
            subst ho
            (try dsimp only at hSw)
            go_simp
            (try rfl)
          (try simp only [Act.put, List.setIfInBounds_toArray, List.set_cons_zero, List.set_cons_succ])
          refine hx_take 15 (some 75) ?_ (by kernel_rfl) (by kernel_rfl) (by kernel_rfl) (by kernel_rfl) (by kernel_rfl) (fun _ _ _ h => h) (by assumption) (fun o ho w hSw => ?_) ?_
          rotate_left
          · replace ho := Option.some.inj ho
            conv at ho => lhs; whnf
            subst ho
            (try dsimp only at hSw)
            go_simp
            (try rfl)
          (try simp only [Act.put, List.setIfInBounds_toArray, List.set_cons_zero, List.set_cons_succ])
          refine hx_act 16 (some 76) (by kernel_rfl) (by kernel_rfl) (by kernel_rfl) (fun K hK o ho => ?_)
          replace ho := Option.some.inj ho
          conv at ho => lhs; whnf
          subst ho
          go_simp
          (first
            | (go_at_call 17; (with_reducible refine (HMAY.out _ (GrS.fin (by assumption))).mono ?_); rintro e w4 ⟨rfl, hb1⟩)
            | (go_at_call 15; (first | (with_reducible refine (crosses_v a x _ hcx _ (HPX.out.mono (GrS.fin (by assumption)))).mono ?_) | (with_reducible refine (crosses_v a F _ hcf _ (HPX.out.mono (GrS.fin (by assumption)))).mono ?_)); rintro e w4 ⟨rfl, hb1⟩))
          first | (refine hK _ _ ?_ (fun hHeld => ?_)) | (go_wp2_with fail; refine hK _ _ ?_ (fun hHeld => ?_))
          · exact GrS.call (by assumption) hb1
          clear hK K
          (try simp only [Act.put, List.setIfInBounds_toArray, List.set_cons_zero, List.set_cons_succ])
          refine hx_take 17 (some 77) ?_ (by kernel_rfl) (by kernel_rfl) (by kernel_rfl) (by kernel_rfl) (by kernel_rfl) (fun _ _ _ h => h) (by assumption) (fun o ho w hSw => ?_) ?_
          rotate_left
          · replace ho := Option.some.inj ho
            conv at ho => lhs; whnf
            subst ho
            (try dsimp only at hSw)
            go_simp
            (try rfl)
          (try simp only [Act.put, List.setIfInBounds_toArray, List.set_cons_zero, List.set_cons_succ])
          refine hx_take 18 (some 78) ?_ (by kernel_rfl) (by kernel_rfl) (by kernel_rfl) (by kernel_rfl) (by kernel_rfl) (fun _ _ _ h => h) (by assumption) (fun o ho w hSw => ?_) ?_
          rotate_left
          · replace ho := Option.some.inj ho
            conv at ho => lhs; whnf
            subst ho
            (try dsimp only at hSw)
            go_simp
            (try rfl)
          (try simp only [Act.put, List.setIfInBounds_toArray, List.set_cons_zero, List.set_cons_succ])
          refine hx_take 19 (some 79) ?_ (by kernel_rfl) (by kernel_rfl) (by kernel_rfl) (by kernel_rfl) (by kernel_rfl) (fun _ _ _ h => h) (by assumption) (fun o ho w hSw => ?_) ?_
          rotate_left
          · replace ho := Option.some.inj ho
            conv at ho => lhs; whnf
            subst ho
            (try dsimp only at hSw)
            go_simp
            (try rfl)
          (try simp only [Act.put, List.setIfInBounds_toArray, List.set_cons_zero, List.set_cons_succ])
          refine wpAnyH_done (by kernel_rfl) ?_ _
          have HGE := Lib.hid (show GrS X _ from by assumption)
          go_wp2
          go_roundw
          case rel => exact ⟨⟨k + 1, by omega, by go_num⟩, HGE⟩
          case measure => simp [intOf]; omega
    · go_wp2
      go_ret
      exact ⟨rfl, grow_trans HBX.out HB.out.1⟩
theorem lawCrossing_c (la : Option Addr) (lc : Nat) (xs : List Ord) (a b c : Ord) (w : World) (hs : SlO w la lc xs) (hp : PrW w) :
    Calls Tryd.prog 5 #[.slice la xs.length lc, (.agg #[.int .i64 a.id, .int .i64 a.acct, .int .i64 a.inst, .int .u8 a.side, .int .i64 a.price, .int .i64 a.left]), (.agg #[.int .i64 b.id, .int .i64 b.acct, .int .i64 b.inst, .int .u8 b.side, .int .i64 b.price, .int .i64 b.left]), (.agg #[.int .i64 c.id, .int .i64 c.acct, .int .i64 c.inst, .int .u8 c.side, .int .i64 c.price, .int .i64 c.left])] w fun e w' => e = .returned (.bool true) ∧ Below w.heap.size w w' := by
  cases hn : decide (200 < (xs.length : Int)) with
  | true => exact lawCr_big la lc _ a b c w hp hn
  | false =>
    have hba := crosses_symm a b
    cases hab : crosses a b with
    | false => exact lawCr_x la lc _ xs a b c w (Lib.hid hs) (Lib.hid rfl) hp hn hab (by rw [← hba]; exact hab)
    | true =>
      cases hcb : less c b with
      | false => exact lawCr_y la lc _ xs a b c w (Lib.hid hs) (Lib.hid rfl) hp hn hab (by rw [← hba]; exact hab) hcb
      | true => exact lawCr_z la lc _ xs a b c w (Lib.hid hs) (Lib.hid rfl) hp hn hab (by rw [← hba]; exact hab) hcb (crosses_less hab hcb)
end Go.Proofs.YtecfajnmekpeoaaDoor
