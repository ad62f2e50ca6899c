/-
  Contract of souklaw16.spoil: a list that the call owns is written over; nothing else is. Conditions: the list is one of the call's own.
-/
import Derived.Test.YtecfajnmekpeoaaDoorRfF
import Derived.Maps.AppendAt
namespace Go.Proofs.YtecfajnmekpeoaaDoor
open Go.RowKit

/-- a block of as many cells, whatever they hold -/
def BlockOf (w : World) (g m : Nat) : Prop := ∃ cur : Array Value, w.heap[g]? = some (.cells cur 23 (0, 0)) ∧ cur.size = m
theorem BlockOf.cell {w : World} {g m : Nat} (h : BlockOf w g m) {i : Nat} (hi : i < m) : ∃ v, w.cell? ⟨g, i, none⟩ = some v := by
  obtain ⟨cur, hg, hs⟩ := h
  rw [cell_of_row w g i cur 23 (0, 0) hg]
  exact ⟨_, Array.getElem?_eq_getElem (by omega)⟩
theorem BlockOf.free {w : World} {g m : Nat} (h : BlockOf w g m) (i : Nat) : w.frozen? ⟨g, i, none⟩ = false := by
  obtain ⟨cur, hg, hs⟩ := h
  simp [World.frozen?, hg]
theorem BlockOf.set {w : World} {g m : Nat} (h : BlockOf w g m) (i : Nat) (v : Value) : BlockOf (w.setCell ⟨g, i, none⟩ v) g m ∧ w.grownBy (w.setCell ⟨g, i, none⟩ v) (some g) := by
  obtain ⟨cur, hg, hs⟩ := h
  rw [setCell_eq_setRow w g i cur 23 (0, 0) _ hg]
  exact ⟨⟨_, setRow_heap w g cur _ 23 _ hg, by simpa using hs⟩, ⟨rfl, rfl, rfl, by simp, fun q hq hne => setRow_other w g q _ (fun e => hne (by rw [e]))⟩⟩
theorem BlockOf.set6 {w0 w : World} {g m : Nat} (h : BlockOf w g m) (hg : w0.grownBy w (some g)) (p : Nat) (v0 v1 v2 v3 v4 v5 : Value) :
    BlockOf ((((((w.setCell ⟨g, p, none⟩ v0).setCell ⟨g, p + 1, none⟩ v1).setCell ⟨g, p + 2, none⟩ v2).setCell ⟨g, p + 3, none⟩ v3).setCell ⟨g, p + 4, none⟩ v4).setCell ⟨g, p + 5, none⟩ v5) g m ∧ w0.grownBy ((((((w.setCell ⟨g, p, none⟩ v0).setCell ⟨g, p + 1, none⟩ v1).setCell ⟨g, p + 2, none⟩ v2).setCell ⟨g, p + 3, none⟩ v3).setCell ⟨g, p + 4, none⟩ v4).setCell ⟨g, p + 5, none⟩ v5) (some g) := by
  obtain ⟨a0, b0⟩ := h.set p v0
  obtain ⟨a1, b1⟩ := a0.set (p + 1) v1
  obtain ⟨a2, b2⟩ := a1.set (p + 2) v2
  obtain ⟨a3, b3⟩ := a2.set (p + 3) v3
  obtain ⟨a4, b4⟩ := a3.set (p + 4) v4
  obtain ⟨a5, b5⟩ := a4.set (p + 5) v5
  exact ⟨a5, (((((hg.trans b0).trans b1).trans b2).trans b3).trans b4).trans b5⟩
set_option maxHeartbeats 2000000 in
theorem spoil_some (g cap n : Nat) (w : World) (hb : BlockOf w g (cap * 6)) (hn : n ≤ cap) (hmax : cap ≤ 9223372036854775807) :
    Calls Tryd.prog 26 #[.slice (some ⟨g, 0, none⟩) n cap] w fun e w' => e = .returned (.tuple #[]) ∧ w.grownBy w' (some g) := by
  have HB := Lib.hid hb; clear hb
  go_enter Tryd.func26, Tryd.ntmps26
  go_wp2
  go_loopw [2] (fun i wr => (∃ k : Nat, k ≤ n ∧ i = .int .i64 k) ∧ Hid (BlockOf wr g (cap * 6) ∧ w.grownBy wr (some g))) (fun i _ => n - (intOf i).toNat)
  case atStart => exact ⟨⟨0, Nat.zero_le _, rfl⟩, Lib.hid ⟨HB.out, World.grownBy.refl _ _⟩⟩
  case round =>
    obtain ⟨⟨k, hk, rfl⟩, HW⟩ := hrel
    by_cases hlt : k < n
    · have i0 : (0 : Int) ≤ (k : Int) := Int.natCast_nonneg _
      have i1 : (k : Int) < (n : Int) := by omega
      obtain ⟨c0, x0⟩ := HW.out.1.cell (i := k * 6) (by omega)
      obtain ⟨c1, x1⟩ := HW.out.1.cell (i := k * 6 + 1) (by omega)
      obtain ⟨c2, x2⟩ := HW.out.1.cell (i := k * 6 + 2) (by omega)
      obtain ⟨c3, x3⟩ := HW.out.1.cell (i := k * 6 + 3) (by omega)
      obtain ⟨c4, x4⟩ := HW.out.1.cell (i := k * 6 + 4) (by omega)
      obtain ⟨c5, x5⟩ := HW.out.1.cell (i := k * 6 + 5) (by omega)
      have hf := HW.out.1.free
      go_wp2
      go_roundw
      case rel => exact ⟨⟨k + 1, by omega, by go_num⟩, Lib.hid (BlockOf.set6 HW.out.1 HW.out.2 (k * 6) _ _ _ _ _ _)⟩
      case measure => simp [intOf]; omega
    · go_wp2
      go_end0
      exact ⟨rfl, HW.out.2⟩
theorem spoil_none (w : World) : Calls Tryd.prog 26 #[.slice none 0 0] w fun e w' => e = .returned (.tuple #[]) ∧ w = w' := by
  go_enter Tryd.func26, Tryd.ntmps26
  go_wp2
  refine wp_loop_rounds 1 ?_
  rw [rounds_succ]
  go_wp2
  go_end0
  exact ⟨rfl, rfl⟩
/-- what the call owns from 'base' on is written over -/
theorem spoil_c {base n : Nat} {v : Value} {xs : List Ord} {a : Option Addr} {c : Nat} (w : World) (h : OwnO base w v xs) (hv : v = .slice a n c) (hn : n = xs.length) :
    Calls Tryd.prog 26 #[.slice a n c] w fun e w' => e = .returned (.tuple #[]) ∧ w.grownBy w' v.ownBlock := by
  subst hn
  obtain ⟨h1, h2⟩ := h
  rcases h2 with ⟨h2, h0⟩ | ⟨g, cap, cur, e1, hb, hg, hle, hmax, hsz, htk⟩
  · rw [h2] at hv ⊢
    injection hv with q1 q2 q3
    subst q1; rw [h0]; subst q3
    exact (spoil_none w).mono fun _ _ ⟨he, hw⟩ => ⟨he, hw ▸ World.grownBy.refl _ _⟩
  · rw [e1] at hv ⊢
    injection hv with q1 q2 q3
    subst q1; subst q3
    exact spoil_some g cap _ w ⟨cur, hg, hsz⟩ hle (by simpa [maxLen] using hmax)
end Go.Proofs.YtecfajnmekpeoaaDoor
