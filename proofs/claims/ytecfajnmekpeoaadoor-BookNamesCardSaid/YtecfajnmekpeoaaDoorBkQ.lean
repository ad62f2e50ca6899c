/-
  Contracts of the layer 16's comparing: soukref16.Same, souklaw16.same, list, of. Conditions: that the slices read as lists.
-/
import Derived.Test.YtecfajnmekpeoaaDoorEo
import Derived.Laws.StructEq
namespace Go.Proofs.YtecfajnmekpeoaaDoor
open Go.RowKit

theorem eqO (x y : Ord) (w : World) : (binOp .neq 23 (.agg #[.int .i64 x.id, .int .i64 x.acct, .int .i64 x.inst, .int .u8 x.side, .int .i64 x.price, .int .i64 x.left]) (.agg #[.int .i64 y.id, .int .i64 y.acct, .int .i64 y.inst, .int .u8 y.side, .int .i64 y.price, .int .i64 y.left])).run Tryd.prog w = .ok (.bool (!decide (x = y))) w := by
  have hS : (Tryd.prog).underlying 23 = some (.struct ((Tryd.prog).fieldsOf 23)) := by kernel_rfl
  have hp : (Tryd.prog).stoodInHeld 23 = false := by kernel_rfl
  rw [run_neq_struct, show (10000 : Nat) = 9999 + 1 from rfl, run_equalIn_agg w 9999 23 _ _ hS hp]
  have h : (decide (x = y)) = (x.id == y.id && (x.acct == y.acct && (x.inst == y.inst && (x.side == y.side && (x.price == y.price && x.left == y.left))))) := by
    rw [Bool.eq_iff_iff]
    cases x; cases y; simp
  rw [h]
  simp only [Program.fieldsOf, Tryd.underlying23]
  go_simp
  by_cases h1 : x.id = y.id <;> by_cases h2 : x.acct = y.acct <;> by_cases h3 : x.inst = y.inst <;> by_cases h4 : x.side = y.side <;> by_cases h5 : x.price = y.price <;> by_cases h6 : x.left = y.left <;> simp [h1, h2, h3, h4, h5, h6]
theorem guardO (x y : Ord) (p q : Operand) (w : World) : (eqGuard .neq 23 p q (.agg #[.int .i64 x.id, .int .i64 x.acct, .int .i64 x.inst, .int .u8 x.side, .int .i64 x.price, .int .i64 x.left]) (.agg #[.int .i64 y.id, .int .i64 y.acct, .int .i64 y.inst, .int .u8 y.side, .int .i64 y.price, .int .i64 y.left])).run Tryd.prog w = .ok () w := run_eqGuard_agg w .neq 23 p q _ _ (by kernel_rfl)

theorem below_drewN {B : Nat} {a w : World} (h : Below B a w) (n : Nat) : Below B a (w.drewN n) := ⟨h.os, h.tape, h.output, h.size, h.block⟩

set_option maxHeartbeats 2000000 in
theorem refSame_c (a b : Option Addr) (ca cb : Nat) (xs ys : List Ord) (w : World) (ha : SlO w a ca xs) (hb : SlO w b cb ys) :
    Calls Tryd.prog 24 #[.slice a xs.length ca, .slice b ys.length cb] w fun e w' => e = .returned (.bool (decide (xs = ys))) ∧ Below w.heap.size w w' := by
  have hla := ha.le
  have hma := ha.max
  have hlb := hb.le
  have hmb := hb.max
  by_cases hl : xs.length = ys.length
  · have HA := Lib.hid ha; clear ha
    have HB := Lib.hid hb; clear hb
    obtain ⟨n, hn⟩ : ∃ n, n = xs.length := ⟨_, rfl⟩
    rw [← hl, ← hn] at hlb ⊢
    rw [← hn] at hla
    have hne : ((n : Int) != (n : Int)) = false := by simp
    have HN := Lib.hid hn; clear hn
    have HL := Lib.hid hl; clear hl
    generalize hr : decide (xs = ys) = r
    have HR := Lib.hid hr; clear hr
    have hE := eqO
    have hGd := guardO
    have HE := Lib.hid hE; clear hE
    have HGD := Lib.hid hGd; clear hGd
    go_enter Tryd.func24, Tryd.ntmps24
    go_wp2
    go_loopw [5] (fun i wr => (∃ k : Nat, k ≤ n ∧ i = .int .i64 k ∧ Hid (∀ (j : Nat), j < k → xs[j]? = ys[j]?)) ∧ Hid (Below w.heap.size w wr)) (fun i _ => n - (intOf i).toNat)
    case atStart => exact ⟨⟨0, by omega, rfl, Lib.hid fun j hj => absurd hj (Nat.not_lt_zero _)⟩, Lib.hid (Below.refl _ _)⟩
    case round =>
      obtain ⟨⟨k, hk, rfl, HP⟩, HW⟩ := hrel
      by_cases hlt : k < n
      · have hx' : k < xs.length := by have := HN.out; omega
        have hy' : k < ys.length := by have := HL.out; omega
        obtain ⟨x, HX⟩ : ∃ x, Hid (xs[k]? = some x) := ⟨_, Lib.hid (List.getElem?_eq_getElem hx')⟩
        obtain ⟨y, HY⟩ : ∃ y, Hid (ys[k]? = some y) := ⟨_, Lib.hid (List.getElem?_eq_getElem hy')⟩
        obtain ⟨b1, off1, e1, hb1, hc1⟩ := SlR.cells6 HA.out (by intro h; rw [h] at hx'; simp at hx')
        obtain ⟨b2, off2, e2, hb2, hc2⟩ := SlR.cells6 HB.out (by intro h; rw [h] at hy'; simp at hy')
        subst e1; subst e2
        obtain ⟨x0, x1, x2, x3, x4, x5⟩ := (hc1 k x HX.out).mono HW.out
        obtain ⟨y0, y1, y2, y3, y4, y5⟩ := (hc2 k y HY.out).mono HW.out
        have i0 : (0 : Int) ≤ (k : Int) := Int.natCast_nonneg _
        have i1 : (k : Int) < (n : Int) := by omega
        have hee := HE.out x y
        have hgg := HGD.out x y
        clear hc1 hc2 hx' hy' hb1 hb2
        generalize hdd : decide (x = y) = dd at hee
        have HD := Lib.hid hdd; clear hdd
        go_wp2_with fail
        go_quiet (fail)
        cases dd with
        | true =>
          go_wp2
          go_roundw
          case rel =>
            refine ⟨⟨k + 1, by omega, by go_num, Lib.hid fun j hj => ?_⟩, Lib.hid (below_drewN HW.out _)⟩
            by_cases e : j = k
            · subst e
              rw [HX.out, HY.out, of_decide_eq_true HD.out]
            · exact HP.out j (by omega)
          case measure => simp [intOf]; omega
        | false =>
          go_wp2
          go_ret
          refine ⟨ret_bool ?_, below_drewN HW.out _⟩
          rw [← HR.out]
          refine (decide_eq_false fun h => ?_).symm
          subst h
          have := HX.out.symm.trans HY.out
          injection this with this
          exact of_decide_eq_false HD.out this
      · go_wp2
        go_ret
        refine ⟨ret_bool ?_, HW.out⟩
        rw [← HR.out]
        refine (decide_eq_true (List.ext_getElem? fun j => ?_)).symm
        by_cases hj : j < k
        · exact HP.out j hj
        · rw [List.getElem?_eq_none (by have := HN.out; omega), List.getElem?_eq_none (by have := HN.out; have := HL.out; omega)]
  · have hr : decide (xs = ys) = false := decide_eq_false fun h => hl (by rw [h])
    have HR := Lib.hid hr; clear hr
    have hne : ((xs.length : Int) != (ys.length : Int)) = true := by simp; omega
    clear ha hb hl
    generalize xs.length = n at *
    generalize ys.length = m at *
    go_enter Tryd.func24, Tryd.ntmps24
    go_wp2
    go_ret
    exact ⟨ret_bool HR.out.symm, Below.refl _ _⟩

theorem same_c (a b : Option Addr) (ca cb : Nat) (xs ys : List Ord) (w : World) (ha : SlO w a ca xs) (hb : SlO w b cb ys) :
    Calls Tryd.prog 36 #[.slice a xs.length ca, .slice b ys.length cb] w fun e w' => e = .returned (.bool (decide (xs = ys))) ∧ Below w.heap.size w w' := by
  have h := refSame_c a b ca cb xs ys w ha hb
  clear ha hb
  generalize decide (xs = ys) = r at *
  generalize xs.length = n at *
  generalize ys.length = m at *
  go_enter Tryd.func36, Tryd.ntmps36
  go_wp2_with (go_at_call 24; refine h.mono ?_; rintro e w1 ⟨rfl, hb1⟩)
  go_ret
  exact ⟨rfl, hb1⟩
theorem listV_c (v : Value) (w : World) : Calls Tryd.prog 37 #[v] w fun e w' => e = .returned v ∧ w = w' := by
  go_enter Tryd.func37, Tryd.ntmps37
  go_wp2
  go_ret
  exact ⟨rfl, rfl⟩
set_option maxHeartbeats 1000000 in
theorem of_c (id side price left : Int) (w : World) : Calls Tryd.prog 38 #[.int .i64 id, .int .u8 side, .int .i64 price, .int .i64 left] w fun e w' => e = .returned (.agg #[.int .i64 (⟨id, 1, 3, side, price, left⟩ : Ord).id, .int .i64 (⟨id, 1, 3, side, price, left⟩ : Ord).acct, .int .i64 (⟨id, 1, 3, side, price, left⟩ : Ord).inst, .int .u8 (⟨id, 1, 3, side, price, left⟩ : Ord).side, .int .i64 (⟨id, 1, 3, side, price, left⟩ : Ord).price, .int .i64 (⟨id, 1, 3, side, price, left⟩ : Ord).left]) ∧ Below w.heap.size w w' := by
  go_enter Tryd.func38, Tryd.ntmps38
  go_wp2
  exact bodyPost_ret (v := .agg #[.int .i64 id, .int .i64 1, .int .i64 3, .int .u8 side, .int .i64 price, .int .i64 left]) (by simp [results, Tryd.results38, go_sem]) rfl ⟨rfl, below_alloc _ _⟩
end Go.Proofs.YtecfajnmekpeoaaDoor
