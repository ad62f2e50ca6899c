/-
  Contract of layer 16 (book): Holds, at every order. Conditions: none.
-/
import Derived.Test.YtecfajnmekpeoaaDoorBkL
namespace Go.Proofs.YtecfajnmekpeoaaDoor
open Go.RowKit

set_option maxHeartbeats 2000000 in
theorem holds_c (o : Ord) (w : World) :
    Calls Tryd.prog 12 #[(.agg #[.int .i64 o.id, .int .i64 o.acct, .int .i64 o.inst, .int .u8 o.side, .int .i64 o.price, .int .i64 o.left])] w fun e w' => e = .returned (.tuple #[.int .i64 (holdsA o), .int .i64 (holdsN o)]) ∧ Below w.heap.size w w' := by
  by_cases hm : mayOne o = true
  · have hm' := mayOne_iff.1 hm
    have b1 : 0 ≤ o.price := by omega
    have b2 : o.price ≤ 1073741824 := by omega
    have b3 : 0 ≤ o.left := by omega
    have b4 : o.left ≤ 1048576 := by omega
    have b5 : 0 ≤ o.price * o.left := Int.mul_nonneg b1 b3
    have b6 : o.price * o.left ≤ 1073741824 * 1048576 := Int.mul_le_mul b2 b4 b3 (by omega)
    have hs := hm'.2.2.2.1
    clear hm'
    obtain ⟨W, hW, hWb, hWs, hA⟩ := box1 w #[.int .i64 o.id, .int .i64 o.acct, .int .i64 o.inst, .int .u8 o.side, .int .i64 o.price, .int .i64 o.left] 23
    have HWb := Lib.hid hWb; clear hWb
    have HG := Lib.hid (GrS.refl W)
    rcases hs with hs | hs
    · have Hr : Hid (holdsA o = 0 ∧ holdsN o = o.price * o.left) := Lib.hid (by simp [holdsA, holdsN, hm, hs])
      have hs' : (o.side == 1) = true := by simp [hs]
      have i5 : IntKind.i64.wrap (o.price * o.left) = o.price * o.left := IntWalk.i64_in _ (by omega)
      clear hs b5 b6
      go_enter Tryd.func12, Tryd.ntmps12
      go_wp2_with (first | (go_at_call 13; (with_reducible refine (mayOne_c o _).mono ?_); rintro e w1 ⟨rfl, hb1⟩; replace HG := Lib.hid (GrS.call HG.out hb1); clear hb1; (try clear hG); have hG := HG.out))
      clear hW hG
      go_region_held3 (fun w' => GrS W w') (first | exact GrS.start HG.out.1 | exact GrS.call (by assumption) hb1 | exact GrS.alloc (by assumption) _ | assumption) (fail)
      go_wp2
      go_ret2
      exact ⟨ret_ii Hr.out.1.symm Hr.out.2.symm, grow_trans HWb.out (GrS.fin (by assumption))⟩
    · have Hr : Hid (holdsA o = o.inst ∧ holdsN o = o.left) := Lib.hid (by simp [holdsA, holdsN, hm, hs])
      have hs' : (o.side == 1) = false := by simp [hs]
      clear hs b5 b6
      go_enter Tryd.func12, Tryd.ntmps12
      go_wp2_with (first | (go_at_call 13; (with_reducible refine (mayOne_c o _).mono ?_); rintro e w1 ⟨rfl, hb1⟩; replace HG := Lib.hid (GrS.call HG.out hb1); clear hb1; (try clear hG); have hG := HG.out))
      clear hW hG
      go_region_held3 (fun w' => GrS W w') (first | exact GrS.start HG.out.1 | exact GrS.call (by assumption) hb1 | exact GrS.alloc (by assumption) _ | assumption) (fail)
      go_wp2
      go_ret2
      exact ⟨ret_ii Hr.out.1.symm Hr.out.2.symm, grow_trans HWb.out (GrS.fin (by assumption))⟩
  · have hm' : mayOne o = false := by simpa using hm
    have Hr : Hid (holdsA o = 0 ∧ holdsN o = 0) := Lib.hid (by simp [holdsA, holdsN, hm'])
    clear hm
    obtain ⟨W, hW, hWb, hWs, hA⟩ := box1 w #[.int .i64 o.id, .int .i64 o.acct, .int .i64 o.inst, .int .u8 o.side, .int .i64 o.price, .int .i64 o.left] 23
    have HWb := Lib.hid hWb; clear hWb
    have HG := Lib.hid (GrS.refl W)
    go_enter Tryd.func12, Tryd.ntmps12
    go_wp2_with (first | (go_at_call 13; (with_reducible refine (mayOne_c o _).mono ?_); rintro e w1 ⟨rfl, hb1⟩; replace HG := Lib.hid (GrS.call HG.out hb1); clear hb1; (try clear hG); have hG := HG.out))
    go_ret2
    exact ⟨ret_ii Hr.out.1.symm Hr.out.2.symm, grow_trans HWb.out HG.out.1⟩
end Go.Proofs.YtecfajnmekpeoaaDoor
