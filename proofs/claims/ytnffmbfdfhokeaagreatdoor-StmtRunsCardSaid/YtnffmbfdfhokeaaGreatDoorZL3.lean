/-
  Part 3 of the texts of: StmtRuns: its row and its card: whatever the input: true; the input reads as it did. Conditions: what the row prints (the table of functions reads as the program's text lays it).
-/
import Derived.Test.YtnffmbfdfhokeaaGreatDoorZL2
import Derived.Laws.StructEq
import Derived.Test.YtnffmbfdfhokeaaGreatDoorRows
import Derived.ProofKit
import Derived.OpenShut
import Derived.ChangeArms
import Derived.FnData
import Derived.LaidMore
import Derived.LaidOnce
import Derived.LaidHandle
import Derived.Laws.IdiomArrays
import Derived.RangeFuncNested
import Derived.RangeFuncLeaves
import Derived.LoopNIn
import Derived.TacticsIn
namespace Go.Proofs.YtnffmbfdfhokeaaGreatDoor
open Go.RowKit Go.PlainAid

theorem neq_P (x y : Opn) (w : World) : (binOp .neq 69 (.agg (encP x).toArray) (.agg (encP y).toArray)).run Tryz.prog w = .ok (.bool (!decide (x = y))) w := by
  have hS : (Tryz.prog).underlying 69 = some (.struct ((Tryz.prog).fieldsOf 69)) := by kernel_rfl
  have hp : (Tryz.prog).stoodInHeld 69 = false := by kernel_rfl
  unfold encP
  rw [run_neq_struct, show (10000 : Nat) = 9999 + 1 from rfl, run_equalIn_agg w 9999 69 _ _ hS hp]
  have h : (decide (x = y)) = (x.acct == y.acct && (x.id == y.id && (x.inst == y.inst && (x.side == y.side && (x.price == y.price && x.left == y.left))))) := by
    rw [Bool.eq_iff_iff]
    cases x; cases y; simp
  rw [h]
  simp only [Program.fieldsOf, Tryz.underlying69]
  go_simp
  by_cases h1 : x.acct = y.acct <;> by_cases h2 : x.id = y.id <;> by_cases h3 : x.inst = y.inst <;> by_cases h4 : x.side = y.side <;> by_cases h5 : x.price = y.price <;> by_cases h6 : x.left = y.left <;> simp [*]
theorem eql_P (x y : Opn) (w : World) : (binOp .eql 69 (.agg (encP x).toArray) (.agg (encP y).toArray)).run Tryz.prog w = .ok (.bool (decide (x = y))) w := by
  have hS : (Tryz.prog).underlying 69 = some (.struct ((Tryz.prog).fieldsOf 69)) := by kernel_rfl
  have hp : (Tryz.prog).stoodInHeld 69 = false := by kernel_rfl
  unfold encP
  rw [run_eql_struct, show (10000 : Nat) = 9999 + 1 from rfl, run_equalIn_agg w 9999 69 _ _ hS hp]
  have h : (decide (x = y)) = (x.acct == y.acct && (x.id == y.id && (x.inst == y.inst && (x.side == y.side && (x.price == y.price && x.left == y.left))))) := by
    rw [Bool.eq_iff_iff]
    cases x; cases y; simp
  rw [h]
  simp only [Program.fieldsOf, Tryz.underlying69]
  go_simp
  by_cases h1 : x.acct = y.acct <;> by_cases h2 : x.id = y.id <;> by_cases h3 : x.inst = y.inst <;> by_cases h4 : x.side = y.side <;> by_cases h5 : x.price = y.price <;> by_cases h6 : x.left = y.left <;> simp [*]
theorem pv_neqP {n : Nat} {l : Fr} {w : World} {d : Option Nat} {t' ty : TypeId} {x y : Operand} {pos : String} {af : Array Edge} {g : Option (Nat × Bool)} (a b : Opn) (hx : ev l x = some (.agg (encP a).toArray)) (hy : ev l y = some (.agg (encP b).toArray)) : Pv Tryz.prog n l ⟨d, .binOp .neq 69 x y t', ty, pos, af, g⟩ (.bool (!decide (a = b))) w := ⟨fun A hA => by
  have h1 : (eqGuard .neq 69 x y (.agg (encP a).toArray) (.agg (encP b).toArray)).run Tryz.prog w = .ok () w := run_eqGuard_agg w .neq 69 x y _ _ (by kernel_rfl)
  have h2 := neq_P a b w
  simp [execOp, hA.ev hx, hA.ev hy, h1, h2]⟩
theorem pv_eqlP {n : Nat} {l : Fr} {w : World} {d : Option Nat} {t' ty : TypeId} {x y : Operand} {pos : String} {af : Array Edge} {g : Option (Nat × Bool)} (a b : Opn) (hx : ev l x = some (.agg (encP a).toArray)) (hy : ev l y = some (.agg (encP b).toArray)) : Pv Tryz.prog n l ⟨d, .binOp .eql 69 x y t', ty, pos, af, g⟩ (.bool (decide (a = b))) w := ⟨fun A hA => by
  have h1 : (eqGuard .eql 69 x y (.agg (encP a).toArray) (.agg (encP b).toArray)).run Tryz.prog w = .ok () w := run_eqGuard_agg w .eql 69 x y _ _ (by kernel_rfl)
  have h2 := eql_P a b w
  simp [execOp, hA.ev hx, hA.ev hy, h1, h2]⟩

theorem neq_L (x y : Lt) (w : World) : (binOp .neq 73 (.agg (encL x).toArray) (.agg (encL y).toArray)).run Tryz.prog w = .ok (.bool (!decide (x = y))) w := by
  have hS : (Tryz.prog).underlying 73 = some (.struct ((Tryz.prog).fieldsOf 73)) := by kernel_rfl
  have hp : (Tryz.prog).stoodInHeld 73 = false := by kernel_rfl
  unfold encL
  rw [run_neq_struct, show (10000 : Nat) = 9999 + 1 from rfl, run_equalIn_agg w 9999 73 _ _ hS hp]
  have h : (decide (x = y)) = (x.id == y.id && (x.seller == y.seller && (x.inst == y.inst && x.qty == y.qty))) := by
    rw [Bool.eq_iff_iff]
    cases x; cases y; simp
  rw [h]
  simp only [Program.fieldsOf, Tryz.underlying73]
  go_simp
  by_cases h1 : x.id = y.id <;> by_cases h2 : x.seller = y.seller <;> by_cases h3 : x.inst = y.inst <;> by_cases h4 : x.qty = y.qty <;> simp [*]
theorem eql_L (x y : Lt) (w : World) : (binOp .eql 73 (.agg (encL x).toArray) (.agg (encL y).toArray)).run Tryz.prog w = .ok (.bool (decide (x = y))) w := by
  have hS : (Tryz.prog).underlying 73 = some (.struct ((Tryz.prog).fieldsOf 73)) := by kernel_rfl
  have hp : (Tryz.prog).stoodInHeld 73 = false := by kernel_rfl
  unfold encL
  rw [run_eql_struct, show (10000 : Nat) = 9999 + 1 from rfl, run_equalIn_agg w 9999 73 _ _ hS hp]
  have h : (decide (x = y)) = (x.id == y.id && (x.seller == y.seller && (x.inst == y.inst && x.qty == y.qty))) := by
    rw [Bool.eq_iff_iff]
    cases x; cases y; simp
  rw [h]
  simp only [Program.fieldsOf, Tryz.underlying73]
  go_simp
  by_cases h1 : x.id = y.id <;> by_cases h2 : x.seller = y.seller <;> by_cases h3 : x.inst = y.inst <;> by_cases h4 : x.qty = y.qty <;> simp [*]
theorem pv_neqL {n : Nat} {l : Fr} {w : World} {d : Option Nat} {t' ty : TypeId} {x y : Operand} {pos : String} {af : Array Edge} {g : Option (Nat × Bool)} (a b : Lt) (hx : ev l x = some (.agg (encL a).toArray)) (hy : ev l y = some (.agg (encL b).toArray)) : Pv Tryz.prog n l ⟨d, .binOp .neq 73 x y t', ty, pos, af, g⟩ (.bool (!decide (a = b))) w := ⟨fun A hA => by
  have h1 : (eqGuard .neq 73 x y (.agg (encL a).toArray) (.agg (encL b).toArray)).run Tryz.prog w = .ok () w := run_eqGuard_agg w .neq 73 x y _ _ (by kernel_rfl)
  have h2 := neq_L a b w
  simp [execOp, hA.ev hx, hA.ev hy, h1, h2]⟩
theorem pv_eqlL {n : Nat} {l : Fr} {w : World} {d : Option Nat} {t' ty : TypeId} {x y : Operand} {pos : String} {af : Array Edge} {g : Option (Nat × Bool)} (a b : Lt) (hx : ev l x = some (.agg (encL a).toArray)) (hy : ev l y = some (.agg (encL b).toArray)) : Pv Tryz.prog n l ⟨d, .binOp .eql 73 x y t', ty, pos, af, g⟩ (.bool (decide (a = b))) w := ⟨fun A hA => by
  have h1 : (eqGuard .eql 73 x y (.agg (encL a).toArray) (.agg (encL b).toArray)).run Tryz.prog w = .ok () w := run_eqGuard_agg w .eql 73 x y _ _ (by kernel_rfl)
  have h2 := eql_L a b w
  simp [execOp, hA.ev hx, hA.ev hy, h1, h2]⟩

set_option maxRecDepth 20000 in
theorem rfind_P {p : List Opn} {m : Nat} {a : Option Addr} {ca : Nat} {w : World} (id : Int) (hm : p.length = m) (HP : SlR encP 6 w a ca p) : Calls Tryz.prog 34 #[.slice a m ca, .int .i64 id] w fun e w' => e = .returned (.tuple #[.agg (encP ((findP p id).getD oZ)).toArray, .bool (findP p id).isSome]) ∧ Below w.heap.size w w' := by
  subst hm
  have hE := Ext.refl w
  have hw := Below.refl w.heap.size w
  have hca := HP.le
  have hcm := HP.max
  refine fn_enter 25 Tryz.func34 rfl rfl rfl ?_
  repeat' (first | (refine lw_pure rfl (pv_move rfl) ?_) | (refine lw_pure rfl (pv_assign rfl) ?_) | (refine is_cw ?_; first | (refine cw_seq ?_) | (refine cw_region ?_) | (refine cw_true rfl rfl ?_) | (refine cw_false rfl rfl ?_) | (refine cw_true rfl (by first | assumption | exact decide_eq_true (by omega) | exact dec_notT (by omega)) ?_) | (refine cw_false rfl (by first | assumption | exact decide_eq_false (by omega) | exact dec_notF (by omega)) ?_) | (refine cw_skip ?_) | (refine cw_block ?_) | (refine cw_exit ?_) | (refine cw_ret ?_)) | (refine is_qw ?_; first | (with_reducible refine qw_then ?_) | (with_reducible refine qw_in ?_) | (with_reducible refine qw_in_hit ?_) | (refine qw_in_miss rfl ?_) | (with_reducible refine qw_then_exit ?_) | (with_reducible refine qw_then_ret ?_) | (with_reducible refine qw_in_ret ?_)) | (refine lw_nil ?_) | ((refine is_bin ?_; first | (refine lw_pure rfl (pv_lss rfl rfl) ?_) | (refine lw_pure rfl (pv_eql rfl rfl) ?_) | (refine lw_pure rfl (pv_inc rfl rfl (by omega)) ?_) | (refine lw_pure rfl (pv_add rfl rfl (by omega)) ?_))) | ((refine is_load ?_; first | (refine lw_pure rfl (pv_load (t1 rfl) rfl (by first | fail)) ?_) | (refine lw_pure rfl (pv_loada (tA rfl) rfl (by first | fail) (by rfl)) ?_))) | ((refine is_fa ?_; first | (refine lw_pure rfl (pv_fa (tF rfl) rfl) ?_))) | ((refine is_ia ?_; first | (refine lw_pure rfl (pv_ian (tS rfl) rfl rfl (by omega)) ?_) | (refine lw_pure rfl (pv_ia (tS rfl) rfl rfl (by omega)) ?_))) | ((refine is_bi ?_; first | (refine lw_pure rfl (pv_lenl (tS rfl) rfl) ?_) | (refine lw_pure rfl (pv_lens (tStr rfl) rfl) ?_))) | ((refine is_bd ?_; first | (refine lw_pure rfl (tyB_69 rfl rfl rfl) ?_))))
  refine lw_allocN rfl (by first | exact tyv_27 | exact tyv_28 | exact tyv_36 | exact tyv_37 | exact tyv_68 | exact tyv_69 | exact tyv_72 | exact tyv_73 | exact tyv_79 | exact tyv_80 | exact tyv_117 | exact tyv_118 | exact tyv_130 | exact tyv_131) rfl ?_; intro N w1 hN H hb
  replace hE := hE.mono hb
  replace HP := HP.mono hb
  clear hb hw
  have hw := Below.refl w1.heap.size w1
  repeat' (first | (refine lw_pure rfl (pv_move rfl) ?_) | (refine lw_pure rfl (pv_assign rfl) ?_) | (refine is_cw ?_; first | (refine cw_seq ?_) | (refine cw_region ?_) | (refine cw_true rfl rfl ?_) | (refine cw_false rfl rfl ?_) | (refine cw_true rfl (by first | assumption | exact decide_eq_true (by omega) | exact dec_notT (by omega)) ?_) | (refine cw_false rfl (by first | assumption | exact decide_eq_false (by omega) | exact dec_notF (by omega)) ?_) | (refine cw_skip ?_) | (refine cw_block ?_) | (refine cw_exit ?_) | (refine cw_ret ?_)) | (refine is_qw ?_; first | (with_reducible refine qw_then ?_) | (with_reducible refine qw_in ?_) | (with_reducible refine qw_in_hit ?_) | (refine qw_in_miss rfl ?_) | (with_reducible refine qw_then_exit ?_) | (with_reducible refine qw_then_ret ?_) | (with_reducible refine qw_in_ret ?_)) | (refine lw_nil ?_) | ((refine is_bin ?_; first | (refine lw_pure rfl (pv_lss rfl rfl) ?_) | (refine lw_pure rfl (pv_eql rfl rfl) ?_) | (refine lw_pure rfl (pv_inc rfl rfl (by omega)) ?_) | (refine lw_pure rfl (pv_add rfl rfl (by omega)) ?_))) | ((refine is_load ?_; first | (refine lw_pure rfl (pv_load (t1 rfl) rfl (by first | fail)) ?_) | (refine lw_pure rfl (pv_loada (tA rfl) rfl (by first | fail) (by rfl)) ?_))) | ((refine is_fa ?_; first | (refine lw_pure rfl (pv_fa (tF rfl) rfl) ?_))) | ((refine is_ia ?_; first | (refine lw_pure rfl (pv_ian (tS rfl) rfl rfl (by omega)) ?_) | (refine lw_pure rfl (pv_ia (tS rfl) rfl rfl (by omega)) ?_))) | ((refine is_bi ?_; first | (refine lw_pure rfl (pv_lenl (tS rfl) rfl) ?_) | (refine lw_pure rfl (pv_lens (tStr rfl) rfl) ?_))) | ((refine is_bd ?_; first | (refine lw_pure rfl (tyB_69 rfl rfl rfl) ?_))))
  refine cw_loop (σ := Nat) (fun k => [(0, .slice a p.length ca), (1, .int .i64 id), (4, .pointer (some ⟨N, 0, none⟩)), (6, .int .i64 (k : Nat))]) (fun k wr => k ≤ p.length ∧ Below w1.heap.size w1 wr ∧ ∀ x ∈ p.take k, (x.id == id) = false) (fun k => p.length - k) 0 (by repeat' (first | exact trivial | refine ⟨rfl, ?_⟩)) ⟨Nat.zero_le _, hw, by simp⟩ ?_
  clear hw
  rintro k wr ⟨hk, hw, hn⟩
  by_cases hlt : k < p.length
  · have hxk : p[k]? = some p[k] := List.getElem?_eq_getElem hlt
    obtain ⟨ab, ao, rfl, -, -⟩ := HP.at (by intro h; rw [h] at hlt; simp at hlt)
    generalize p[k] = x at hxk
    by_cases hx : x.id = id
    · have hf : findP p id = some x := find_at hxk (by simp [hx]) hn
      rw [hf]
      repeat' (first | (refine lw_pure rfl (pv_move rfl) ?_) | (refine lw_pure rfl (pv_assign rfl) ?_) | (refine is_cw ?_; first | (refine cw_seq ?_) | (refine cw_region ?_) | (refine cw_true rfl rfl ?_) | (refine cw_false rfl rfl ?_) | (refine cw_true rfl (by first | assumption | exact decide_eq_true (by omega) | exact dec_notT (by omega)) ?_) | (refine cw_false rfl (by first | assumption | exact decide_eq_false (by omega) | exact dec_notF (by omega)) ?_) | (refine cw_skip ?_) | (refine cw_block ?_) | (refine cw_exit ?_) | (refine cw_ret ?_)) | (refine is_qw ?_; first | (with_reducible refine qw_then ?_) | (with_reducible refine qw_in ?_) | (with_reducible refine qw_in_hit ?_) | (refine qw_in_miss rfl ?_) | (with_reducible refine qw_then_exit ?_) | (with_reducible refine qw_then_ret ?_) | (with_reducible refine qw_in_ret ?_)) | (refine lw_nil ?_) | ((refine is_bin ?_; first | (refine lw_pure rfl (pv_lss rfl rfl) ?_) | (refine lw_pure rfl (pv_eql rfl rfl) ?_) | (refine lw_pure rfl (pv_inc rfl rfl (by omega)) ?_) | (refine lw_pure rfl (pv_add rfl rfl (by omega)) ?_))) | ((refine is_load ?_; first | (refine lw_pure rfl (pv_load (t1 rfl) rfl (by first | exact SlR.ld (HP.mono hw) hxk rfl | exact SlR.ld1 (HP.mono hw) hxk rfl)) ?_) | (refine lw_pure rfl (pv_loada (tA rfl) rfl (by first | exact SlR.lda (HP.mono hw) hxk) (by rfl)) ?_))) | ((refine is_fa ?_; first | (refine lw_pure rfl (pv_fa (tF rfl) rfl) ?_))) | ((refine is_ia ?_; first | (refine lw_pure rfl (pv_ian (tS rfl) rfl rfl (by omega)) ?_) | (refine lw_pure rfl (pv_ia (tS rfl) rfl rfl (by omega)) ?_))) | ((refine is_bi ?_; first | (refine lw_pure rfl (pv_lenl (tS rfl) rfl) ?_) | (refine lw_pure rfl (pv_lens (tStr rfl) rfl) ?_))) | ((refine is_bd ?_; first | (refine lw_pure rfl (tyB_69 rfl rfl rfl) ?_))) | (refine is_cw ?_; refine cw_split rfl (fun hc => ?_) (fun hc => ?_) <;> (first | replace hc := of_decide_eq_true hc | replace hc := of_decide_eq_false hc | replace hc := dec_nT hc | replace hc := dec_nF hc | skip) <;> (try (exfalso; omega))))
      refine lw_storea (vs := encP x) (H.mono hw) (tZ rfl) rfl rfl rfl rfl (encP_one _) ?_; intro w3 H2 hg hz
      replace hE := (hE.mono hw).grown hg (by intro q hq; injection hq with hq; omega)
      clear hw
      have hw := Below.refl w3.heap.size w3
      repeat' (first | (refine lw_pure rfl (pv_move rfl) ?_) | (refine lw_pure rfl (pv_assign rfl) ?_) | (refine is_cw ?_; first | (refine cw_seq ?_) | (refine cw_region ?_) | (refine cw_true rfl rfl ?_) | (refine cw_false rfl rfl ?_) | (refine cw_true rfl (by first | assumption | exact decide_eq_true (by omega) | exact dec_notT (by omega)) ?_) | (refine cw_false rfl (by first | assumption | exact decide_eq_false (by omega) | exact dec_notF (by omega)) ?_) | (refine cw_skip ?_) | (refine cw_block ?_) | (refine cw_exit ?_) | (refine cw_ret ?_)) | (refine is_qw ?_; first | (with_reducible refine qw_then ?_) | (with_reducible refine qw_in ?_) | (with_reducible refine qw_in_hit ?_) | (refine qw_in_miss rfl ?_) | (with_reducible refine qw_then_exit ?_) | (with_reducible refine qw_then_ret ?_) | (with_reducible refine qw_in_ret ?_)) | (refine lw_nil ?_) | ((refine is_bin ?_; first | (refine lw_pure rfl (pv_lss rfl rfl) ?_) | (refine lw_pure rfl (pv_eql rfl rfl) ?_) | (refine lw_pure rfl (pv_inc rfl rfl (by omega)) ?_) | (refine lw_pure rfl (pv_add rfl rfl (by omega)) ?_))) | ((refine is_load ?_; first | (refine lw_pure rfl (pv_load (t1 rfl) rfl (by first | fail)) ?_) | (refine lw_pure rfl (pv_loada (tA rfl) rfl (by first | fail) (by rfl)) ?_))) | ((refine is_fa ?_; first | (refine lw_pure rfl (pv_fa (tF rfl) rfl) ?_))) | ((refine is_ia ?_; first | (refine lw_pure rfl (pv_ian (tS rfl) rfl rfl (by omega)) ?_) | (refine lw_pure rfl (pv_ia (tS rfl) rfl rfl (by omega)) ?_))) | ((refine is_bi ?_; first | (refine lw_pure rfl (pv_lenl (tS rfl) rfl) ?_) | (refine lw_pure rfl (pv_lens (tStr rfl) rfl) ?_))) | ((refine is_bd ?_; first | (refine lw_pure rfl (tyB_69 rfl rfl rfl) ?_))))
      exact qw_retct rfl rfl rfl (agg_ld (tA rfl) rfl (fun i u hu => H2.ld0 hu)) ⟨rfl, hE.b⟩
    · repeat' (first | (refine lw_pure rfl (pv_move rfl) ?_) | (refine lw_pure rfl (pv_assign rfl) ?_) | (refine is_cw ?_; first | (refine cw_seq ?_) | (refine cw_region ?_) | (refine cw_true rfl rfl ?_) | (refine cw_false rfl rfl ?_) | (refine cw_true rfl (by first | assumption | exact decide_eq_true (by omega) | exact dec_notT (by omega)) ?_) | (refine cw_false rfl (by first | assumption | exact decide_eq_false (by omega) | exact dec_notF (by omega)) ?_) | (refine cw_skip ?_) | (refine cw_block ?_) | (refine cw_exit ?_) | (refine cw_ret ?_)) | (refine is_qw ?_; first | (with_reducible refine qw_then ?_) | (with_reducible refine qw_in ?_) | (with_reducible refine qw_in_hit ?_) | (refine qw_in_miss rfl ?_) | (with_reducible refine qw_then_exit ?_) | (with_reducible refine qw_then_ret ?_) | (with_reducible refine qw_in_ret ?_)) | (refine lw_nil ?_) | ((refine is_bin ?_; first | (refine lw_pure rfl (pv_lss rfl rfl) ?_) | (refine lw_pure rfl (pv_eql rfl rfl) ?_) | (refine lw_pure rfl (pv_inc rfl rfl (by omega)) ?_) | (refine lw_pure rfl (pv_add rfl rfl (by omega)) ?_))) | ((refine is_load ?_; first | (refine lw_pure rfl (pv_load (t1 rfl) rfl (by first | exact SlR.ld (HP.mono hw) hxk rfl | exact SlR.ld1 (HP.mono hw) hxk rfl)) ?_) | (refine lw_pure rfl (pv_loada (tA rfl) rfl (by first | exact SlR.lda (HP.mono hw) hxk) (by rfl)) ?_))) | ((refine is_fa ?_; first | (refine lw_pure rfl (pv_fa (tF rfl) rfl) ?_))) | ((refine is_ia ?_; first | (refine lw_pure rfl (pv_ian (tS rfl) rfl rfl (by omega)) ?_) | (refine lw_pure rfl (pv_ia (tS rfl) rfl rfl (by omega)) ?_))) | ((refine is_bi ?_; first | (refine lw_pure rfl (pv_lenl (tS rfl) rfl) ?_) | (refine lw_pure rfl (pv_lens (tStr rfl) rfl) ?_))) | ((refine is_bd ?_; first | (refine lw_pure rfl (tyB_69 rfl rfl rfl) ?_))) | (refine is_cw ?_; refine cw_split rfl (fun hc => ?_) (fun hc => ?_) <;> (first | replace hc := of_decide_eq_true hc | replace hc := of_decide_eq_false hc | replace hc := dec_nT hc | replace hc := dec_nF hc | skip) <;> (try (exfalso; omega))))
      refine qw_round (k + 1) (by repeat' (first | exact trivial | refine ⟨rfl, ?_⟩)) ⟨by omega, hw, ?_⟩ (by omega)
      intro y hy
      rw [List.take_add_one, hxk] at hy
      rcases List.mem_append.1 hy with hy | hy
      · exact hn y hy
      · simp at hy; subst hy; simp [hx]
  · have hkl : k = p.length := by omega
    subst hkl
    rw [List.take_length] at hn
    have hf : findP p id = none := find_none hn
    rw [hf]
    repeat' (first | (refine lw_pure rfl (pv_move rfl) ?_) | (refine lw_pure rfl (pv_assign rfl) ?_) | (refine is_cw ?_; first | (refine cw_seq ?_) | (refine cw_region ?_) | (refine cw_true rfl rfl ?_) | (refine cw_false rfl rfl ?_) | (refine cw_true rfl (by first | assumption | exact decide_eq_true (by omega) | exact dec_notT (by omega)) ?_) | (refine cw_false rfl (by first | assumption | exact decide_eq_false (by omega) | exact dec_notF (by omega)) ?_) | (refine cw_skip ?_) | (refine cw_block ?_) | (refine cw_exit ?_) | (refine cw_ret ?_)) | (refine is_qw ?_; first | (with_reducible refine qw_then ?_) | (with_reducible refine qw_in ?_) | (with_reducible refine qw_in_hit ?_) | (refine qw_in_miss rfl ?_) | (with_reducible refine qw_then_exit ?_) | (with_reducible refine qw_then_ret ?_) | (with_reducible refine qw_in_ret ?_)) | (refine lw_nil ?_) | ((refine is_bin ?_; first | (refine lw_pure rfl (pv_lss rfl rfl) ?_) | (refine lw_pure rfl (pv_eql rfl rfl) ?_) | (refine lw_pure rfl (pv_inc rfl rfl (by omega)) ?_) | (refine lw_pure rfl (pv_add rfl rfl (by omega)) ?_))) | ((refine is_load ?_; first | (refine lw_pure rfl (pv_load (t1 rfl) rfl (by first | fail)) ?_) | (refine lw_pure rfl (pv_loada (tA rfl) rfl (by first | fail) (by rfl)) ?_))) | ((refine is_fa ?_; first | (refine lw_pure rfl (pv_fa (tF rfl) rfl) ?_))) | ((refine is_ia ?_; first | (refine lw_pure rfl (pv_ian (tS rfl) rfl rfl (by omega)) ?_) | (refine lw_pure rfl (pv_ia (tS rfl) rfl rfl (by omega)) ?_))) | ((refine is_bi ?_; first | (refine lw_pure rfl (pv_lenl (tS rfl) rfl) ?_) | (refine lw_pure rfl (pv_lens (tStr rfl) rfl) ?_))) | ((refine is_bd ?_; first | (refine lw_pure rfl (tyB_69 rfl rfl rfl) ?_))))
    refine lw_storea (vs := encP oZ) (H.mono hw) (tZ rfl) rfl rfl rfl rfl (encP_one _) ?_; intro w3 H2 hg hz
    replace hE := (hE.mono hw).grown hg (by intro q hq; injection hq with hq; omega)
    clear hw
    have hw := Below.refl w3.heap.size w3
    repeat' (first | (refine lw_pure rfl (pv_move rfl) ?_) | (refine lw_pure rfl (pv_assign rfl) ?_) | (refine is_cw ?_; first | (refine cw_seq ?_) | (refine cw_region ?_) | (refine cw_true rfl rfl ?_) | (refine cw_false rfl rfl ?_) | (refine cw_true rfl (by first | assumption | exact decide_eq_true (by omega) | exact dec_notT (by omega)) ?_) | (refine cw_false rfl (by first | assumption | exact decide_eq_false (by omega) | exact dec_notF (by omega)) ?_) | (refine cw_skip ?_) | (refine cw_block ?_) | (refine cw_exit ?_) | (refine cw_ret ?_)) | (refine is_qw ?_; first | (with_reducible refine qw_then ?_) | (with_reducible refine qw_in ?_) | (with_reducible refine qw_in_hit ?_) | (refine qw_in_miss rfl ?_) | (with_reducible refine qw_then_exit ?_) | (with_reducible refine qw_then_ret ?_) | (with_reducible refine qw_in_ret ?_)) | (refine lw_nil ?_) | ((refine is_bin ?_; first | (refine lw_pure rfl (pv_lss rfl rfl) ?_) | (refine lw_pure rfl (pv_eql rfl rfl) ?_) | (refine lw_pure rfl (pv_inc rfl rfl (by omega)) ?_) | (refine lw_pure rfl (pv_add rfl rfl (by omega)) ?_))) | ((refine is_load ?_; first | (refine lw_pure rfl (pv_load (t1 rfl) rfl (by first | fail)) ?_) | (refine lw_pure rfl (pv_loada (tA rfl) rfl (by first | fail) (by rfl)) ?_))) | ((refine is_fa ?_; first | (refine lw_pure rfl (pv_fa (tF rfl) rfl) ?_))) | ((refine is_ia ?_; first | (refine lw_pure rfl (pv_ian (tS rfl) rfl rfl (by omega)) ?_) | (refine lw_pure rfl (pv_ia (tS rfl) rfl rfl (by omega)) ?_))) | ((refine is_bi ?_; first | (refine lw_pure rfl (pv_lenl (tS rfl) rfl) ?_) | (refine lw_pure rfl (pv_lens (tStr rfl) rfl) ?_))) | ((refine is_bd ?_; first | (refine lw_pure rfl (tyB_69 rfl rfl rfl) ?_))))
    exact qw_retct rfl rfl rfl (agg_ld (tA rfl) rfl (fun i u hu => H2.ld0 hu)) ⟨rfl, hE.b⟩

set_option maxRecDepth 20000 in
theorem rfind_L {p : List Lt} {m : Nat} {a : Option Addr} {ca : Nat} {w : World} (id : Int) (hm : p.length = m) (HP : SlR encL 4 w a ca p) : Calls Tryz.prog 35 #[.slice a m ca, .int .i64 id] w fun e w' => e = .returned (.tuple #[.agg (encL ((findT p id).getD lZ)).toArray, .bool (findT p id).isSome]) ∧ Below w.heap.size w w' := by
  subst hm
  have hE := Ext.refl w
  have hw := Below.refl w.heap.size w
  have hca := HP.le
  have hcm := HP.max
  refine fn_enter 25 Tryz.func35 rfl rfl rfl ?_
  repeat' (first | (refine lw_pure rfl (pv_move rfl) ?_) | (refine lw_pure rfl (pv_assign rfl) ?_) | (refine is_cw ?_; first | (refine cw_seq ?_) | (refine cw_region ?_) | (refine cw_true rfl rfl ?_) | (refine cw_false rfl rfl ?_) | (refine cw_true rfl (by first | assumption | exact decide_eq_true (by omega) | exact dec_notT (by omega)) ?_) | (refine cw_false rfl (by first | assumption | exact decide_eq_false (by omega) | exact dec_notF (by omega)) ?_) | (refine cw_skip ?_) | (refine cw_block ?_) | (refine cw_exit ?_) | (refine cw_ret ?_)) | (refine is_qw ?_; first | (with_reducible refine qw_then ?_) | (with_reducible refine qw_in ?_) | (with_reducible refine qw_in_hit ?_) | (refine qw_in_miss rfl ?_) | (with_reducible refine qw_then_exit ?_) | (with_reducible refine qw_then_ret ?_) | (with_reducible refine qw_in_ret ?_)) | (refine lw_nil ?_) | ((refine is_bin ?_; first | (refine lw_pure rfl (pv_lss rfl rfl) ?_) | (refine lw_pure rfl (pv_eql rfl rfl) ?_) | (refine lw_pure rfl (pv_inc rfl rfl (by omega)) ?_) | (refine lw_pure rfl (pv_add rfl rfl (by omega)) ?_))) | ((refine is_load ?_; first | (refine lw_pure rfl (pv_load (t1 rfl) rfl (by first | fail)) ?_) | (refine lw_pure rfl (pv_loada (tA rfl) rfl (by first | fail) (by rfl)) ?_))) | ((refine is_fa ?_; first | (refine lw_pure rfl (pv_fa (tF rfl) rfl) ?_))) | ((refine is_ia ?_; first | (refine lw_pure rfl (pv_ian (tS rfl) rfl rfl (by omega)) ?_) | (refine lw_pure rfl (pv_ia (tS rfl) rfl rfl (by omega)) ?_))) | ((refine is_bi ?_; first | (refine lw_pure rfl (pv_lenl (tS rfl) rfl) ?_) | (refine lw_pure rfl (pv_lens (tStr rfl) rfl) ?_))) | ((refine is_bd ?_; first | (refine lw_pure rfl (tyB_73 rfl rfl rfl) ?_))))
  refine lw_allocN rfl (by first | exact tyv_27 | exact tyv_28 | exact tyv_36 | exact tyv_37 | exact tyv_68 | exact tyv_69 | exact tyv_72 | exact tyv_73 | exact tyv_79 | exact tyv_80 | exact tyv_117 | exact tyv_118 | exact tyv_130 | exact tyv_131) rfl ?_; intro N w1 hN H hb
  replace hE := hE.mono hb
  replace HP := HP.mono hb
  clear hb hw
  have hw := Below.refl w1.heap.size w1
  repeat' (first | (refine lw_pure rfl (pv_move rfl) ?_) | (refine lw_pure rfl (pv_assign rfl) ?_) | (refine is_cw ?_; first | (refine cw_seq ?_) | (refine cw_region ?_) | (refine cw_true rfl rfl ?_) | (refine cw_false rfl rfl ?_) | (refine cw_true rfl (by first | assumption | exact decide_eq_true (by omega) | exact dec_notT (by omega)) ?_) | (refine cw_false rfl (by first | assumption | exact decide_eq_false (by omega) | exact dec_notF (by omega)) ?_) | (refine cw_skip ?_) | (refine cw_block ?_) | (refine cw_exit ?_) | (refine cw_ret ?_)) | (refine is_qw ?_; first | (with_reducible refine qw_then ?_) | (with_reducible refine qw_in ?_) | (with_reducible refine qw_in_hit ?_) | (refine qw_in_miss rfl ?_) | (with_reducible refine qw_then_exit ?_) | (with_reducible refine qw_then_ret ?_) | (with_reducible refine qw_in_ret ?_)) | (refine lw_nil ?_) | ((refine is_bin ?_; first | (refine lw_pure rfl (pv_lss rfl rfl) ?_) | (refine lw_pure rfl (pv_eql rfl rfl) ?_) | (refine lw_pure rfl (pv_inc rfl rfl (by omega)) ?_) | (refine lw_pure rfl (pv_add rfl rfl (by omega)) ?_))) | ((refine is_load ?_; first | (refine lw_pure rfl (pv_load (t1 rfl) rfl (by first | fail)) ?_) | (refine lw_pure rfl (pv_loada (tA rfl) rfl (by first | fail) (by rfl)) ?_))) | ((refine is_fa ?_; first | (refine lw_pure rfl (pv_fa (tF rfl) rfl) ?_))) | ((refine is_ia ?_; first | (refine lw_pure rfl (pv_ian (tS rfl) rfl rfl (by omega)) ?_) | (refine lw_pure rfl (pv_ia (tS rfl) rfl rfl (by omega)) ?_))) | ((refine is_bi ?_; first | (refine lw_pure rfl (pv_lenl (tS rfl) rfl) ?_) | (refine lw_pure rfl (pv_lens (tStr rfl) rfl) ?_))) | ((refine is_bd ?_; first | (refine lw_pure rfl (tyB_73 rfl rfl rfl) ?_))))
  refine cw_loop (σ := Nat) (fun k => [(0, .slice a p.length ca), (1, .int .i64 id), (4, .pointer (some ⟨N, 0, none⟩)), (6, .int .i64 (k : Nat))]) (fun k wr => k ≤ p.length ∧ Below w1.heap.size w1 wr ∧ ∀ x ∈ p.take k, (x.id == id) = false) (fun k => p.length - k) 0 (by repeat' (first | exact trivial | refine ⟨rfl, ?_⟩)) ⟨Nat.zero_le _, hw, by simp⟩ ?_
  clear hw
  rintro k wr ⟨hk, hw, hn⟩
  by_cases hlt : k < p.length
  · have hxk : p[k]? = some p[k] := List.getElem?_eq_getElem hlt
    obtain ⟨ab, ao, rfl, -, -⟩ := HP.at (by intro h; rw [h] at hlt; simp at hlt)
    generalize p[k] = x at hxk
    by_cases hx : x.id = id
    · have hf : findT p id = some x := find_at hxk (by simp [hx]) hn
      rw [hf]
      repeat' (first | (refine lw_pure rfl (pv_move rfl) ?_) | (refine lw_pure rfl (pv_assign rfl) ?_) | (refine is_cw ?_; first | (refine cw_seq ?_) | (refine cw_region ?_) | (refine cw_true rfl rfl ?_) | (refine cw_false rfl rfl ?_) | (refine cw_true rfl (by first | assumption | exact decide_eq_true (by omega) | exact dec_notT (by omega)) ?_) | (refine cw_false rfl (by first | assumption | exact decide_eq_false (by omega) | exact dec_notF (by omega)) ?_) | (refine cw_skip ?_) | (refine cw_block ?_) | (refine cw_exit ?_) | (refine cw_ret ?_)) | (refine is_qw ?_; first | (with_reducible refine qw_then ?_) | (with_reducible refine qw_in ?_) | (with_reducible refine qw_in_hit ?_) | (refine qw_in_miss rfl ?_) | (with_reducible refine qw_then_exit ?_) | (with_reducible refine qw_then_ret ?_) | (with_reducible refine qw_in_ret ?_)) | (refine lw_nil ?_) | ((refine is_bin ?_; first | (refine lw_pure rfl (pv_lss rfl rfl) ?_) | (refine lw_pure rfl (pv_eql rfl rfl) ?_) | (refine lw_pure rfl (pv_inc rfl rfl (by omega)) ?_) | (refine lw_pure rfl (pv_add rfl rfl (by omega)) ?_))) | ((refine is_load ?_; first | (refine lw_pure rfl (pv_load (t1 rfl) rfl (by first | exact SlR.ld (HP.mono hw) hxk rfl | exact SlR.ld1 (HP.mono hw) hxk rfl)) ?_) | (refine lw_pure rfl (pv_loada (tA rfl) rfl (by first | exact SlR.lda (HP.mono hw) hxk) (by rfl)) ?_))) | ((refine is_fa ?_; first | (refine lw_pure rfl (pv_fa (tF rfl) rfl) ?_))) | ((refine is_ia ?_; first | (refine lw_pure rfl (pv_ian (tS rfl) rfl rfl (by omega)) ?_) | (refine lw_pure rfl (pv_ia (tS rfl) rfl rfl (by omega)) ?_))) | ((refine is_bi ?_; first | (refine lw_pure rfl (pv_lenl (tS rfl) rfl) ?_) | (refine lw_pure rfl (pv_lens (tStr rfl) rfl) ?_))) | ((refine is_bd ?_; first | (refine lw_pure rfl (tyB_73 rfl rfl rfl) ?_))) | (refine is_cw ?_; refine cw_split rfl (fun hc => ?_) (fun hc => ?_) <;> (first | replace hc := of_decide_eq_true hc | replace hc := of_decide_eq_false hc | replace hc := dec_nT hc | replace hc := dec_nF hc | skip) <;> (try (exfalso; omega))))
      refine lw_storea (vs := encL x) (H.mono hw) (tZ rfl) rfl rfl rfl rfl (encL_one _) ?_; intro w3 H2 hg hz
      replace hE := (hE.mono hw).grown hg (by intro q hq; injection hq with hq; omega)
      clear hw
      have hw := Below.refl w3.heap.size w3
      repeat' (first | (refine lw_pure rfl (pv_move rfl) ?_) | (refine lw_pure rfl (pv_assign rfl) ?_) | (refine is_cw ?_; first | (refine cw_seq ?_) | (refine cw_region ?_) | (refine cw_true rfl rfl ?_) | (refine cw_false rfl rfl ?_) | (refine cw_true rfl (by first | assumption | exact decide_eq_true (by omega) | exact dec_notT (by omega)) ?_) | (refine cw_false rfl (by first | assumption | exact decide_eq_false (by omega) | exact dec_notF (by omega)) ?_) | (refine cw_skip ?_) | (refine cw_block ?_) | (refine cw_exit ?_) | (refine cw_ret ?_)) | (refine is_qw ?_; first | (with_reducible refine qw_then ?_) | (with_reducible refine qw_in ?_) | (with_reducible refine qw_in_hit ?_) | (refine qw_in_miss rfl ?_) | (with_reducible refine qw_then_exit ?_) | (with_reducible refine qw_then_ret ?_) | (with_reducible refine qw_in_ret ?_)) | (refine lw_nil ?_) | ((refine is_bin ?_; first | (refine lw_pure rfl (pv_lss rfl rfl) ?_) | (refine lw_pure rfl (pv_eql rfl rfl) ?_) | (refine lw_pure rfl (pv_inc rfl rfl (by omega)) ?_) | (refine lw_pure rfl (pv_add rfl rfl (by omega)) ?_))) | ((refine is_load ?_; first | (refine lw_pure rfl (pv_load (t1 rfl) rfl (by first | fail)) ?_) | (refine lw_pure rfl (pv_loada (tA rfl) rfl (by first | fail) (by rfl)) ?_))) | ((refine is_fa ?_; first | (refine lw_pure rfl (pv_fa (tF rfl) rfl) ?_))) | ((refine is_ia ?_; first | (refine lw_pure rfl (pv_ian (tS rfl) rfl rfl (by omega)) ?_) | (refine lw_pure rfl (pv_ia (tS rfl) rfl rfl (by omega)) ?_))) | ((refine is_bi ?_; first | (refine lw_pure rfl (pv_lenl (tS rfl) rfl) ?_) | (refine lw_pure rfl (pv_lens (tStr rfl) rfl) ?_))) | ((refine is_bd ?_; first | (refine lw_pure rfl (tyB_73 rfl rfl rfl) ?_))))
      exact qw_retct rfl rfl rfl (agg_ld (tA rfl) rfl (fun i u hu => H2.ld0 hu)) ⟨rfl, hE.b⟩
    · repeat' (first | (refine lw_pure rfl (pv_move rfl) ?_) | (refine lw_pure rfl (pv_assign rfl) ?_) | (refine is_cw ?_; first | (refine cw_seq ?_) | (refine cw_region ?_) | (refine cw_true rfl rfl ?_) | (refine cw_false rfl rfl ?_) | (refine cw_true rfl (by first | assumption | exact decide_eq_true (by omega) | exact dec_notT (by omega)) ?_) | (refine cw_false rfl (by first | assumption | exact decide_eq_false (by omega) | exact dec_notF (by omega)) ?_) | (refine cw_skip ?_) | (refine cw_block ?_) | (refine cw_exit ?_) | (refine cw_ret ?_)) | (refine is_qw ?_; first | (with_reducible refine qw_then ?_) | (with_reducible refine qw_in ?_) | (with_reducible refine qw_in_hit ?_) | (refine qw_in_miss rfl ?_) | (with_reducible refine qw_then_exit ?_) | (with_reducible refine qw_then_ret ?_) | (with_reducible refine qw_in_ret ?_)) | (refine lw_nil ?_) | ((refine is_bin ?_; first | (refine lw_pure rfl (pv_lss rfl rfl) ?_) | (refine lw_pure rfl (pv_eql rfl rfl) ?_) | (refine lw_pure rfl (pv_inc rfl rfl (by omega)) ?_) | (refine lw_pure rfl (pv_add rfl rfl (by omega)) ?_))) | ((refine is_load ?_; first | (refine lw_pure rfl (pv_load (t1 rfl) rfl (by first | exact SlR.ld (HP.mono hw) hxk rfl | exact SlR.ld1 (HP.mono hw) hxk rfl)) ?_) | (refine lw_pure rfl (pv_loada (tA rfl) rfl (by first | exact SlR.lda (HP.mono hw) hxk) (by rfl)) ?_))) | ((refine is_fa ?_; first | (refine lw_pure rfl (pv_fa (tF rfl) rfl) ?_))) | ((refine is_ia ?_; first | (refine lw_pure rfl (pv_ian (tS rfl) rfl rfl (by omega)) ?_) | (refine lw_pure rfl (pv_ia (tS rfl) rfl rfl (by omega)) ?_))) | ((refine is_bi ?_; first | (refine lw_pure rfl (pv_lenl (tS rfl) rfl) ?_) | (refine lw_pure rfl (pv_lens (tStr rfl) rfl) ?_))) | ((refine is_bd ?_; first | (refine lw_pure rfl (tyB_73 rfl rfl rfl) ?_))) | (refine is_cw ?_; refine cw_split rfl (fun hc => ?_) (fun hc => ?_) <;> (first | replace hc := of_decide_eq_true hc | replace hc := of_decide_eq_false hc | replace hc := dec_nT hc | replace hc := dec_nF hc | skip) <;> (try (exfalso; omega))))
      refine qw_round (k + 1) (by repeat' (first | exact trivial | refine ⟨rfl, ?_⟩)) ⟨by omega, hw, ?_⟩ (by omega)
      intro y hy
      rw [List.take_add_one, hxk] at hy
      rcases List.mem_append.1 hy with hy | hy
      · exact hn y hy
      · simp at hy; subst hy; simp [hx]
  · have hkl : k = p.length := by omega
    subst hkl
    rw [List.take_length] at hn
    have hf : findT p id = none := find_none hn
    rw [hf]
    repeat' (first | (refine lw_pure rfl (pv_move rfl) ?_) | (refine lw_pure rfl (pv_assign rfl) ?_) | (refine is_cw ?_; first | (refine cw_seq ?_) | (refine cw_region ?_) | (refine cw_true rfl rfl ?_) | (refine cw_false rfl rfl ?_) | (refine cw_true rfl (by first | assumption | exact decide_eq_true (by omega) | exact dec_notT (by omega)) ?_) | (refine cw_false rfl (by first | assumption | exact decide_eq_false (by omega) | exact dec_notF (by omega)) ?_) | (refine cw_skip ?_) | (refine cw_block ?_) | (refine cw_exit ?_) | (refine cw_ret ?_)) | (refine is_qw ?_; first | (with_reducible refine qw_then ?_) | (with_reducible refine qw_in ?_) | (with_reducible refine qw_in_hit ?_) | (refine qw_in_miss rfl ?_) | (with_reducible refine qw_then_exit ?_) | (with_reducible refine qw_then_ret ?_) | (with_reducible refine qw_in_ret ?_)) | (refine lw_nil ?_) | ((refine is_bin ?_; first | (refine lw_pure rfl (pv_lss rfl rfl) ?_) | (refine lw_pure rfl (pv_eql rfl rfl) ?_) | (refine lw_pure rfl (pv_inc rfl rfl (by omega)) ?_) | (refine lw_pure rfl (pv_add rfl rfl (by omega)) ?_))) | ((refine is_load ?_; first | (refine lw_pure rfl (pv_load (t1 rfl) rfl (by first | fail)) ?_) | (refine lw_pure rfl (pv_loada (tA rfl) rfl (by first | fail) (by rfl)) ?_))) | ((refine is_fa ?_; first | (refine lw_pure rfl (pv_fa (tF rfl) rfl) ?_))) | ((refine is_ia ?_; first | (refine lw_pure rfl (pv_ian (tS rfl) rfl rfl (by omega)) ?_) | (refine lw_pure rfl (pv_ia (tS rfl) rfl rfl (by omega)) ?_))) | ((refine is_bi ?_; first | (refine lw_pure rfl (pv_lenl (tS rfl) rfl) ?_) | (refine lw_pure rfl (pv_lens (tStr rfl) rfl) ?_))) | ((refine is_bd ?_; first | (refine lw_pure rfl (tyB_73 rfl rfl rfl) ?_))))
    refine lw_storea (vs := encL lZ) (H.mono hw) (tZ rfl) rfl rfl rfl rfl (encL_one _) ?_; intro w3 H2 hg hz
    replace hE := (hE.mono hw).grown hg (by intro q hq; injection hq with hq; omega)
    clear hw
    have hw := Below.refl w3.heap.size w3
    repeat' (first | (refine lw_pure rfl (pv_move rfl) ?_) | (refine lw_pure rfl (pv_assign rfl) ?_) | (refine is_cw ?_; first | (refine cw_seq ?_) | (refine cw_region ?_) | (refine cw_true rfl rfl ?_) | (refine cw_false rfl rfl ?_) | (refine cw_true rfl (by first | assumption | exact decide_eq_true (by omega) | exact dec_notT (by omega)) ?_) | (refine cw_false rfl (by first | assumption | exact decide_eq_false (by omega) | exact dec_notF (by omega)) ?_) | (refine cw_skip ?_) | (refine cw_block ?_) | (refine cw_exit ?_) | (refine cw_ret ?_)) | (refine is_qw ?_; first | (with_reducible refine qw_then ?_) | (with_reducible refine qw_in ?_) | (with_reducible refine qw_in_hit ?_) | (refine qw_in_miss rfl ?_) | (with_reducible refine qw_then_exit ?_) | (with_reducible refine qw_then_ret ?_) | (with_reducible refine qw_in_ret ?_)) | (refine lw_nil ?_) | ((refine is_bin ?_; first | (refine lw_pure rfl (pv_lss rfl rfl) ?_) | (refine lw_pure rfl (pv_eql rfl rfl) ?_) | (refine lw_pure rfl (pv_inc rfl rfl (by omega)) ?_) | (refine lw_pure rfl (pv_add rfl rfl (by omega)) ?_))) | ((refine is_load ?_; first | (refine lw_pure rfl (pv_load (t1 rfl) rfl (by first | fail)) ?_) | (refine lw_pure rfl (pv_loada (tA rfl) rfl (by first | fail) (by rfl)) ?_))) | ((refine is_fa ?_; first | (refine lw_pure rfl (pv_fa (tF rfl) rfl) ?_))) | ((refine is_ia ?_; first | (refine lw_pure rfl (pv_ian (tS rfl) rfl rfl (by omega)) ?_) | (refine lw_pure rfl (pv_ia (tS rfl) rfl rfl (by omega)) ?_))) | ((refine is_bi ?_; first | (refine lw_pure rfl (pv_lenl (tS rfl) rfl) ?_) | (refine lw_pure rfl (pv_lens (tStr rfl) rfl) ?_))) | ((refine is_bd ?_; first | (refine lw_pure rfl (tyB_73 rfl rfl rfl) ?_))))
    exact qw_retct rfl rfl rfl (agg_ld (tA rfl) rfl (fun i u hu => H2.ld0 hu)) ⟨rfl, hE.b⟩



set_option maxRecDepth 20000 in
theorem rbtw_c (n m : Int) (w : World) : Calls Tryz.prog 61 #[.int .i64 n, .int .i64 m] w fun e w' => e = .returned (.bool (btw n m)) ∧ Below w.heap.size w w' := by
  have hw := Below.refl w.heap.size w
  refine fn_enter 12 Tryz.func61 rfl rfl rfl ?_
  repeat' (first | (refine lw_pure rfl (pv_move rfl) ?_) | (refine lw_pure rfl (pv_assign rfl) ?_) | (refine is_cw ?_; first | (refine cw_seq ?_) | (refine cw_region ?_) | (refine cw_ret ?_)) | (refine is_qw ?_; first | (with_reducible refine qw_then ?_) | (with_reducible refine qw_then_ret ?_)) | (refine lw_nil ?_) | (refine is_guarded ?_; first | (refine lw_not rfl rfl rfl rfl ?_) | (refine lw_not_u rfl rfl rfl ?_) | (refine lw_on rfl rfl rfl ?_) | (refine lw_on rfl rfl (by first | assumption | exact decide_eq_true (by omega) | exact decide_eq_false (by omega) | exact dec_notT (by omega) | exact dec_notF (by omega)) ?_) | (refine lw_not rfl rfl rfl (by first | assumption | exact decide_eq_true (by omega) | exact decide_eq_false (by omega) | exact dec_notT (by omega) | exact dec_notF (by omega)) ?_) | (refine lw_gs_t rfl rfl rfl (fun hc => ?_) (fun hc => ?_) <;> (first | replace hc := of_decide_eq_true hc | replace hc := of_decide_eq_false hc | replace hc := dec_nT hc | replace hc := dec_nF hc | skip) <;> (try (exfalso; omega))) | (refine lw_gs_f rfl rfl rfl (fun hc => ?_) (fun hc => ?_) <;> (first | replace hc := of_decide_eq_true hc | replace hc := of_decide_eq_false hc | replace hc := dec_nT hc | replace hc := dec_nF hc | skip) <;> (try (exfalso; omega)))) | ((refine is_bin ?_; first | (refine lw_pure rfl (pv_leq rfl rfl) ?_) | (refine lw_pure rfl (pv_geq rfl rfl) ?_))) | (refine lw_pure rfl (pv_pick_t rfl rfl rfl) ?_) | (refine lw_pure rfl (pv_pick_f rfl rfl rfl) ?_) | (refine lw_pure rfl (pv_pick_t rfl (by first | assumption | exact decide_eq_true (by omega) | exact dec_notT (by omega)) rfl) ?_) | (refine lw_pure rfl (pv_pick_f rfl (by first | assumption | exact decide_eq_false (by omega) | exact dec_notF (by omega)) rfl) ?_) | (refine lw_pure rfl (pv_pick rfl rfl rfl) ?_) | (refine is_cw ?_; refine cw_split rfl (fun hc => ?_) (fun hc => ?_) <;> (first | replace hc := of_decide_eq_true hc | replace hc := of_decide_eq_false hc | replace hc := dec_nT hc | replace hc := dec_nF hc | skip) <;> (try (exfalso; omega))))
  all_goals (refine qw_ret1 rfl rfl ⟨ret_bool ?_, hw⟩; unfold btw; first | (rw [decide_eq_decide]; omega) | (symm; rw [decide_eq_true_eq]; omega) | (symm; rw [decide_eq_false_iff_not]; omega))

theorem insP_end {o : Opn} : ∀ {l : List Opn}, (∀ x ∈ l, ¬ keyO o x) → insP l o = l ++ [o]
  | [], _ => rfl
  | x :: r, h => by unfold insP; rw [if_neg (h x (by simp)), insP_end (fun y hy => h y (List.mem_cons_of_mem _ hy))]; rfl
theorem insP_here {o y : Opn} (hk : keyO o y) : ∀ {l : List Opn}, (∀ x ∈ l, ¬ keyO o x) → insP (l ++ [y]) o = l ++ [o] ++ [y]
  | [], _ => by simp [insP, hk]
  | x :: r, h => by
    rw [List.cons_append]; unfold insP
    rw [if_neg (h x (by simp)), insP_here hk (fun y hy => h y (List.mem_cons_of_mem _ hy))]; rfl
theorem insP_past {o y : Opn} : ∀ {l : List Opn}, (∃ x ∈ l, keyO o x) → insP (l ++ [y]) o = insP l o ++ [y]
  | [], h => by obtain ⟨x, hx, _⟩ := h; cases hx
  | x :: r, h => by
    rw [List.cons_append]; unfold insP
    by_cases hk : keyO o x
    · rw [if_pos hk, if_pos hk]; rfl
    · rw [if_neg hk, if_neg hk]
      obtain ⟨z, hz, hkz⟩ := h
      rcases List.mem_cons.1 hz with rfl | hz
      · exact absurd hkz hk
      · rw [insP_past ⟨z, hz, hkz⟩]; rfl
theorem insT_end {o : Lt} : ∀ {l : List Lt}, (∀ x ∈ l, ¬ keyT o x) → insT l o = l ++ [o]
  | [], _ => rfl
  | x :: r, h => by unfold insT; rw [if_neg (h x (by simp)), insT_end (fun y hy => h y (List.mem_cons_of_mem _ hy))]; rfl
theorem insT_here {o y : Lt} (hk : keyT o y) : ∀ {l : List Lt}, (∀ x ∈ l, ¬ keyT o x) → insT (l ++ [y]) o = l ++ [o] ++ [y]
  | [], _ => by simp [insT, hk]
  | x :: r, h => by
    rw [List.cons_append]; unfold insT
    rw [if_neg (h x (by simp)), insT_here hk (fun y hy => h y (List.mem_cons_of_mem _ hy))]; rfl
theorem insT_past {o y : Lt} : ∀ {l : List Lt}, (∃ x ∈ l, keyT o x) → insT (l ++ [y]) o = insT l o ++ [y]
  | [], h => by obtain ⟨x, hx, _⟩ := h; cases hx
  | x :: r, h => by
    rw [List.cons_append]; unfold insT
    by_cases hk : keyT o x
    · rw [if_pos hk, if_pos hk]; rfl
    · rw [if_neg hk, if_neg hk]
      obtain ⟨z, hz, hkz⟩ := h
      rcases List.mem_cons.1 hz with rfl | hz
      · exact absurd hkz hk
      · rw [insT_past ⟨z, hz, hkz⟩]; rfl
theorem take_snoc {α : Type} {l : List α} {k : Nat} {x : α} (h : l[k]? = some x) : l.take (k + 1) = l.take k ++ [x] := by rw [List.take_add_one, h]; rfl
def putI (p : List Opn) (o : Opn) (k : Nat) (done : Bool) (L : List Opn) : Prop := (done = false ∧ L = p.take k ∧ ∀ x ∈ p.take k, ¬ keyO o x) ∨ (done = true ∧ L = insP (p.take k) o ∧ ∃ x ∈ p.take k, keyO o x)
theorem putI.len {p : List Opn} {o : Opn} {k : Nat} {d : Bool} {L : List Opn} (h : putI p o k d L) : L.length ≤ k + 1 := by
  have ht : (p.take k).length ≤ k := by rw [List.length_take]; omega
  rcases h with ⟨_, rfl, _⟩ | ⟨_, rfl, _⟩
  · omega
  · have := (insP_perm o (p.take k)).length_eq
    rw [this, List.length_append]; simp; omega
theorem putI.end_f {p : List Opn} {o : Opn} {L : List Opn} (h : putI p o p.length false L) : L ++ [o] = insP p o := by
  rcases h with ⟨_, rfl, h⟩ | ⟨h, _⟩
  · rw [List.take_length] at h ⊢; exact (insP_end h).symm
  · cases h
theorem putI.end_t {p : List Opn} {o : Opn} {L : List Opn} (h : putI p o p.length true L) : L = insP p o := by
  rcases h with ⟨h, _⟩ | ⟨_, rfl, _⟩
  · cases h
  · rw [List.take_length]
theorem putI.past {p : List Opn} {o x : Opn} {k : Nat} {L : List Opn} (h : putI p o k true L) (hx : p[k]? = some x) : putI p o (k + 1) true (L ++ [x]) := by
  rcases h with ⟨h, _⟩ | ⟨_, rfl, z, hz, hk⟩
  · cases h
  · exact Or.inr ⟨rfl, by rw [take_snoc hx, insP_past ⟨z, hz, hk⟩], z, by rw [take_snoc hx]; exact List.mem_append_left _ hz, hk⟩
theorem putI.here {p : List Opn} {o x : Opn} {k : Nat} {L : List Opn} (h : putI p o k false L) (hx : p[k]? = some x) (hk : keyO o x) : putI p o (k + 1) true (L ++ [o] ++ [x]) := by
  rcases h with ⟨_, rfl, h⟩ | ⟨h, _⟩
  · exact Or.inr ⟨rfl, by rw [take_snoc hx, insP_here hk h], x, by rw [take_snoc hx]; simp, hk⟩
  · cases h
theorem putI.yet {p : List Opn} {o x : Opn} {k : Nat} {L : List Opn} (h : putI p o k false L) (hx : p[k]? = some x) (hk : ¬ keyO o x) : putI p o (k + 1) false (L ++ [x]) := by
  rcases h with ⟨_, rfl, h⟩ | ⟨h, _⟩
  · refine Or.inl ⟨rfl, (take_snoc hx).symm, fun y hy => ?_⟩
    rw [take_snoc hx] at hy
    rcases List.mem_append.1 hy with hy | hy
    · exact h y hy
    · simp at hy; subst hy; exact hk
  · cases h
def putJ (p : List Lt) (o : Lt) (k : Nat) (done : Bool) (L : List Lt) : Prop := (done = false ∧ L = p.take k ∧ ∀ x ∈ p.take k, ¬ keyT o x) ∨ (done = true ∧ L = insT (p.take k) o ∧ ∃ x ∈ p.take k, keyT o x)
theorem putJ.len {p : List Lt} {o : Lt} {k : Nat} {d : Bool} {L : List Lt} (h : putJ p o k d L) : L.length ≤ k + 1 := by
  have ht : (p.take k).length ≤ k := by rw [List.length_take]; omega
  rcases h with ⟨_, rfl, _⟩ | ⟨_, rfl, _⟩
  · omega
  · have := (insT_perm o (p.take k)).length_eq
    rw [this, List.length_append]; simp; omega
theorem putJ.end_f {p : List Lt} {o : Lt} {L : List Lt} (h : putJ p o p.length false L) : L ++ [o] = insT p o := by
  rcases h with ⟨_, rfl, h⟩ | ⟨h, _⟩
  · rw [List.take_length] at h ⊢; exact (insT_end h).symm
  · cases h
theorem putJ.end_t {p : List Lt} {o : Lt} {L : List Lt} (h : putJ p o p.length true L) : L = insT p o := by
  rcases h with ⟨h, _⟩ | ⟨_, rfl, _⟩
  · cases h
  · rw [List.take_length]
theorem putJ.past {p : List Lt} {o x : Lt} {k : Nat} {L : List Lt} (h : putJ p o k true L) (hx : p[k]? = some x) : putJ p o (k + 1) true (L ++ [x]) := by
  rcases h with ⟨h, _⟩ | ⟨_, rfl, z, hz, hk⟩
  · cases h
  · exact Or.inr ⟨rfl, by rw [take_snoc hx, insT_past ⟨z, hz, hk⟩], z, by rw [take_snoc hx]; exact List.mem_append_left _ hz, hk⟩
theorem putJ.here {p : List Lt} {o x : Lt} {k : Nat} {L : List Lt} (h : putJ p o k false L) (hx : p[k]? = some x) (hk : keyT o x) : putJ p o (k + 1) true (L ++ [o] ++ [x]) := by
  rcases h with ⟨_, rfl, h⟩ | ⟨h, _⟩
  · exact Or.inr ⟨rfl, by rw [take_snoc hx, insT_here hk h], x, by rw [take_snoc hx]; simp, hk⟩
  · cases h
theorem putJ.yet {p : List Lt} {o x : Lt} {k : Nat} {L : List Lt} (h : putJ p o k false L) (hx : p[k]? = some x) (hk : ¬ keyT o x) : putJ p o (k + 1) false (L ++ [x]) := by
  rcases h with ⟨_, rfl, h⟩ | ⟨h, _⟩
  · refine Or.inl ⟨rfl, (take_snoc hx).symm, fun y hy => ?_⟩
    rw [take_snoc hx] at hy
    rcases List.mem_append.1 hy with hy | hy
    · exact h y hy
    · simp at hy; subst hy; exact hk
  · cases h
theorem less_take {p : List Opn} {k : Nat} {x : Opn} (id q : Int) (h : p[k]? = some x) : lessP (p.take (k + 1)) id q = lessP (p.take k) id q ++ if 0 < (cutP id q x).left then [cutP id q x] else [] := by
  unfold lessP
  rw [take_snoc h, List.map_append, List.filter_append]
  congr 1
  by_cases hl : 0 < (cutP id q x).left <;> simp [hl]
theorem less_len (p : List Opn) (id q : Int) : (lessP p id q).length ≤ p.length := by
  unfold lessP
  exact Nat.le_trans (List.length_filter_le _ _) (by simp)

def capN (n : Nat) : Int := if (n : Int) < 400 then (n : Int) else 400
theorem capN_le (n : Nat) : 0 ≤ capN n ∧ capN n ≤ 400 := by unfold capN; split <;> omega
theorem capN_lt {n : Nat} (h : capN n < 400) : n < 400 := by unfold capN at h; split at h <;> omega

def stepF (s : List Opn × List Lt × Int) (e : Evt) : List Opn × List Lt × Int := if (eventR s.1 s.2.1 e).2.2 = 0 then eventR s.1 s.2.1 e else (s.1, s.2.1, (eventR s.1 s.2.1 e).2.2)
def runF (es : List Evt) : List Opn × List Lt × Int := es.foldl stepF ([], [], 0)
theorem runF_take {es : List Evt} {k : Nat} {e : Evt} (h : es[k]? = some e) : runF (es.take (k + 1)) = stepF (runF (es.take k)) e := by
  unfold runF; rw [take_snoc h, List.foldl_append]; rfl
def EvsR (w : World) (xs : List EvC) (es : List Evt) : Prop := xs.length = es.length ∧ ∀ (j : Nat) x e, xs[j]? = some x → es[j]? = some e → EvR w x e
theorem EvsR.mono {w w' : World} {xs : List EvC} {es : List Evt} (h : EvsR w xs es) (hb : Below w.heap.size w w') : EvsR w' xs es := ⟨h.1, fun j x e h1 h2 => (h.2 j x e h1 h2).mono hb⟩
end Go.Proofs.YtnffmbfdfhokeaaGreatDoor
namespace Go.Proofs.YtnffmbfdfhokeaaGreatDoor
open Go.ChangeShapes Go.WideShapes Go.ChangeAt Go.RowKit Go.Deep Go.WideElems Go.Joins
section
variable {H : Type} {enc : TypeId × Value → H} {P : Program} {w : World} {base : Nat} {held : Bool}
theorem cell_in {a : Addr} {v : Value} (h : w.cell? a = some v) : a.spot = none ∧ a.block < w.heap.size := by
  unfold World.cell? at h
  cases hb : w.heap[a.block]? with
  | none => rw [hb] at h; cases h
  | some o =>
    refine ⟨?_, (Array.getElem?_eq_some_iff.1 hb).1⟩
    rw [hb] at h
    cases o <;> first | (cases h; done) | (cases hs : a.spot with | none => rfl | some s => rw [hs] at h; simp at h)
theorem open_slT {α : Type} (encE : α → List Value) (k : Nat) (Pr : α → DataW H → Prop) {t e : TypeId} {fuel : Nat} {c : Value} {x : DataW H × List MemPlace} (hk : ∀ x, (encE x).length = k) (hk0 : 0 < k) (ht : P.underlying t = some (.slice e)) (hC : P.cellsOf e = k)
    (hdec : ∀ n cs y, DataW.trod enc P w base (fun _ => true) held n e cs = some y → ∃ x : α, cs = encE x ∧ Pr x y.1)
    (h : DataW.trod enc P w base (fun _ => true) held fuel t [c] = some x) : ∃ a cap, ∃ xs : List α, c = .slice a xs.length cap ∧ SlR encE k w a cap xs ∧ ∀ z ∈ xs, ∃ ds rest, x.1 = .slice ds rest ∧ ∃ y ∈ ds, Pr z y := by
  rcases open_slice ht h with ⟨h0, _⟩ | ⟨a, len, cap, m, n, D, Pl, hcs, hb, hl, hm, hmm, hx, hi⟩
  · simp only [List.cons.injEq, and_true] at h0
    exact ⟨none, 0, [], h0, SlR.nil w, by simp⟩
  · simp only [List.cons.injEq, and_true] at hcs
    subst hcs
    simp only [if_true] at hmm
    subst hmm
    have hE : ∀ i, i < len → ∃ x : α, w.cells? base (a.add (i * P.cellsOf e)) (P.cellsOf e) = some (encE x) ∧ Pr x (D i) := fun i h => by
      obtain ⟨cs', h1, h2⟩ := hi i (by omega)
      obtain ⟨x, rfl, hp⟩ := hdec _ _ _ h2
      exact ⟨x, h1, hp⟩
    have hL : ∀ m, m ≤ len → ∃ xs : List α, xs.length = m ∧ (∀ j x, xs[j]? = some x → w.cells? base (a.add (j * P.cellsOf e)) (P.cellsOf e) = some (encE x)) ∧ ∀ x ∈ xs, ∃ i, i < len ∧ Pr x (D i) := by
      intro m hm
      induction m with
      | zero => exact ⟨[], rfl, fun j x hx => by simp at hx, by simp⟩
      | succ m ih =>
        obtain ⟨xs, h1, h2, h3⟩ := ih (by omega)
        obtain ⟨x, hx, hp⟩ := hE m (by omega)
        refine ⟨xs ++ [x], by simp [h1], fun j y hy => ?_, fun y hy => ?_⟩
        · by_cases hj : j < xs.length
          · rw [List.getElem?_append_left hj] at hy; exact h2 j y hy
          · rw [List.getElem?_append_right (by omega)] at hy
            have : j - xs.length = 0 := by
              have := (List.getElem?_eq_some_iff.1 hy).1; simp at this; omega
            rw [this] at hy; simp at hy; subst hy
            have : j = m := by omega
            subst this; exact hx
        · rcases List.mem_append.1 hy with hy | hy
          · exact h3 y hy
          · simp at hy; subst hy; exact ⟨m, by omega, hp⟩
    obtain ⟨xs, hlen, hxs, hpr⟩ := hL len (Nat.le_refl _)
    refine ⟨some a, _, xs, by rw [hlen], ⟨by omega, by simpa [maxLen] using hm, (fun h => by cases h), fun ad had hc => ?_⟩, fun x hx2 => ?_⟩
    · cases had
      obtain ⟨cs0, h1, _⟩ := hi 0 hc
      obtain ⟨_, h2, h3⟩ := World.cells?_some h1
      have h4 := h3 0 (by rw [hC]; exact hk0)
      rw [List.getElem?_eq_getElem (by rw [h2, hC]; exact hk0)] at h4
      obtain ⟨hsp, hlt⟩ := cell_in h4
      obtain ⟨b, off, sp⟩ := a
      have e0 : ((⟨b, off, sp⟩ : Addr).add (0 * P.cellsOf e)).add 0 = ⟨b, off, sp⟩ := by simp [Addr.add]
      rw [e0] at hsp hlt
      have hsp0 : sp = none := hsp
      subst hsp0
      refine ⟨rfl, hlt, fun j x hx i v hv => ?_⟩
      obtain ⟨_, h1, h2⟩ := World.cells?_some (hxs j x hx)
      have hik : i < k := by have := (List.getElem?_eq_some_iff.1 hv).1; rwa [hk] at this
      have h3 := h2 i (by rw [hC]; exact hik)
      rw [hv] at h3
      rw [hC] at h3
      rwa [Addr.add_lit, Addr.add_lit] at h3
    · obtain ⟨i, hi2, hp⟩ := hpr x hx2
      subst hx
      exact ⟨_, _, rfl, D i, List.mem_map.2 ⟨i, List.mem_range.2 hi2, rfl⟩, hp⟩
theorem SlR.map_fst {α β : Type} {encE : α → List Value} {k : Nat} {a : Option Addr} {cap : Nat} {xs : List β} (f : β → α) (h : SlR (fun x => encE (f x)) k w a cap xs) : SlR encE k w a cap (xs.map f) := by
  refine ⟨by rw [List.length_map]; exact h.le, h.max, fun hn => ?_, fun ad had hc => ?_⟩
  · obtain ⟨h1, h2⟩ := h.ofNone hn; exact ⟨by rw [h1]; rfl, h2⟩
  · obtain ⟨h1, h2, h3⟩ := h.ofSome ad had hc
    refine ⟨h1, h2, fun j x hx i v hv => ?_⟩
    rw [List.getElem?_map] at hx
    cases hq : xs[j]? with
    | none => rw [hq] at hx; cases hx
    | some z => rw [hq, Option.map_some] at hx; injection hx with hx; subst hx; exact h3 j z hq i v hv
end
section
variable {H : Type} {enc : TypeId × Value → H} {W : World} {base : Nat} {held : Bool} {b0 : Nat} {v : Value} {d : DataW H} {p : List MemPlace}
abbrev bndW (t : TypeId) (d : DataW H) : Prop := ∀ n ∈ DataW.weights Tryz.prog t d, n ≤ reachBytes
set_option maxRecDepth 20000 in
theorem ev_decT (n : Nat) (cs : List Value) (y : DataW H × List MemPlace) (h : DataW.trod enc Tryz.prog W base (fun _ => true) held n 28 cs = some y) : ∃ r : EvC × Evt, cs = encV r.1 ∧ (bndW 28 y.1 → EvR W r.1 r.2) := by
  obtain ⟨xs, m, _, hx, hl, hlen, hfi⟩ := DataW.trod_struct Tryz.underlying28 h
  rw [show Tryz.prog.cellsOf 28 = 4 by kernel_rfl] at hl
  have hl2 : cs.length = 4 := hl
  match xs, hlen, cs, hl2 with
  | [y0, y1, y2, y3], _, [c0, c1, c2, c3], _ =>
    obtain ⟨a, rfl, _⟩ := trod_u8 (c := c0) Tryz.underlying5 (hfi 0 _ rfl)
    obtain ⟨b, rfl, hb1, hb2⟩ := trod_u8 (c := c1) Tryz.underlying5 (hfi 1 _ rfl)
    have g2 : DataW.trod enc Tryz.prog W base (fun _ => true) held m 25 [c2] = some y2 := hfi 2 _ rfl
    have g3 : DataW.trod enc Tryz.prog W base (fun _ => true) held m 26 [c3] = some y3 := hfi 3 _ rfl
    obtain ⟨a2, q2, ns, rfl, S2, -⟩ := open_slT encI 1 (fun _ _ => True) encI_len (by omega) Tryz.underlying25 (by kernel_rfl) (fun n cs y h => int_dec n cs y h) g2
    obtain ⟨a3, q3, tx, rfl, S3, w3⟩ := open_slT encT 1 (fun x y => y = .lit (.string x.data.toList)) (fun _ => rfl) (by omega) Tryz.underlying26 (by kernel_rfl) (fun n cs y h => txt_dec n cs y h) g3
    refine ⟨⟨⟨a, b, _, _, _, _, _, _⟩, ⟨a, b, ns, tx⟩⟩, rfl, fun hwt => ⟨rfl, rfl, rfl, rfl, S2, S3, ⟨hb1, hb2⟩, fun s hs => ?_⟩⟩
    obtain ⟨ds, rest, e3, yy, hy, rfl⟩ := w3 s hs
    have h5 := hwt s.size (by
      rw [hx, DataW.weights, Tryz.underlying28]
      simp only [List.map_cons, List.map_nil, DataW.weightsEach]
      refine List.mem_append_right _ (List.mem_append_right _ (List.mem_append_right _ (List.mem_append_left _ ?_)))
      rw [e3, DataW.weights, Tryz.underlying26]
      refine List.mem_cons_of_mem _ (List.mem_append_left _ (mem_weightsAll ?_ hy))
      rw [DataW.weights]
      exact List.mem_singleton.2 Array.length_toList.symm)
    have h7 : reachBytes ≤ 140737488355328 := by decide
    exact Nat.le_trans h5 h7
set_option maxRecDepth 20000 in
theorem evs_open (hv : Value.okWide Tryz.prog W .any b0 39 v) (h : DataW.Trod enc Tryz.prog W base (fun _ => true) held 39 v d p) (hwt : bndW 39 d) : ∃ a cap xs es, v = .slice a xs.length cap ∧ SlR encV 4 W a cap xs ∧ EvsR W xs es := by
  obtain ⟨i, j, k, rfl⟩ := okWide_slice Tryz.underlying39 hv
  obtain ⟨fuel, hf⟩ := h
  obtain ⟨a, cap, zs, e1, S1, h1⟩ := open_slT (fun x : EvC × Evt => encV x.1) 4 (fun x y => bndW 28 y → EvR W x.1 x.2) (fun _ => rfl) (by omega) Tryz.underlying39 (by kernel_rfl) ev_decT hf
  refine ⟨a, cap, zs.map (·.1), zs.map (·.2), by rw [List.length_map]; exact e1, SlR.map_fst _ S1, by simp, fun q x e hx he => ?_⟩
  rw [List.getElem?_map] at hx he
  cases hq : zs[q]? with
  | none => rw [hq] at hx; cases hx
  | some z =>
    rw [hq, Option.map_some] at hx he
    injection hx with hx; injection he with he
    subst hx he
    obtain ⟨ds, rest, e2, y, hy, hp⟩ := h1 z (List.mem_of_getElem? hq)
    refine hp fun n hn => hwt n ?_
    dsimp only at e2
    rw [e2, DataW.weights, Tryz.underlying39]
    exact List.mem_cons_of_mem _ (List.mem_append_left _ (mem_weightsAll hn hy))
end
end Go.Proofs.YtnffmbfdfhokeaaGreatDoor
namespace Go.Proofs.YtnffmbfdfhokeaaGreatDoor
open Go.ChangeShapes Go.WideShapes Go.ChangeAt Go.RowKit

theorem str_back (s : ByteArray) : (⟨s.data.toList.toArray⟩ : ByteArray) = s := by cases s; simp
set_option maxRecDepth 20000 in
theorem krow_dec {W : World} {n : Nat} {cs : List Value} {y : DataW Unit × List MemPlace} (h : DataW.trod (fun _ => ()) Tryz.prog W 0 (fun _ => true) false n 131 cs = some y) : cs = encK (krowOf y.1) := by
  obtain ⟨xs, m, _, rfl, hl, hlen, hf⟩ := DataW.trod_struct Tryz.underlying131 h
  have hstr : Tryz.prog.underlying 9 = some .string := Tryz.underlying9
  rw [show Tryz.prog.cellsOf 131 = 5 by kernel_rfl] at hl
  match xs, hlen, cs, hl with
  | [y0, y1, y2], _, [c0, c1, c2, c3, c4], _ =>
    have h0 := hf 0 _ rfl
    have h1 := hf 1 _ rfl
    have h2 := hf 2 _ rfl
    obtain ⟨s, e0, x0, _⟩ := DataW.trod_string hstr h0
    obtain ⟨z0, z1, z2, n', hx, g0, g1, g2⟩ := trod_array3 (c0 := c1) (c1 := c2) (c2 := c3) Tryz.underlying129 (by kernel_rfl) h1
    obtain ⟨s0, f0, w0, _⟩ := DataW.trod_string hstr g0
    obtain ⟨s1, f1, w1, _⟩ := DataW.trod_string hstr g1
    obtain ⟨s2, f2, w2, _⟩ := DataW.trod_string hstr g2
    obtain ⟨b, e4, x4⟩ := DataW.trod_bool Tryz.underlying4 h2
    have e0' : c0 = .string s := by
      have : [c0] = [Value.string s] := e0
      injection this
    have e4' : c4 = .bool b := by
      have : [c4] = [Value.bool b] := e4
      injection this
    injection f0 with f0
    injection f1 with f1
    injection f2 with f2
    subst e0' e4' f0 f1 f2 w0 w1 w2 hx x0 x4
    simp [krowOf, encK]
set_option maxRecDepth 20000 in
theorem knW_of {W : World} (h : laidMetH Tryz.prog [("souk/schema.kinds", Rows.laid_souk_schema_kinds)] W) : KnW W := by
  have h1 : laidMet Tryz.prog [("souk/schema.kinds", Rows.laid_souk_schema_kinds)] W := h
  obtain ⟨ps, ⟨g, t, cs, fuel, p, q, hg, ht, hv, hd, -, -⟩, -, -⟩ := h1
  obtain rfl := Option.some.inj ((show Tryz.prog.globalNamed "souk/schema.kinds" = some 0 by kernel_rfl).symm.trans hg)
  obtain rfl := Option.some.inj ((show (Tryz.prog.globals[0]?).map (·.type) = some 160 by kernel_rfl).symm.trans ht)
  have hcell := fun i => World.var?_cell hg hv i
  obtain ⟨xs, m, _, hx, hl, hlen, hf⟩ := DataW.trod_array Tryz.underlying160 hd
  injection hx with hx1 hx2
  have hk : kindsT = xs.map (fun y => krowOf y.1) := by
    unfold kindsT
    rw [hx1]
    simp [partsOf]
  have hC : Tryz.prog.cellsOf 131 = 5 := by kernel_rfl
  have hCt : Tryz.prog.cellsOf 160 = 115 := by kernel_rfl
  rw [hCt] at hl
  have hlt : 0 < W.heap.size := by
    refine Nat.lt_of_not_le fun hle => ?_
    have h9 := hcell 0
    have h8 : W.heap[0]? = none := Array.getElem?_eq_none hle
    have h7 : cs[0]? ≠ none := by
      rw [← Array.getElem?_toList]
      intro h; have := List.getElem?_eq_none_iff.1 h; omega
    rw [← h9] at h7
    simp [World.cell?, h8] at h7
  refine ⟨⟨by rw [kindsT_len]; omega, by omega, (fun h => by cases h), fun ad had _ => ?_⟩⟩
  cases had
  refine ⟨rfl, hlt, fun j x hj i v hi => ?_⟩
  rw [hk, List.getElem?_map, Option.map_eq_some_iff] at hj
  obtain ⟨y, hy, rfl⟩ := hj
  have hj23 : j < 23 := by have := (List.getElem?_eq_some_iff.1 hy).1; omega
  have hfj := hf j hj23
  rw [hy, hC] at hfj
  have he := krow_dec hfj
  have hi5 : i < 5 := by have := (List.getElem?_eq_some_iff.1 hi).1; rw [encK_len] at this; exact this
  rw [hcell, ← Array.getElem?_toList]
  rw [← he, List.getElem?_take, if_pos hi5, List.getElem?_drop] at hi
  rw [show (0 + j * 5 + i) = j * 5 + i by omega]
  exact hi
theorem wt_in {H : Type} {P : Program} {n : Nat} : ∀ {ts : List TypeId} {ds : List (DataW H)} {j : Nat} {t : TypeId} {d : DataW H}, ts[j]? = some t → ds[j]? = some d → n ∈ DataW.weights P t d → n ∈ DataW.weightsEach P ts ds
  | t :: ts, d :: ds, 0, _, _, h1, h2, hn => by
    simp at h1 h2; subst h1 h2
    rw [DataW.weightsEach]; exact List.mem_append_left _ hn
  | t :: ts, d :: ds, j + 1, _, _, h1, h2, hn => by
    rw [DataW.weightsEach]; exact List.mem_append_right _ (wt_in (by simpa using h1) (by simpa using h2) hn)
  | [], _, _, _, _, h1, _, _ => by simp at h1
  | _ :: _, [], _, _, _, _, h2, _ => by simp at h2
theorem wt_of {H : Type} {P : Program} {ts us : List TypeId} {ds gs : List (DataW H)} (hZ : ((DataW.weightsEach P (ts ++ us) (ds ++ gs)).all fun x => decide (x ≤ reachBytes)) = true) {j : Nat} {t : TypeId} {d : DataW H} (ht : ts[j]? = some t) (hd : ds[j]? = some d) : ∀ n ∈ DataW.weights P t d, n ≤ reachBytes := fun n hn => by
  have h1 : (ts ++ us)[j]? = some t := by rw [List.getElem?_append_left (List.getElem?_eq_some_iff.1 ht).1]; exact ht
  have h2 : (ds ++ gs)[j]? = some d := by rw [List.getElem?_append_left (List.getElem?_eq_some_iff.1 hd).1]; exact hd
  exact of_decide_eq_true (List.all_eq_true.1 hZ n (wt_in h1 h2 hn))
set_option maxRecDepth 100000 in
theorem door_met (os : Os) (args : Array Value) : laidMetH Tryz.prog [("souk/schema.kinds", Rows.laid_souk_schema_kinds)] ((World.doorLaid Tryz.prog 200 os).forCall (fun _ _ => 0) ⟨#[], args, []⟩).memory :=
  laidMetH_of_parts (laidMet_of_run' 8 (by kernel_rfl) (by kernel_rfl)) (by kernel_rfl)
end Go.Proofs.YtnffmbfdfhokeaaGreatDoor
namespace Go.Proofs.YtnffmbfdfhokeaaGreatDoor.R
open Go.RowKit

def fr (r : Option Nat) : Fence := { Fence.wide with round := r }
def up (mk : List Deferred) (a : Act) : Act := ⟨a.tmps, a.defers ++ mk⟩
def lift (mk : List Deferred) (Q : Exit → Act → World → Prop) : Exit → Act → World → Prop := fun e a w => Q e (up mk a) w
class NoOut (Q : Exit → Act → World → Prop) : Prop where
  no : ∀ a w, ¬ Q .outgrown a w
instance NoOut.then {K : Act → World → Prop} {Q : Exit → Act → World → Prop} [h : NoOut Q] : NoOut (Exit.then K Q) := ⟨h.no⟩
instance NoOut.inBlock {i : Nat} {Q : Exit → Act → World → Prop} [h : NoOut Q] : NoOut (Exit.inBlock i Q) := ⟨h.no⟩
instance NoOut.none : NoOut (fun _ _ _ => False) := ⟨fun _ _ h => h⟩
instance NoOut.ownPostG {α : Type} {B : Nat} {Kp : World → World → Prop} {I : List α → World → Prop} {Ix : Code → List α → World → Prop} {xs : List α} {W : World} : NoOut (Go.ownPostG B Kp I Ix xs W) := ⟨fun _ _ h => h⟩
def noDeferL : List Oper → Bool
  | [] => true
  | o :: r => (match o.op with | .defer _ => false | _ => true) && noDeferL r
def noDefer (ops : Array Oper) : Bool := noDeferL ops.toList
theorem noDeferL_spec : ∀ {l : List Oper}, noDeferL l = true → ∀ {i : Nat} {o : Oper}, l[i]? = some o → ∀ c, o.op ≠ .defer c
  | [], _, i, o, ho, _ => by simp at ho
  | x :: r, h, 0, o, ho, c => by
    simp at ho; subst ho
    intro e
    simp only [noDeferL, e, Bool.false_and] at h
    cases h
  | x :: r, h, i + 1, o, ho, c => by
    simp only [noDeferL, Bool.and_eq_true] at h
    exact noDeferL_spec h.2 (i := i) (by simpa using ho) c
theorem noDefer_spec {ops : Array Oper} (h : noDefer ops = true) {i : Nat} {o : Oper} (ho : ops[i]? = some o) : ∀ c, o.op ≠ .defer c :=
  noDeferL_spec h (i := i) (by simpa using ho)
section
variable {P : Program} {ops : Array Oper} {Q : Exit → Act → World → Prop} {mk : List Deferred} {r : Option Nat} {m : Nat}
theorem callsIn_fr {n : Nat} {f : FuncId} {args : Array Value} {w : World} {R : Ending → World → Prop} (h : Calls P f args w R) : CallsIn (fr r) n P f args w R := (callsIn_wide (n := n)).2 h
theorem calls_of_fr {n : Nat} {f : FuncId} {args : Array Value} {w : World} {R : Ending → World → Prop} (h : CallsIn (fr r) n P f args w R) : Calls P f args w R := (callsIn_wide (n := n)).1 h
theorem rowsIn_fr {n : Nat} {row : String} {args : Array Value} {w : World} {R : Value → World → Prop} (h : Rows P row args w R) : RowsIn (fr r) n P row args w R :=
  fun c cs _ => let ⟨v, w', q, s⟩ := h c cs; ⟨v, w', q, stepsIn_wide.2 s⟩
theorem deep_fr : (fr r).depth.isSome = true → 1 ≤ m := fun h => by simp [fr, Fence.wide] at h
theorem about_fr {o : Oper} {w : World} {ρ : Operand → Value} : ∀ f, o.about P w ρ = some f → (fr r).fn f := fun _ _ => trivial
theorem up_put {a : Act} {d : Option Nat} {v : Value} : up mk (a.put d v) = (up mk a).put d v := by cases d <;> rfl
theorem upon_in {o : Oper} {a : Act} {K K' : Act → World → Prop} [hQ : NoOut Q] (hK : ∀ a w, K a w → K' (up mk a) w) {res : Result Next} (h : o.upon P a K (lift mk Q) res) : o.uponIn (fr r) m P (up mk a) K' Q res := by
  cases res with
  | ok n w' =>
    cases n with
    | value v => have := hK _ _ h; rw [up_put] at this; exact this
    | skip => have := hK _ _ h; rw [up_put] at this; exact this
    | defer d => have := hK _ _ h; rw [up_put] at this; exact this
    | enter f args =>
      refine ⟨deep_fr, callsIn_fr (Calls.mono h fun e w'' q => ?_)⟩
      cases e with
      | returned v => have := hK _ _ q; rw [up_put] at this; exact this
      | panicked c => exact q
      | outgrown => obtain ⟨a0, w0, q⟩ := q; exact absurd q (hQ.no _ _)
    | row row args => exact ⟨deep_fr, rowsIn_fr (Rows.mono h fun v w'' q => by have := hK _ _ q; rw [up_put] at this; exact this)⟩
    | _ => exact h.elim
  | halt x w' =>
    cases x with
    | panic v => exact h
    | _ => exact h.elim
theorem ops_in (hd : noDefer ops = true) [hQ : NoOut Q] : ∀ (l : List Nat) (a : Act) (w : World), wpOps P ops (lift mk Q) l a w → wpOpsIn (fr r) m P ops Q l (up mk a) w
  | [], _, _, h => h
  | i :: rest, a, w, h => by
    simp only [wpOps] at h
    simp only [wpOpsIn]
    cases ho : ops[i]? with
    | none => simp only [ho] at h ⊢; exact ops_in hd rest a w h
    | some o =>
      simp only [ho] at h ⊢
      by_cases hw : Region.wanted o (yielded ops a.tmps) = true
      · rw [if_pos hw] at h
        rw [if_pos (show Region.wanted o (yielded ops (up mk a).tmps) = true from hw)]
        rcases h with h | ⟨_, a0, w0, h0⟩
        · refine ⟨about_fr, ?_⟩
          rw [Oper.semAt_eq _ _ _ (noDefer_spec hd ho)]
          exact upon_in (fun a w h => ops_in hd rest a w h) h
        · exact absurd h0 (hQ.no _ _)
      · rw [if_neg hw] at h
        rw [if_neg (show ¬ Region.wanted o (yielded ops (up mk a).tmps) = true from hw)]
        have := ops_in hd rest _ w h
        rw [up_put] at this
        exact ⟨about_fr, this⟩
end

structure CW (r : Option Nat) (m : Nat) (mk : List Deferred) (P : Program) (n : Nat) (c : Code) (Q : Exit → Act → World → Prop) (l : Fr) (w : World) : Prop where
  out : ∀ a, Holds n l a → c.wpIn (fr r) m P Q (up mk a) w
section
variable {r : Option Nat} {m : Nat} {mk : List Deferred} {P : Program} {n : Nat} {Q : Exit → Act → World → Prop} {l : Fr} {w : World}
theorem is_cw {c : Code} (h : CW r m mk P n c Q l w) : CW r m mk P n c Q l w := h
theorem cw_seq {x y : Code} (h : CW r m mk P n x (Exit.then (y.wpIn (fr r) m P Q) Q) l w) : CW r m mk P n (.seq x y) Q l w := ⟨fun a ha => wpIn_seq (h.out a ha)⟩
theorem cw_skip (h : QW n (lift mk Q) .normal l w) : CW r m mk P n .skip Q l w := ⟨fun a ha => wpIn_skip (h.out a ha)⟩
theorem cw_label {i : Nat} (h : QW n (lift mk Q) .normal l w) : CW r m mk P n (.label i) Q l w := ⟨fun a ha => wpIn_label (h.out a ha)⟩
theorem cw_exit {i : Nat} (h : QW n (lift mk Q) (.exit i) l w) : CW r m mk P n (.exit i) Q l w := ⟨fun a ha => wpIn_exit (h.out a ha)⟩
theorem cw_ret (h : QW n (lift mk Q) .ret l w) : CW r m mk P n .ret Q l w := ⟨fun a ha => wpIn_ret (h.out a ha)⟩
theorem cw_block {i : Nat} {c : Code} (h : CW r m mk P n c (Exit.inBlock i Q) l w) : CW r m mk P n (.block i c) Q l w := ⟨fun a ha => wpIn_block (h.out a ha)⟩
theorem up_eval {a : Act} {x : Operand} : (up mk a).eval x = a.eval x := by cases x <;> rfl
theorem cw_true {c : Operand} {x y : Code} {b : Bool} (hc : ev l c = some (.bool b)) (hb : b = true) (h : CW r m mk P n x Q l w) : CW r m mk P n (.cond c x y) Q l w := ⟨fun a ha => wpIn_cond_true (up_eval.trans ((ha.ev hc).trans (by rw [hb]))) (h.out a ha)⟩
theorem cw_false {c : Operand} {x y : Code} {b : Bool} (hc : ev l c = some (.bool b)) (hb : b = false) (h : CW r m mk P n y Q l w) : CW r m mk P n (.cond c x y) Q l w := ⟨fun a ha => wpIn_cond_false (up_eval.trans ((ha.ev hc).trans (by rw [hb]))) (h.out a ha)⟩
theorem cw_split {c : Operand} {x y : Code} {b : Bool} (hc : ev l c = some (.bool b)) (h1 : b = true → CW r m mk P n x Q l w) (h2 : b = false → CW r m mk P n y Q l w) : CW r m mk P n (.cond c x y) Q l w := by
  cases b with
  | true => exact cw_true hc rfl (h1 rfl)
  | false => exact cw_false hc rfl (h2 rfl)
theorem cw_region {i : Nat} {ops : List Oper} [hQ : NoOut Q] (h : LW P n ops.toArray (lift mk Q) ops l w) (hd : noDefer ops.toArray = true := by rfl) : CW r m mk P n (.region i ops.toArray false) Q l w := ⟨fun a ha => wpIn_region (by
  have h1 := h.out a ha
  rw [← wpOps_eq_wpList ops 0 (by simp)] at h1
  rw [List.range_eq_range']
  exact ops_in hd _ _ _ (by simpa using h1))⟩
theorem NoPanicL {Q : Exit → Act → World → Prop} (h : NoPanic Q) : NoPanic (lift mk Q) := fun c d v a w q => h c d v (up mk a) w (by have := q; unfold lift at this; rwa [up_put] at this)
theorem cw_drawn {i : Nat} {ops : Array Oper} (S : World → Prop) (hm : P.follows .mixedOrders = true) (hNP : NoPanic Q) [hQ : NoOut Q] (h : NoPanic (lift mk Q) → AW P n ops (lift mk Q) S ops.size (Array.replicate ops.size false) l w.drew) (hd : noDefer ops = true := by rfl) : CW r m mk P n (.region i ops true) Q l w := ⟨fun a ha =>
  wpIn_region_draw fun t => by
    have h1 := wpAny_of_held _ _ _ _ ((h (NoPanicL hNP)).out a ha)
    have h2 := wpAny_sound ops.size t _ a _ h1
    simp only [Region.schedule, hm, Bool.true_or, if_true]
    exact ops_in hd _ _ _ h2⟩
def Round {σ : Type} (mk : List Deferred) (n : Nat) (L : σ → Fr) (I : σ → World → Prop) (μ : σ → Nat) (k : Nat) (a' : Act) (w' : World) : Prop := ∃ s' b, a' = up mk b ∧ Holds n (L s') b ∧ I s' w' ∧ μ s' < k
theorem cw_loop {σ : Type} {c : Code} (L : σ → Fr) (I : σ → World → Prop) (μ : σ → Nat) (s0 : σ) (h0 : Sub (L s0) l) (hI : I s0 w)
    (h : ∀ s w, I s w → CW r m mk P n c (Exit.then (Round mk n L I μ (μ s)) Q) (L s) w) : CW r m mk P n (.loop c) Q l w := ⟨fun a ha => by
  have key : ∀ k s a w, μ s < k → Holds n (L s) a → I s w → Code.roundsIn (fr r) m P c Q k (up mk a) w := by
    intro k
    induction k with
    | zero => intro s a w hk; exact absurd hk (Nat.not_lt_zero _)
    | succ k ih =>
      intro s a w hk ha hI
      refine wpIn_mono ((h s w hI).out a ha) fun e a' w' q => ?_
      cases e with
      | normal =>
        obtain ⟨s', b, rfl, h1, h2, h3⟩ := q
        exact ih s' b w' (by omega) h1 h2
      | _ => exact q
  exact wpIn_loop_rounds _ (key (μ s0 + 1) s0 a w (Nat.lt_succ_self _) (ha.sub h0) hI)⟩
theorem qw_round {σ : Type} {L : σ → Fr} {I : σ → World → Prop} {μ : σ → Nat} {k : Nat} (s' : σ) (h0 : Sub (L s') l) (hI : I s' w) (hm : μ s' < k) :
    QW n (lift mk (Exit.then (Round mk n L I μ k) Q)) .normal l w := ⟨fun a ha => ⟨s', a, rfl, ha.sub h0, hI, hm⟩⟩
def Join {σ : Type} (mk : List Deferred) (n : Nat) (L : σ → Fr) (I : σ → World → Prop) (a' : Act) (w' : World) : Prop := ∃ s b, a' = up mk b ∧ Holds n (L s) b ∧ I s w'
theorem cw_cut {σ : Type} {x y : Code} (L : σ → Fr) (I : σ → World → Prop) (h1 : CW r m mk P n x (Exit.then (Join mk n L I) Q) l w) (h2 : ∀ s w, I s w → CW r m mk P n y Q (L s) w) : CW r m mk P n (.seq x y) Q l w := ⟨fun a ha => wpIn_seq (wpIn_mono (h1.out a ha) (fun e a' w' q => by
  cases e with
  | normal => obtain ⟨s, b, rfl, h3, h4⟩ := q; exact (h2 s w' h4).out b h3
  | _ => exact q))⟩
theorem cw_cutq {σ : Type} {x y : Code} {Q' : Exit → Act → World → Prop} (L : σ → Fr) (I : σ → World → Prop) (h1 : CW r m mk P n x (Exit.then (Join mk n L I) Q') l w) (h2 : ∀ s w, I s w → CW r m mk P n y Q (L s) w) : CW r m mk P n x (Exit.then (Code.wpIn (fr r) m P y Q) Q') l w := ⟨fun a ha => wpIn_mono (h1.out a ha) (fun e a' w' q => by
  cases e with
  | normal => obtain ⟨s, b, rfl, h3, h4⟩ := q; exact (h2 s w' h4).out b h3
  | _ => exact q)⟩
theorem qw_join {σ : Type} {L : σ → Fr} {I : σ → World → Prop} (s : σ) (h0 : Sub (L s) l) (hI : I s w) : QW n (lift mk (Exit.then (Join mk n L I) Q)) .normal l w := ⟨fun a ha => ⟨s, a, rfl, ha.sub h0, hI⟩⟩
theorem qw_then {y : Code} {Q' : Exit → Act → World → Prop} (h : CW r m mk P n y Q l w) : QW n (lift mk (Exit.then (Code.wpIn (fr r) m P y Q) Q')) .normal l w := ⟨h.out⟩
theorem qw_then_exit {K : Act → World → Prop} {i : Nat} (h : QW n (lift mk Q) (.exit i) l w) : QW n (lift mk (Exit.then K Q)) (.exit i) l w := ⟨h.out⟩
theorem qw_then_ret {K : Act → World → Prop} (h : QW n (lift mk Q) .ret l w) : QW n (lift mk (Exit.then K Q)) .ret l w := ⟨h.out⟩
theorem qw_in {i : Nat} (h : QW n (lift mk Q) .normal l w) : QW n (lift mk (Exit.inBlock i Q)) .normal l w := ⟨h.out⟩
theorem qw_in_ret {i : Nat} (h : QW n (lift mk Q) .ret l w) : QW n (lift mk (Exit.inBlock i Q)) .ret l w := ⟨h.out⟩
theorem qw_in_hit {i : Nat} (h : QW n (lift mk Q) .normal l w) : QW n (lift mk (Exit.inBlock i Q)) (.exit i) l w := ⟨fun a ha => by
  show (if i = i then Q .normal (up mk a) w else Q (.exit i) (up mk a) w)
  rw [if_pos rfl]; exact h.out a ha⟩
theorem qw_in_miss {i j : Nat} (hij : Nat.beq j i = false) (h : QW n (lift mk Q) (.exit j) l w) : QW n (lift mk (Exit.inBlock i Q)) (.exit j) l w := ⟨fun a ha => by
  show (if j = i then Q .normal (up mk a) w else Q (.exit j) (up mk a) w)
  rw [if_neg (fun e => by subst e; simp at hij)]; exact h.out a ha⟩
def postM (m : Nat) (P : Program) (fn : Func) (R : Ending → World → Prop) : Exit → Act → World → Prop
  | .normal, a, w | .ret, a, w => LeavesInM (fr none) m P fn a.tmps R a.defers .returning w
  | _, _, _ => False
instance NoOut.postM {fn : Func} {R : Ending → World → Prop} : NoOut (postM m P fn R) := ⟨fun _ _ h => h⟩
class NP (Q : Exit → Act → World → Prop) : Prop where
  np : NoPanic Q
instance NP.postM {fn : Func} {R : Ending → World → Prop} : NP (Go.Proofs.YtnffmbfdfhokeaaGreatDoor.R.postM m P fn R) := ⟨fun _ _ _ _ _ h => h⟩
instance NP.ownPostG {α : Type} {B : Nat} {Kp : World → World → Prop} {I : List α → World → Prop} {Ix : Code → List α → World → Prop} {xs : List α} {W : World} : NP (Go.ownPostG B Kp I Ix xs W) := ⟨fun _ _ _ _ _ h => h⟩
instance NP.none : NP (fun _ _ _ => False) := ⟨fun _ _ _ _ _ h => h⟩
theorem NoPanic.body {Q : Exit → Act → World → Prop} [h : NP Q] : NoPanic Q := h.np
theorem qw_retM0 {fn : Func} {R : Ending → World → Prop} (h : QW n (bodyPost P fn R) .ret l w) : QW n (lift [] (Go.Proofs.YtnffmbfdfhokeaaGreatDoor.R.postM m P fn R)) .ret l w := ⟨fun a ha => by
  have h1 := h.out a ha
  have e : (up [] a).defers = [] := by show a.defers ++ [] = []; rw [ha.2.1]; rfl
  show LeavesInM (fr none) m P fn a.tmps R (up [] a).defers .returning w
  rw [e]
  exact h1.2⟩
theorem qw_retM1 {fn : Func} {R : Ending → World → Prop} {D : Nat} (hD : w.heap[D]? = some (.deferred (some []))) (h : QW n (bodyPost P fn R) .ret l (w.putObj D (.deferred none))) : QW n (lift [{ target := .collected D, args := #[] }] (Go.Proofs.YtnffmbfdfhokeaaGreatDoor.R.postM m P fn R)) .ret l w := ⟨fun a ha => by
  have h1 := h.out a ha
  have e : (up [{ target := .collected D, args := #[] }] a).defers = [{ target := .collected D, args := #[] }] := by show a.defers ++ _ = _; rw [ha.2.1]; rfl
  show LeavesInM (fr none) m P fn a.tmps R (up _ a).defers .returning w
  rw [e]
  refine ⟨by simp, .inl ⟨D, _, rfl, run_takeDeferred hD, ?_⟩⟩
  exact h1.2⟩
theorem fn_enter {f : FuncId} {fn : Func} {c : Code} {vs : List Value} {R : Ending → World → Prop} (m n : Nat) (hf : P.funcs[f]? = some fn) (hb : fn.body = some c) (hn : fn.ntmps = n) (hle : Nat.ble vs.length n = true)
    (h : CW none m [] P n c (postM m P fn R) (zipN 0 vs) w) : CallsIn (fr none) m P f vs.toArray w R := by
  refine callsIn_of_wp_marks hf hb trivial (wpIn_mono (h.out ⟨_, []⟩ ⟨?_, rfl, fun t v e => ?_⟩) fun e a w q => by cases e <;> first | exact q | exact q.elim)
  · have : vs.length ≤ n := Nat.le_of_ble_eq_true hle
    simp [hn]; omega
  · obtain ⟨_, h2⟩ := look_zipN vs 0 t v e
    rw [Nat.sub_zero] at h2
    have hlt : t < vs.toArray.size := by simpa using (List.getElem?_eq_some_iff.1 h2).1
    show (vs.toArray ++ Array.replicate (fn.ntmps - vs.toArray.size) undef)[t]? = some v
    rw [Array.getElem?_append_left hlt]; simpa using h2
def zipP : List Nat → List Value → Fr → Fr
  | p :: ps, v :: vs, l => zipP ps vs ((p, v) :: l)
  | _, _, l => l
theorem holds_zipP : ∀ (ps : List Nat) (vs : List Value) (l : Fr) (a : Act), Holds n l a → (∀ p ∈ ps, Nat.blt p n = true) → Holds n (zipP ps vs l) { tmps := (ps.zip vs).foldl (fun t (q : Nat × Value) => t.setIfInBounds q.1 q.2) a.tmps, defers := [] }
  | [], vs, l, a, h, _ => by
    have e : a = ⟨a.tmps, []⟩ := by obtain ⟨t, d⟩ := a; obtain ⟨_, h2, _⟩ := h; simp only at h2; subst h2; rfl
    show Holds n l ⟨a.tmps, []⟩
    rw [← e]; exact h
  | p :: ps, [], l, a, h, _ => by
    have e : a = ⟨a.tmps, []⟩ := by obtain ⟨t, d⟩ := a; obtain ⟨_, h2, _⟩ := h; simp only at h2; subst h2; rfl
    show Holds n l ⟨a.tmps, []⟩
    rw [← e]; exact h
  | p :: ps, v :: vs, l, a, h, hp => holds_zipP ps vs ((p, v) :: l) (a.put (some p) v) (h.put (hp p List.mem_cons_self) v) (fun q hq => hp q (List.mem_cons_of_mem _ hq))
theorem cw_range {α σ : Type} {g : Operand} {ps : List Nat} {assign body : Code} {k : Nat} {gf : Nat} {lb : Array Value} (hg : ev l g = some (.func (.func gf) #[] lb)) (he : entersB P gf = true)
    {encs : α → List Value} {Kp : World → World → Prop} {S Sp : List α → Prop} {N : Nat} {w0 : World} (hseq : SeqStopsK (fr none) (k + 1) P gf lb (fun x => (encs x).toArray) Kp S Sp N w0)
    (hKt : ∀ {A B C : World}, Kp A B → Kp B C → Kp A C) (hKb : ∀ (W : World) (l : Nat) (o o' : Obj), w.heap.size ≤ l → W.heap[l]? = some o → o.isCells = false → o.isWalk = false → Kp W (W.putObj l o')) (hb0 : Below w0.heap.size w0 w) (hps : ∀ x, (encs x).length = ps.length) (hpn : ∀ p ∈ ps, Nat.blt p n = true)
    (I : List α → World → Prop) (Ix : Code → List α → World → Prop) (hI : OwnFrom w.heap.size I) (hIx : ∀ c, OwnFrom w.heap.size (Ix c)) (h0 : I [] w) (LB : α → σ → Fr) (F : α → σ → World → Prop) (hF : ∀ x y, OwnFrom w.heap.size (fun (_ : Unit) W => F x y W))
    (hassign : ∀ (ln : Nat) (pre : List α) (x : α) (W : World), I pre W →
      CW (some ln) k [] P n assign (Exit.then (fun a' W' => ∃ y, Holds n (LB x y) a' ∧ F x y W' ∧ KeepsFrom w.heap.size W W' ∧ Kp W W' ∧ I pre W') (fun _ _ _ => False)) (zipP ps (encs x) l) W)
    (hbody : ∀ (ln : Nat) (pre : List α) (x : α) (y : σ) (W : World), w.heap.size ≤ ln → (∃ r, W.heap[ln]? = some (.loop r)) → I pre W → F x y W → pre.length < N → CW (some ln) k [] P n body (ownPostG w.heap.size Kp I Ix (pre ++ [x]) W) (LB x y) W)
    (hdone : ∀ (D : Nat) (xs : List α) (W : World), w.heap.size ≤ D → S xs → I xs W → W.heap[D]? = some (.deferred (some [])) → QW n (lift ({ target := .collected D, args := #[] } :: mk) Q) .normal l W)
    (hstop : ∀ (D : Nat) (c : Code) (pre : List α) (W : World), w.heap.size ≤ D → Sp pre → Ix c pre W → W.heap[D]? = some (.deferred (some [])) → CW none (k + 2) ({ target := .collected D, args := #[] } :: mk) P n c Q l W) :
    CW none (k + 2) mk P n (.rangeFunc g ps.toArray assign body) Q l w := ⟨fun a ha => by
  have hd : a.defers = [] := ha.2.1
  have e0 : ∀ D : Nat, ({ up mk a with defers := { target := .collected D, args := #[] } :: (up mk a).defers } : Act) = up ({ target := .collected D, args := #[] } :: mk) a := fun D => by
    show (⟨a.tmps, _ :: (a.defers ++ mk)⟩ : Act) = ⟨a.tmps, a.defers ++ _ :: mk⟩
    rw [hd]; rfl
  refine wpIn_rangeFunc_ownH (F := fr none) rfl (by omega) (up_eval.trans (ha.ev hg)) trivial (fun args w => run_callFunc he args w) hseq hKt hKb hb0 (fun x => by simpa using hps x) I Ix hI hIx h0 (fun x a' W => ∃ y, Holds n (LB x y) a' ∧ F x y W) (fun x a' _ A B row h hg hr => by obtain ⟨y, h1, h2⟩ := h; exact ⟨y, h1, hF x y () A B row h2 hg hr⟩) ?_ ?_ ?_ ?_
  · intro ln pre x W K hi hK
    have h1 := (hassign ln pre x W hi).out _ (holds_zipP ps (encs x) l a ha hpn)
    have e : up [] ({ tmps := (ps.zip (encs x)).foldl (fun t (q : Nat × Value) => t.setIfInBounds q.1 q.2) a.tmps, defers := [] } : Act) = { tmps := (ps.toArray.zip (encs x).toArray).foldl (fun t (p, v) => t.setIfInBounds p v) (up mk a).tmps, defers := [] } := by
      show (⟨_, [] ++ []⟩ : Act) = _
      congr 1
      rw [List.zip_toArray, List.foldl_toArray]; rfl
    rw [e] at h1
    refine wpIn_mono h1 fun e a' w' q => ?_
    cases e with
    | normal => obtain ⟨y, h2, h6, h3, h4, h5⟩ := q; exact hK a' w' h3 h4 h5 ⟨y, h2, h6⟩
    | _ => exact q
  · intro ln pre x a' W hln hlr hi hax hlen
    obtain ⟨y, hax, hfy⟩ := hax
    have h1 := (hbody ln pre x y W hln hlr hi hfy hlen).out a' hax
    have e : up [] a' = a' := by
      obtain ⟨t, d⟩ := a'
      show (⟨t, d ++ []⟩ : Act) = ⟨t, d⟩
      rw [List.append_nil]
    rw [e] at h1
    exact h1
  · intro D xs W hD hS hi hW
    rw [e0]
    exact (hdone D xs W hD hS hi hW).out a ha
  · intro D c pre W hD hS hi hW
    rw [e0]
    exact (hstop D c pre W hD hS hi hW).out a ha⟩
theorem qw_assign {α σ : Type} {B : Nat} {Kp : World → World → Prop} {I : List α → World → Prop} {x : α} {pre : List α} {LB : α → σ → Fr} {F : α → σ → World → Prop} {W : World} (y : σ) (h0 : Sub (LB x y) l) (hF : F x y w) (h1 : KeepsFrom B W w) (h2 : Kp W w) (h3 : I pre w) : QW n (lift [] (Exit.then (fun a' W' => ∃ y, Holds n (LB x y) a' ∧ F x y W' ∧ KeepsFrom B W W' ∧ Kp W W' ∧ I pre W') (fun _ _ _ => False))) .normal l w := ⟨fun a ha => by
  have e : up [] a = a := by
    obtain ⟨t, d⟩ := a
    show (⟨t, d ++ []⟩ : Act) = ⟨t, d⟩
    rw [List.append_nil]
  show ∃ y, Holds n (LB x y) (up [] a) ∧ _
  rw [e]
  exact ⟨y, ha.sub h0, hF, h1, h2, h3⟩⟩
end
end Go.Proofs.YtnffmbfdfhokeaaGreatDoor.R
namespace Go.Proofs.YtnffmbfdfhokeaaGreatDoor.R
open Go.RowKit

structure LY (r : Option Nat) (m : Nat) (mk : List Deferred) (P : Program) (n : Nat) (ops : Array Oper) (Q : Exit → Act → World → Prop) (os : List Oper) (l : Fr) (w : World) : Prop where
  out : ∀ a, Holds n l a → wpListIn (fr r) m P ops Q os (up mk a) w
section
variable {r : Option Nat} {m : Nat} {mk : List Deferred} {P : Program} {n : Nat} {ops : Array Oper} {Q : Exit → Act → World → Prop} {os : List Oper} {l : Fr} {w : World}
theorem cw_regionY {i : Nat} {os : List Oper} (h : LY r m mk P n os.toArray Q os l w) : CW r m mk P n (.region i os.toArray false) Q l w := ⟨fun a ha => wpIn_region_lit (h.out a ha)⟩
theorem ly_nil (h : QW n (lift mk Q) .normal l w) : LY r m mk P n ops Q [] l w := ⟨fun a ha => wpListIn_nil (h.out a ha)⟩
theorem is_seqr (i : Nat) {os : Array Oper} {d : Bool} {y : Code} (h : CW r m mk P n (.seq (.region i os d) y) Q l w) : CW r m mk P n (.seq (.region i os d) y) Q l w := h
theorem is_seqb {i : Nat} {c y : Code} (h : CW r m mk P n (.seq (.block i c) y) Q l w) : CW r m mk P n (.seq (.block i c) y) Q l w := h
theorem is_blk {i : Nat} {c : Code} (h : CW r m mk P n (.block i c) Q l w) : CW r m mk P n (.block i c) Q l w := h
theorem exec_up {o : Oper} {a : Act} : execOp (up mk a).eval o = execOp a.eval o := by
  have e : (up mk a).eval = a.eval := by funext x; exact up_eval
  rw [e]
theorem not_defer {o : Oper} {a : Act} {v : Value} {w w' : World} (h : (execOp a.eval o).run P w = .ok (.value v) w') : ∀ c, o.op ≠ .defer c := by
  intro c e
  unfold execOp at h
  rw [e] at h
  simp only [Sem.run_bind] at h
  cases hr : (resolve a.eval c o.type).run P w with
  | ok d w1 => rw [hr] at h; simp [Result.andThen] at h
  | halt x w1 => rw [hr] at h; simp [Result.andThen] at h
theorem ly_pure {d : Nat} {op : Op} {ty : TypeId} {pos : String} {af : Array Edge} {v : Value} (hd : Nat.blt d n = true) (hv : Pv P n l ⟨some d, op, ty, pos, af, none⟩ v w) (h : LY r m mk P n ops Q os ((d, v) :: l) w) :
    LY r m mk P n ops Q (⟨some d, op, ty, pos, af, none⟩ :: os) l w := ⟨fun a ha => wpListIn_plain rfl fun K hK => by
  refine ⟨about_fr, ?_⟩
  have h1 := hv.out a ha
  rw [Oper.semAt_eq _ _ _ (not_defer h1), exec_up, h1]
  have h2 := hK _ _ (h.out _ (ha.put hd v))
  rw [up_put] at h2
  exact h2⟩
theorem ly_not {d : Nat} {op : Op} {ty : TypeId} {pos : String} {af : Array Edge} {g : Nat} {t : Nat} {b c : Bool} (hd : Nat.blt d n = true) (hg : (ops[g]?).bind (·.dst) = some t) (ht : look l t = some (.bool c)) (hc : c = !b) (h : LY r m mk P n ops Q os ((d, undef) :: l) w) :
    LY r m mk P n ops Q (⟨some d, op, ty, pos, af, some (g, b)⟩ :: os) l w := ⟨fun a ha => wpListIn_step fun K hK => by
  have hw : Region.wanted ⟨some d, op, ty, pos, af, some (g, b)⟩ (yielded ops (up mk a).tmps) = false := by
    show Region.wanted ⟨some d, op, ty, pos, af, some (g, b)⟩ (yielded ops a.tmps) = false
    simp only [Region.wanted, yielded, hg, Option.bind_some, ha.2.2 t _ ht]
    subst hc; cases b <;> rfl
  rw [if_neg (by rw [hw]; simp)]
  have h2 := hK _ _ (h.out _ (ha.put hd undef))
  rw [up_put] at h2
  exact ⟨about_fr, h2⟩⟩
theorem ly_on {d : Option Nat} {op : Op} {ty : TypeId} {pos : String} {af : Array Edge} {g : Nat} {t : Nat} {b c : Bool} (hg : (ops[g]?).bind (·.dst) = some t) (ht : look l t = some (.bool c)) (hc : c = b) (h : LY r m mk P n ops Q (⟨d, op, ty, pos, af, none⟩ :: os) l w) :
    LY r m mk P n ops Q (⟨d, op, ty, pos, af, some (g, b)⟩ :: os) l w := ⟨fun a ha => by
  have hw : Region.wanted ⟨d, op, ty, pos, af, some (g, b)⟩ (yielded ops (up mk a).tmps) = true := by
    show Region.wanted ⟨d, op, ty, pos, af, some (g, b)⟩ (yielded ops a.tmps) = true
    simp only [Region.wanted, yielded, hg, Option.bind_some, ha.2.2 t _ ht]
    subst hc; simp
  have h1 := h.out a ha
  unfold wpListIn at h1 ⊢
  rw [if_pos hw]
  rw [if_pos (by rfl)] at h1
  exact h1⟩
theorem ly_yield {d : Nat} {x : Operand} {args : List Operand} {ts : Array TypeId} {ty : TypeId} {pos : String} {af : Array Edge} {vs : List Value} {l0 : Nat} {R : Ending → World → Prop} (hd : Nat.blt d n = true) (hx : ev l x = some (.func (.yield l0) #[] #[])) (hvs : evs l args = some vs)
    (hY : YieldAt (fr r) (m - 1) P l0 vs.toArray w R) (h : ∀ e w', R e w' → ∃ v, e = .returned v ∧ LY r m mk P n ops Q os ((d, v) :: l) w') :
    LY r m mk P n ops Q (⟨some d, .call ⟨.value x, args.toArray, ts⟩, ty, pos, af, none⟩ :: os) l w := ⟨fun a ha => wpListIn_plain rfl fun K hK => by
  refine ⟨about_fr, ?_⟩
  obtain ⟨fn, tmps, assign, body, hy, hR⟩ := hY
  rw [Oper.semAt_eq _ _ _ (fun c e => by cases e), exec_up]
  have hrun : (execOp a.eval ⟨some d, .call ⟨.value x, args.toArray, ts⟩, ty, pos, af, none⟩).run P w = .ok (.round l0 fn tmps assign body) w := by
    simp [execOp, resolve, ha.ev hx, Deferred.ofValue, invoke, ha.evs hvs, hy]
  rw [hrun]
  refine ⟨deep_fr, hR.mono fun e w' q => ?_⟩
  obtain ⟨v, rfl, hl⟩ := h e w' q
  have h2 := hK _ _ (hl.out _ (ha.put hd v))
  rw [up_put] at h2
  exact h2⟩
theorem qw_endM0 {fn : Func} {R : Ending → World → Prop} (h : QW n (bodyPost P fn R) .normal l w) : QW n (lift [] (Go.Proofs.YtnffmbfdfhokeaaGreatDoor.R.postM m P fn R)) .normal l w := ⟨fun a ha => by
  have h1 := h.out a ha
  have e : (up [] a).defers = [] := by show a.defers ++ [] = []; rw [ha.2.1]; rfl
  show LeavesInM (fr none) m P fn a.tmps R (up [] a).defers .returning w
  rw [e]
  exact h1.2⟩
end
/-! ### what stays -/
section
variable {W W' : World} {row : Option Nat} {B : Nat}
theorem pt_from {N : Nat} {T : TypeId} {cs : List Value} (h : PT W N T cs) (hg : W.grownBy W' row) (hr : ∀ r, row = some r → B ≤ r ∧ ∃ o : Obj, W.heap[r]? = some o ∧ o.isCells = false) : PT W' N T cs := by
  refine (hg.block N h.lt (fun e => ?_)).trans h
  obtain ⟨_, o, ho, hc⟩ := hr N e.symm
  rw [show W.heap[N]? = _ from h] at ho
  injection ho with ho; subst ho; cases hc
theorem own_from {α : Type} {enc : α → List Value} {k : Nat} {T : TypeId} {base : Nat} {v : Value} {xs : List α} (h : Go.Proofs.YtnffmbfdfhokeaaGreatDoor.Own enc k T base W v xs) (hg : W.grownBy W' row) (hr : ∀ r, row = some r → B ≤ r ∧ ∃ o : Obj, W.heap[r]? = some o ∧ o.isCells = false) : Go.Proofs.YtnffmbfdfhokeaaGreatDoor.Own enc k T base W' v xs := by
  obtain ⟨h1, h2⟩ := h
  refine ⟨h1, ?_⟩
  rcases h2 with h2 | ⟨g, cap, cur, e1, e2, hh, rest⟩
  · exact Or.inl h2
  · refine Or.inr ⟨g, cap, cur, e1, e2, (hg.block g (Array.getElem?_eq_some_iff.1 hh).1 (fun e => ?_)).trans hh, rest⟩
    obtain ⟨_, o, ho, hc⟩ := hr g e.symm
    rw [hh] at ho
    injection ho with ho; subst ho; cases hc
theorem below_from {w0 : World} (h : Below w0.heap.size w0 W) (hB : w0.heap.size ≤ B) (hg : W.grownBy W' row) (hr : ∀ r, row = some r → B ≤ r ∧ ∃ o : Obj, W.heap[r]? = some o ∧ o.isCells = false) : Below w0.heap.size w0 W' :=
  h.grown hg h.size fun q e => Nat.le_trans hB (hr q e).1
theorem keeps_below (h : Below W.heap.size W W') : KeepsFrom B W W' := ⟨h.size, fun k _ _ hk _ => (h.block k (Array.getElem?_eq_some_iff.1 hk).1).trans hk⟩
theorem keeps_row {b : Nat} {T : TypeId} {cs : Array Value} {z : Nat × Nat} (h : W.grownBy W' (some b)) (hb : W.heap[b]? = some (.cells cs T z)) : KeepsFrom B W W' := ⟨h.size, fun k o _ hk ho => by
  refine (h.block k (Array.getElem?_eq_some_iff.1 hk).1 (fun e => ?_)).trans hk
  injection e with e; subst e
  rw [hb] at hk
  injection hk with hk; subst hk; cases ho⟩
theorem keeps_none (h : W.grownBy W' none) : KeepsFrom B W W' := ⟨h.size, fun k _ _ hk _ => (h.block k (Array.getElem?_eq_some_iff.1 hk).1 (fun e => by cases e)).trans hk⟩
theorem keeps_pt {N : Nat} {T : TypeId} {cs : List Value} (hp : PT W N T cs) (h : W.grownBy W' (some N)) : KeepsFrom B W W' := keeps_row h hp
theorem keeps_own {α : Type} {enc : α → List Value} {k : Nat} {T : TypeId} {base : Nat} {v : Value} {xs : List α} (ho : Go.Proofs.YtnffmbfdfhokeaaGreatDoor.Own enc k T base W v xs) (h : W.grownBy W' v.ownBlock) : KeepsFrom B W W' := by
  obtain ⟨_, h2⟩ := ho
  rcases h2 with ⟨rfl, _⟩ | ⟨g, cap, cur, rfl, _, hh, _⟩
  · exact keeps_none h
  · exact keeps_row h hh
end
end Go.Proofs.YtnffmbfdfhokeaaGreatDoor.R
namespace Go.Proofs.YtnffmbfdfhokeaaGreatDoor.R
open Go.RowKit Go.PlainAid

abbrev encX (x : Int × Ln) : List Value := [.int .i64 x.1, .agg (encN x.2).toArray]
set_option maxRecDepth 20000 in
theorem backward_c (a : Option Addr) (m c : Nat) (w : World) : Calls Tryz.prog 41 #[.slice a m c] w fun e w' => (∃ B, e = .returned (.func (.func 71) #[] #[.pointer (some ⟨B, 0, none⟩)]) ∧ PT w' B 22 [.slice a m c]) ∧ Below w.heap.size w w' := by
  have hw := Below.refl w.heap.size w
  refine Go.Proofs.YtnffmbfdfhokeaaGreatDoor.fn_enter 4 Tryz.func41 rfl rfl rfl ?_
  refine Go.Proofs.YtnffmbfdfhokeaaGreatDoor.cw_seq ?_
  refine Go.Proofs.YtnffmbfdfhokeaaGreatDoor.cw_region ?_
  refine lw_boxN rfl rfl (cs := [.slice a m c]) rfl ?_; intro B w2 hB HB hb; replace hw := grow_trans hw hb; clear hb
  refine lw_pure rfl (pv_assign rfl) ?_
  refine lw_nil ?_
  refine Go.Proofs.YtnffmbfdfhokeaaGreatDoor.qw_then ?_
  refine Go.Proofs.YtnffmbfdfhokeaaGreatDoor.cw_seq ?_
  refine Go.Proofs.YtnffmbfdfhokeaaGreatDoor.cw_region ?_
  refine lw_pure rfl (pv_makeFunc rfl rfl) ?_
  refine lw_pure rfl (pv_assign rfl) ?_
  refine lw_nil ?_
  refine Go.Proofs.YtnffmbfdfhokeaaGreatDoor.qw_then ?_
  refine Go.Proofs.YtnffmbfdfhokeaaGreatDoor.cw_ret ?_
  exact qw_ret1 rfl rfl ⟨⟨B, rfl, HB⟩, hw⟩
def Sall (xs : List Ln) (ys : List (Int × Ln)) : Prop := ys.map (·.2) = xs.reverse
def Spre (xs : List Ln) (ys : List (Int × Ln)) : Prop := ∃ r, ys.map (·.2) ++ r = xs.reverse
set_option maxRecDepth 20000 in
theorem back_stops {xs : List Ln} {m B c : Nat} {a : Option Addr} {w : World} (hm : xs.length = m) (HB : PT w B 22 [.slice a m c]) (HS : SlR encN 5 w a c xs) : SeqStopsK (fr none) 1 Tryz.prog 71 #[.pointer (some ⟨B, 0, none⟩)] (fun x => (encX x).toArray) (fun A C => Below w.heap.size A C) (Sall xs) (Spre xs) xs.length w := by
  subst hm
  have hle := HS.le
  have hmx := HS.max
  intro l J Jx W hW hJ hJx hY h0
  show CallsIn (fr none) 1 Tryz.prog _ [Value.func (.yield l) #[] #[], .pointer (some ⟨B, 0, none⟩)].toArray W _
  have hw := hW
  refine R.fn_enter _ 19 Tryz.func71 rfl rfl rfl ?_
  repeat' (first | (refine lw_pure rfl (pv_move rfl) ?_) | (refine lw_pure rfl (pv_assign rfl) ?_) | (refine is_cw ?_; first | (refine cw_seq ?_) | (refine cw_region ?_) | (refine cw_true rfl rfl ?_) | (refine cw_false rfl rfl ?_) | (refine cw_true rfl (by first | assumption | exact decide_eq_true (by omega) | exact dec_notT (by omega)) ?_) | (refine cw_false rfl (by first | assumption | exact decide_eq_false (by omega) | exact dec_notF (by omega)) ?_) | (refine cw_skip ?_) | (refine cw_block ?_) | (refine cw_exit ?_) | (refine cw_ret ?_)) | (refine is_qw ?_; first | (with_reducible refine qw_then ?_) | (with_reducible refine qw_in ?_) | (with_reducible refine qw_in_hit ?_) | (refine qw_in_miss rfl ?_) | (with_reducible refine qw_then_exit ?_) | (with_reducible refine qw_then_ret ?_) | (with_reducible refine qw_in_ret ?_)) | (refine lw_nil ?_) | ((refine is_bin ?_; first | (refine lw_pure rfl (pv_geq rfl rfl) ?_) | (refine lw_pure rfl (pv_sub rfl rfl (by omega)) ?_))) | ((refine is_load ?_; first | (refine lw_pure rfl (pv_load (t1 rfl) rfl (by first | exact PT.ld0 (HB.mono hw) rfl | exact PT.ld (HB.mono hw) rfl)) ?_) | (refine lw_pure rfl (pv_loada (tA rfl) rfl (by first | exact PT.lda (HB.mono hw)) (by rfl)) ?_))) | ((refine is_ia ?_; first | (refine lw_pure rfl (pv_ian (tS rfl) rfl rfl (by omega)) ?_) | (refine lw_pure rfl (pv_ia (tS rfl) rfl rfl (by omega)) ?_))) | ((refine is_un ?_; first | (refine lw_pure rfl (pv_not rfl) ?_))) | ((refine is_bi ?_; first | (refine lw_pure rfl (pv_lenl (tS rfl) rfl) ?_) | (refine lw_pure rfl (pv_lens (tStr rfl) rfl) ?_))))
  refine cw_loop (σ := Nat × List (Int × Ln)) (fun s => [(0, .func (.yield l) #[] #[]), (1, .pointer (some ⟨B, 0, none⟩)), (3, .int .i64 (((s.1 : Nat) : Int) - 1))]) (fun s wr => s.1 ≤ xs.length ∧ Below w.heap.size w wr ∧ J s.2 wr ∧ s.2.map (·.2) = (xs.drop s.1).reverse) (fun s => s.1) (xs.length, []) (by repeat' (first | exact trivial | refine ⟨rfl, ?_⟩)) ⟨Nat.le_refl _, hw, h0, by simp⟩ ?_
  clear hw
  rintro ⟨r, pre⟩ wr ⟨hr, hw, hj, hp⟩
  replace hr : r ≤ xs.length := hr
  replace hj : J pre wr := hj
  replace hp : pre.map (·.2) = (xs.drop r).reverse := hp
  change CW none 1 [] Tryz.prog _ _ _ [(0, .func (.yield l) #[] #[]), (1, .pointer (some ⟨B, 0, none⟩)), (3, .int .i64 (((r : Nat) : Int) - 1))] wr
  by_cases h1 : r = 0
  · subst h1
    repeat' (first | (refine lw_pure rfl (pv_move rfl) ?_) | (refine lw_pure rfl (pv_assign rfl) ?_) | (refine is_cw ?_; first | (refine cw_seq ?_) | (refine cw_region ?_) | (refine cw_true rfl rfl ?_) | (refine cw_false rfl rfl ?_) | (refine cw_true rfl (by first | assumption | exact decide_eq_true (by omega) | exact dec_notT (by omega)) ?_) | (refine cw_false rfl (by first | assumption | exact decide_eq_false (by omega) | exact dec_notF (by omega)) ?_) | (refine cw_skip ?_) | (refine cw_block ?_) | (refine cw_exit ?_) | (refine cw_ret ?_)) | (refine is_qw ?_; first | (with_reducible refine qw_then ?_) | (with_reducible refine qw_in ?_) | (with_reducible refine qw_in_hit ?_) | (refine qw_in_miss rfl ?_) | (with_reducible refine qw_then_exit ?_) | (with_reducible refine qw_then_ret ?_) | (with_reducible refine qw_in_ret ?_)) | (refine lw_nil ?_) | ((refine is_bin ?_; first | (refine lw_pure rfl (pv_geq rfl rfl) ?_) | (refine lw_pure rfl (pv_sub rfl rfl (by omega)) ?_))) | ((refine is_load ?_; first | (refine lw_pure rfl (pv_load (t1 rfl) rfl (by first | fail)) ?_) | (refine lw_pure rfl (pv_loada (tA rfl) rfl (by first | fail) (by rfl)) ?_))) | ((refine is_ia ?_; first | (refine lw_pure rfl (pv_ian (tS rfl) rfl rfl (by omega)) ?_) | (refine lw_pure rfl (pv_ia (tS rfl) rfl rfl (by omega)) ?_))) | ((refine is_un ?_; first | (refine lw_pure rfl (pv_not rfl) ?_))) | ((refine is_bi ?_; first | (refine lw_pure rfl (pv_lenl (tS rfl) rfl) ?_) | (refine lw_pure rfl (pv_lens (tStr rfl) rfl) ?_))))
    rw [List.drop_zero] at hp
    exact qw_endM0 (qw_end0 rfl ⟨⟨_, rfl⟩, Or.inl ⟨pre, hp, hj⟩⟩)
  · obtain ⟨q, rfl⟩ : ∃ q, r = q + 1 := ⟨r - 1, by omega⟩
    have hlt : q < xs.length := by omega
    have hxk : xs[q]? = some xs[q] := List.getElem?_eq_getElem hlt
    generalize xs[q] = x at hxk
    have hpl : pre.length < xs.length := by
      have := congrArg List.length hp
      simp at this
      omega
    have e1 : (((q + 1 : Nat) : Int) - 1) = (q : Int) := by omega
    rw [e1]
    obtain ⟨ab, ao, rfl, -, -⟩ := HS.at (by intro h; rw [h] at hlt; simp at hlt)
    have hp2 : (pre ++ [((q : Int), x)]).map (·.2) = (xs.drop q).reverse := by
      rw [List.map_append, hp, List.drop_eq_getElem_cons hlt, List.reverse_cons]
      have e2 : xs[q] = x := by rw [List.getElem?_eq_getElem hlt] at hxk; injection hxk
      rw [e2]; rfl
    repeat' ((fail_if_success (refine is_seqr 3 ?_)); first | (refine lw_pure rfl (pv_move rfl) ?_) | (refine lw_pure rfl (pv_assign rfl) ?_) | (refine is_cw ?_; first | (refine cw_seq ?_) | (refine cw_region ?_) | (refine cw_true rfl rfl ?_) | (refine cw_false rfl rfl ?_) | (refine cw_true rfl (by first | assumption | exact decide_eq_true (by omega) | exact dec_notT (by omega)) ?_) | (refine cw_false rfl (by first | assumption | exact decide_eq_false (by omega) | exact dec_notF (by omega)) ?_) | (refine cw_skip ?_) | (refine cw_block ?_) | (refine cw_exit ?_) | (refine cw_ret ?_)) | (refine is_qw ?_; first | (with_reducible refine qw_then ?_) | (with_reducible refine qw_in ?_) | (with_reducible refine qw_in_hit ?_) | (refine qw_in_miss rfl ?_) | (with_reducible refine qw_then_exit ?_) | (with_reducible refine qw_then_ret ?_) | (with_reducible refine qw_in_ret ?_)) | (refine lw_nil ?_) | ((refine is_bin ?_; first | (refine lw_pure rfl (pv_geq rfl rfl) ?_) | (refine lw_pure rfl (pv_sub rfl rfl (by omega)) ?_))) | ((refine is_load ?_; first | (refine lw_pure rfl (pv_load (t1 rfl) rfl (by first | fail)) ?_) | (refine lw_pure rfl (pv_loada (tA rfl) rfl (by first | fail) (by rfl)) ?_))) | ((refine is_ia ?_; first | (refine lw_pure rfl (pv_ian (tS rfl) rfl rfl (by omega)) ?_) | (refine lw_pure rfl (pv_ia (tS rfl) rfl rfl (by omega)) ?_))) | ((refine is_un ?_; first | (refine lw_pure rfl (pv_not rfl) ?_))) | ((refine is_bi ?_; first | (refine lw_pure rfl (pv_lenl (tS rfl) rfl) ?_) | (refine lw_pure rfl (pv_lens (tStr rfl) rfl) ?_))))
    refine cw_seq ?_
    refine cw_regionY ?_
    repeat' (first | (refine ly_pure rfl (pv_move rfl) ?_) | (refine ly_pure rfl (pv_assign rfl) ?_) | (refine ly_pure rfl (pv_geq rfl rfl) ?_) | (refine ly_pure rfl (pv_sub rfl rfl (by omega)) ?_) | (refine ly_pure rfl (pv_not rfl) ?_) | (refine ly_pure rfl (pv_lenl (tS rfl) rfl) ?_) | (refine ly_pure rfl (pv_lens (tStr rfl) rfl) ?_) | (refine ly_pure rfl (pv_ian (tS rfl) rfl rfl (by omega)) ?_) | (refine ly_pure rfl (pv_ia (tS rfl) rfl rfl (by omega)) ?_) | (refine ly_pure rfl (pv_load (t1 rfl) rfl (by first | exact PT.ld0 (HB.mono hw) rfl | exact PT.ld (HB.mono hw) rfl | exact SlR.ld (HS.mono hw) hxk rfl | exact SlR.ld1 (HS.mono hw) hxk rfl)) ?_) | (refine ly_pure rfl (pv_loada (tA rfl) rfl (by first | exact PT.lda (HB.mono hw) | exact SlR.lda (HS.mono hw) hxk) (by rfl)) ?_) | (refine ly_not rfl rfl rfl rfl ?_) | (refine ly_on rfl rfl rfl ?_) | (refine ly_on rfl rfl (by first | assumption | exact decide_eq_true (by omega) | exact decide_eq_false (by omega) | exact dec_notT (by omega) | exact dec_notF (by omega)) ?_) | (refine ly_not rfl rfl rfl (by first | assumption | exact decide_eq_true (by omega) | exact decide_eq_false (by omega) | exact dec_notT (by omega) | exact dec_notF (by omega)) ?_))
    refine ly_yield rfl rfl rfl (hY pre ((q : Int), x) wr hj hpl) ?_
    rintro e W' (⟨rfl, hj2, hk⟩ | ⟨rfl, hjx⟩)
    · refine ⟨_, rfl, ?_⟩
      have hw2 : Below w.heap.size w W' := hw.trans hk
      clear hw
      have hw := hw2
      repeat' (first | (refine ly_pure rfl (pv_move rfl) ?_) | (refine ly_pure rfl (pv_assign rfl) ?_) | (refine ly_pure rfl (pv_geq rfl rfl) ?_) | (refine ly_pure rfl (pv_sub rfl rfl (by omega)) ?_) | (refine ly_pure rfl (pv_not rfl) ?_) | (refine ly_pure rfl (pv_lenl (tS rfl) rfl) ?_) | (refine ly_pure rfl (pv_lens (tStr rfl) rfl) ?_) | (refine ly_pure rfl (pv_ian (tS rfl) rfl rfl (by omega)) ?_) | (refine ly_pure rfl (pv_ia (tS rfl) rfl rfl (by omega)) ?_) | (refine ly_pure rfl (pv_load (t1 rfl) rfl (by first | fail)) ?_) | (refine ly_pure rfl (pv_loada (tA rfl) rfl (by first | fail) (by rfl)) ?_) | (refine ly_not rfl rfl rfl rfl ?_) | (refine ly_on rfl rfl rfl ?_) | (refine ly_on rfl rfl (by first | assumption | exact decide_eq_true (by omega) | exact decide_eq_false (by omega) | exact dec_notT (by omega) | exact dec_notF (by omega)) ?_) | (refine ly_not rfl rfl rfl (by first | assumption | exact decide_eq_true (by omega) | exact decide_eq_false (by omega) | exact dec_notT (by omega) | exact dec_notF (by omega)) ?_))
      refine ly_nil ?_
      repeat' (first | (refine lw_pure rfl (pv_move rfl) ?_) | (refine lw_pure rfl (pv_assign rfl) ?_) | (refine is_cw ?_; first | (refine cw_seq ?_) | (refine cw_region ?_) | (refine cw_true rfl rfl ?_) | (refine cw_false rfl rfl ?_) | (refine cw_true rfl (by first | assumption | exact decide_eq_true (by omega) | exact dec_notT (by omega)) ?_) | (refine cw_false rfl (by first | assumption | exact decide_eq_false (by omega) | exact dec_notF (by omega)) ?_) | (refine cw_skip ?_) | (refine cw_block ?_) | (refine cw_exit ?_) | (refine cw_ret ?_)) | (refine is_qw ?_; first | (with_reducible refine qw_then ?_) | (with_reducible refine qw_in ?_) | (with_reducible refine qw_in_hit ?_) | (refine qw_in_miss rfl ?_) | (with_reducible refine qw_then_exit ?_) | (with_reducible refine qw_then_ret ?_) | (with_reducible refine qw_in_ret ?_)) | (refine lw_nil ?_) | ((refine is_bin ?_; first | (refine lw_pure rfl (pv_geq rfl rfl) ?_) | (refine lw_pure rfl (pv_sub rfl rfl (by omega)) ?_))) | ((refine is_load ?_; first | (refine lw_pure rfl (pv_load (t1 rfl) rfl (by first | fail)) ?_) | (refine lw_pure rfl (pv_loada (tA rfl) rfl (by first | fail) (by rfl)) ?_))) | ((refine is_ia ?_; first | (refine lw_pure rfl (pv_ian (tS rfl) rfl rfl (by omega)) ?_) | (refine lw_pure rfl (pv_ia (tS rfl) rfl rfl (by omega)) ?_))) | ((refine is_un ?_; first | (refine lw_pure rfl (pv_not rfl) ?_))) | ((refine is_bi ?_; first | (refine lw_pure rfl (pv_lenl (tS rfl) rfl) ?_) | (refine lw_pure rfl (pv_lens (tStr rfl) rfl) ?_))))
      exact qw_round (q, pre ++ [((q : Int), x)]) (by repeat' (first | exact trivial | refine ⟨rfl, ?_⟩)) ⟨by show q ≤ _; omega, hw, hj2, hp2⟩ (by show q < q + 1; omega)
    · refine ⟨_, rfl, ?_⟩
      repeat' (first | (refine ly_pure rfl (pv_move rfl) ?_) | (refine ly_pure rfl (pv_assign rfl) ?_) | (refine ly_pure rfl (pv_geq rfl rfl) ?_) | (refine ly_pure rfl (pv_sub rfl rfl (by omega)) ?_) | (refine ly_pure rfl (pv_not rfl) ?_) | (refine ly_pure rfl (pv_lenl (tS rfl) rfl) ?_) | (refine ly_pure rfl (pv_lens (tStr rfl) rfl) ?_) | (refine ly_pure rfl (pv_ian (tS rfl) rfl rfl (by omega)) ?_) | (refine ly_pure rfl (pv_ia (tS rfl) rfl rfl (by omega)) ?_) | (refine ly_pure rfl (pv_load (t1 rfl) rfl (by first | fail)) ?_) | (refine ly_pure rfl (pv_loada (tA rfl) rfl (by first | fail) (by rfl)) ?_) | (refine ly_not rfl rfl rfl rfl ?_) | (refine ly_on rfl rfl rfl ?_) | (refine ly_on rfl rfl (by first | assumption | exact decide_eq_true (by omega) | exact decide_eq_false (by omega) | exact dec_notT (by omega) | exact dec_notF (by omega)) ?_) | (refine ly_not rfl rfl rfl (by first | assumption | exact decide_eq_true (by omega) | exact decide_eq_false (by omega) | exact dec_notT (by omega) | exact dec_notF (by omega)) ?_))
      refine ly_nil ?_
      repeat' (first | (refine lw_pure rfl (pv_move rfl) ?_) | (refine lw_pure rfl (pv_assign rfl) ?_) | (refine is_cw ?_; first | (refine cw_seq ?_) | (refine cw_region ?_) | (refine cw_true rfl rfl ?_) | (refine cw_false rfl rfl ?_) | (refine cw_true rfl (by first | assumption | exact decide_eq_true (by omega) | exact dec_notT (by omega)) ?_) | (refine cw_false rfl (by first | assumption | exact decide_eq_false (by omega) | exact dec_notF (by omega)) ?_) | (refine cw_skip ?_) | (refine cw_block ?_) | (refine cw_exit ?_) | (refine cw_ret ?_)) | (refine is_qw ?_; first | (with_reducible refine qw_then ?_) | (with_reducible refine qw_in ?_) | (with_reducible refine qw_in_hit ?_) | (refine qw_in_miss rfl ?_) | (with_reducible refine qw_then_exit ?_) | (with_reducible refine qw_then_ret ?_) | (with_reducible refine qw_in_ret ?_)) | (refine lw_nil ?_) | ((refine is_bin ?_; first | (refine lw_pure rfl (pv_geq rfl rfl) ?_) | (refine lw_pure rfl (pv_sub rfl rfl (by omega)) ?_))) | ((refine is_load ?_; first | (refine lw_pure rfl (pv_load (t1 rfl) rfl (by first | fail)) ?_) | (refine lw_pure rfl (pv_loada (tA rfl) rfl (by first | fail) (by rfl)) ?_))) | ((refine is_ia ?_; first | (refine lw_pure rfl (pv_ian (tS rfl) rfl rfl (by omega)) ?_) | (refine lw_pure rfl (pv_ia (tS rfl) rfl rfl (by omega)) ?_))) | ((refine is_un ?_; first | (refine lw_pure rfl (pv_not rfl) ?_))) | ((refine is_bi ?_; first | (refine lw_pure rfl (pv_lenl (tS rfl) rfl) ?_) | (refine lw_pure rfl (pv_lens (tStr rfl) rfl) ?_))))
      refine qw_retM0 (qw_ret0 rfl ⟨⟨_, rfl⟩, Or.inr ⟨pre ++ [((q : Int), x)], ⟨(xs.take q).reverse, ?_⟩, hjx⟩⟩)
      rw [hp2, ← List.reverse_append, List.take_append_drop]
end Go.Proofs.YtnffmbfdfhokeaaGreatDoor.R
namespace Go.Proofs.YtnffmbfdfhokeaaGreatDoor.R
open Go.RowKit Go.PlainAid

abbrev encY (x : Int × Int) : List Value := [.int .i64 x.1, .int .i64 x.2]
def notZ (rs : List (Int × Int)) : List (Int × Int) := rs.filter fun r => decide (r.2 ≠ 0)
theorem notZ_snoc (rs : List (Int × Int)) {k : Nat} {x : Int × Int} (h : rs[k]? = some x) : notZ (rs.take (k + 1)) = notZ (rs.take k) ++ (if x.2 ≠ 0 then [x] else []) := by
  unfold notZ
  rw [List.take_add_one, h, List.filter_append]
  congr 1
  by_cases h0 : x.2 = 0 <;> simp [h0]
theorem notZ_pre (rs : List (Int × Int)) (k : Nat) : ∃ r, notZ (rs.take k) ++ r = notZ rs := by
  refine ⟨notZ (rs.drop k), ?_⟩
  unfold notZ
  rw [← List.filter_append, List.take_append_drop]
abbrev Nz := { x : Int × Int // x.2 ≠ 0 ∧ (-9223372036854775808 ≤ x.2 ∧ x.2 ≤ 9223372036854775807) }
def Rall (rs : List (Int × Int)) (ys : List Nz) : Prop := ys.map (·.1) = notZ rs
def Rpre (rs : List (Int × Int)) (ys : List Nz) : Prop := ∃ r, ys.map (·.1) ++ r = notZ rs
set_option maxRecDepth 20000 in
set_option maxHeartbeats 1000000 in
theorem rows_stops {rs : List (Int × Int)} {m A B ca cb : Nat} {a b : Option Addr} {w : World} (hm : rs.length = m) (HA : PT w A 106 [.slice a m ca]) (HB : PT w B 25 [.slice b m cb]) (SA : SlR encI 1 w a ca (rs.map (·.1))) (SB : SlR encI 1 w b cb (rs.map (·.2))) (hin : ∀ r ∈ rs, -9223372036854775808 ≤ r.2 ∧ r.2 ≤ 9223372036854775807) :
    SeqStopsK (fr none) 1 Tryz.prog 58 #[.pointer (some ⟨A, 0, none⟩), .pointer (some ⟨B, 0, none⟩)] (fun x => (encY x.1).toArray) (fun A C => Below w.heap.size A C) (Rall rs) (Rpre rs) rs.length w := by
  subst hm
  have hle := SA.le
  have hmx := SA.max
  have hle2 := SB.le
  have hmx2 := SB.max
  rw [List.length_map] at hle hle2
  intro l J Jx W hW hJ hJx hY h0
  show CallsIn (fr none) 1 Tryz.prog _ [Value.func (.yield l) #[] #[], .pointer (some ⟨A, 0, none⟩), .pointer (some ⟨B, 0, none⟩)].toArray W _
  have hw := hW
  refine R.fn_enter _ 29 Tryz.func58 rfl rfl rfl ?_
  repeat' (first | (refine lw_pure rfl (pv_move rfl) ?_) | (refine lw_pure rfl (pv_assign rfl) ?_) | (refine is_cw ?_; first | (refine cw_seq ?_) | (refine cw_region ?_) | (refine cw_true rfl rfl ?_) | (refine cw_false rfl rfl ?_) | (refine cw_true rfl (by first | assumption | exact decide_eq_true (by omega) | exact dec_notT (by omega)) ?_) | (refine cw_false rfl (by first | assumption | exact decide_eq_false (by omega) | exact dec_notF (by omega)) ?_) | (refine cw_skip ?_) | (refine cw_block ?_) | (refine cw_exit ?_) | (refine cw_ret ?_)) | (refine is_qw ?_; first | (with_reducible refine qw_then ?_) | (with_reducible refine qw_in ?_) | (with_reducible refine qw_in_hit ?_) | (refine qw_in_miss rfl ?_) | (with_reducible refine qw_then_exit ?_) | (with_reducible refine qw_then_ret ?_) | (with_reducible refine qw_in_ret ?_)) | (refine lw_nil ?_) | (refine is_guarded ?_; first | (refine lw_not rfl rfl rfl rfl ?_) | (refine lw_not_u rfl rfl rfl ?_) | (refine lw_on rfl rfl rfl ?_)) | ((refine is_bin ?_; first | (refine lw_pure rfl (pv_lss rfl rfl) ?_) | (refine lw_pure rfl (pv_neq rfl rfl) ?_) | (refine lw_pure rfl (pv_inc rfl rfl (by omega)) ?_) | (refine lw_pure rfl (pv_add rfl rfl (by omega)) ?_))) | ((refine is_load ?_; first | (refine lw_pure rfl (pv_load (t1 rfl) rfl (by first | exact PT.ld0 (HA.mono hw) rfl | exact PT.ld (HA.mono hw) rfl | exact PT.ld0 (HB.mono hw) rfl | exact PT.ld (HB.mono hw) rfl)) ?_) | (refine lw_pure rfl (pv_loada (tA rfl) rfl (by first | exact PT.lda (HA.mono hw) | exact PT.lda (HB.mono hw)) (by rfl)) ?_))) | ((refine is_ia ?_; first | (refine lw_pure rfl (pv_ian (tS rfl) rfl rfl (by omega)) ?_) | (refine lw_pure rfl (pv_ia (tS rfl) rfl rfl (by omega)) ?_))) | ((refine is_un ?_; first | (refine lw_pure rfl (pv_not rfl) ?_))) | ((refine is_bi ?_; first | (refine lw_pure rfl (pv_lenl (tS rfl) rfl) ?_) | (refine lw_pure rfl (pv_lens (tStr rfl) rfl) ?_))) | (refine lw_pure rfl (pv_pick_t rfl rfl rfl) ?_) | (refine lw_pure rfl (pv_pick_f rfl rfl rfl) ?_) | (refine lw_pure rfl (pv_pick_t rfl (by first | assumption | exact decide_eq_true (by omega) | exact dec_notT (by omega)) rfl) ?_) | (refine lw_pure rfl (pv_pick_f rfl (by first | assumption | exact decide_eq_false (by omega) | exact dec_notF (by omega)) rfl) ?_) | (refine lw_pure rfl (pv_pick rfl rfl rfl) ?_))
  refine cw_loop (σ := Nat × List Nz) (fun s => [(0, .func (.yield l) #[] #[]), (1, .pointer (some ⟨A, 0, none⟩)), (2, .pointer (some ⟨B, 0, none⟩)), (6, .slice a rs.length ca), (7, .int .i64 (rs.length : Nat)), (8, .int .i64 (s.1 : Nat))]) (fun s wr => s.1 ≤ rs.length ∧ Below w.heap.size w wr ∧ J s.2 wr ∧ s.2.map (·.1) = notZ (rs.take s.1)) (fun s => rs.length - s.1) (0, []) (by repeat' (first | exact trivial | refine ⟨rfl, ?_⟩)) ⟨Nat.zero_le _, hw, h0, by simp [notZ]⟩ ?_
  clear hw
  rintro ⟨k, pre⟩ wr ⟨hk, hw, hj, hp⟩
  replace hk : k ≤ rs.length := hk
  replace hj : J pre wr := hj
  replace hp : pre.map (·.1) = notZ (rs.take k) := hp
  change CW none 1 [] Tryz.prog _ _ _ [(0, .func (.yield l) #[] #[]), (1, .pointer (some ⟨A, 0, none⟩)), (2, .pointer (some ⟨B, 0, none⟩)), (6, .slice a rs.length ca), (7, .int .i64 (rs.length : Nat)), (8, .int .i64 (k : Nat))] wr
  by_cases hlt : k < rs.length
  · have hxk : rs[k]? = some rs[k] := List.getElem?_eq_getElem hlt
    have hxi := hin _ (List.getElem_mem hlt)
    generalize rs[k] = x at hxk hxi
    have hx1 : (rs.map (·.1))[k]? = some x.1 := by rw [List.getElem?_map, hxk]; rfl
    have hx2 : (rs.map (·.2))[k]? = some x.2 := by rw [List.getElem?_map, hxk]; rfl
    have hpl : pre.length < rs.length := by
      have h1 : (notZ (rs.take k)).length ≤ (rs.take k).length := List.length_filter_le _ _
      rw [List.length_take] at h1
      have h2 := congrArg List.length hp
      rw [List.length_map] at h2
      omega
    obtain ⟨ab, ao, rfl, -, -⟩ := SA.at (by intro h; rw [h] at hx1; simp at hx1)
    obtain ⟨bb, bo, rfl, -, -⟩ := SB.at (by intro h; rw [h] at hx2; simp at hx2)
    have hp2 := notZ_snoc rs hxk
    rw [← hp] at hp2
    repeat' ((fail_if_success (refine is_seqr 3 ?_)); first | (refine lw_pure rfl (pv_move rfl) ?_) | (refine lw_pure rfl (pv_assign rfl) ?_) | (refine is_cw ?_; first | (refine cw_seq ?_) | (refine cw_region ?_) | (refine cw_true rfl rfl ?_) | (refine cw_false rfl rfl ?_) | (refine cw_true rfl (by first | assumption | exact decide_eq_true (by omega) | exact dec_notT (by omega)) ?_) | (refine cw_false rfl (by first | assumption | exact decide_eq_false (by omega) | exact dec_notF (by omega)) ?_) | (refine cw_skip ?_) | (refine cw_block ?_) | (refine cw_exit ?_) | (refine cw_ret ?_)) | (refine is_qw ?_; first | (with_reducible refine qw_then ?_) | (with_reducible refine qw_in ?_) | (with_reducible refine qw_in_hit ?_) | (refine qw_in_miss rfl ?_) | (with_reducible refine qw_then_exit ?_) | (with_reducible refine qw_then_ret ?_) | (with_reducible refine qw_in_ret ?_)) | (refine lw_nil ?_) | (refine is_guarded ?_; first | (refine lw_not rfl rfl rfl rfl ?_) | (refine lw_not_u rfl rfl rfl ?_) | (refine lw_on rfl rfl rfl ?_)) | ((refine is_bin ?_; first | (refine lw_pure rfl (pv_lss rfl rfl) ?_) | (refine lw_pure rfl (pv_neq rfl rfl) ?_) | (refine lw_pure rfl (pv_inc rfl rfl (by omega)) ?_) | (refine lw_pure rfl (pv_add rfl rfl (by omega)) ?_))) | ((refine is_load ?_; first | (refine lw_pure rfl (pv_load (t1 rfl) rfl (by first | exact SlR.ld (SA.mono hw) hx1 rfl | exact SlR.ld1 (SA.mono hw) hx1 rfl)) ?_) | (refine lw_pure rfl (pv_loada (tA rfl) rfl (by first | exact SlR.lda (SA.mono hw) hx1) (by rfl)) ?_))) | ((refine is_ia ?_; first | (refine lw_pure rfl (pv_ian (tS rfl) rfl rfl (by omega)) ?_) | (refine lw_pure rfl (pv_ia (tS rfl) rfl rfl (by omega)) ?_))) | ((refine is_un ?_; first | (refine lw_pure rfl (pv_not rfl) ?_))) | ((refine is_bi ?_; first | (refine lw_pure rfl (pv_lenl (tS rfl) rfl) ?_) | (refine lw_pure rfl (pv_lens (tStr rfl) rfl) ?_))) | (refine lw_pure rfl (pv_pick_t rfl rfl rfl) ?_) | (refine lw_pure rfl (pv_pick_f rfl rfl rfl) ?_) | (refine lw_pure rfl (pv_pick_t rfl (by first | assumption | exact decide_eq_true (by omega) | exact dec_notT (by omega)) rfl) ?_) | (refine lw_pure rfl (pv_pick_f rfl (by first | assumption | exact decide_eq_false (by omega) | exact dec_notF (by omega)) rfl) ?_) | (refine lw_pure rfl (pv_pick rfl rfl rfl) ?_))
    refine cw_seq ?_
    refine cw_regionY ?_
    by_cases h2 : x.2 = 0
    · rw [if_neg (by simp [h2]), List.append_nil] at hp2
      repeat' (first | (refine ly_pure rfl (pv_move rfl) ?_) | (refine ly_pure rfl (pv_assign rfl) ?_) | (refine ly_pure rfl (pv_pick_t rfl rfl rfl) ?_) | (refine ly_pure rfl (pv_pick_f rfl rfl rfl) ?_) | (refine ly_pure rfl (pv_pick_t rfl (by first | assumption | exact decide_eq_true (by omega) | exact dec_notT (by omega)) rfl) ?_) | (refine ly_pure rfl (pv_pick_f rfl (by first | assumption | exact decide_eq_false (by omega) | exact dec_notF (by omega)) rfl) ?_) | (refine ly_pure rfl (pv_pick rfl rfl rfl) ?_) | (refine ly_pure rfl (pv_lss rfl rfl) ?_) | (refine ly_pure rfl (pv_neq rfl rfl) ?_) | (refine ly_pure rfl (pv_inc rfl rfl (by omega)) ?_) | (refine ly_pure rfl (pv_add rfl rfl (by omega)) ?_) | (refine ly_pure rfl (pv_not rfl) ?_) | (refine ly_pure rfl (pv_lenl (tS rfl) rfl) ?_) | (refine ly_pure rfl (pv_lens (tStr rfl) rfl) ?_) | (refine ly_pure rfl (pv_ian (tS rfl) rfl rfl (by omega)) ?_) | (refine ly_pure rfl (pv_ia (tS rfl) rfl rfl (by omega)) ?_) | (refine ly_pure rfl (pv_load (t1 rfl) rfl (by first | exact PT.ld0 (HB.mono hw) rfl | exact PT.ld (HB.mono hw) rfl | exact SlR.ld (SB.mono hw) hx2 rfl | exact SlR.ld1 (SB.mono hw) hx2 rfl)) ?_) | (refine ly_pure rfl (pv_loada (tA rfl) rfl (by first | exact PT.lda (HB.mono hw) | exact SlR.lda (SB.mono hw) hx2) (by rfl)) ?_) | (refine ly_not rfl rfl rfl rfl ?_) | (refine ly_on rfl rfl rfl ?_) | (refine ly_on rfl rfl (by first | assumption | exact decide_eq_true (by omega) | exact decide_eq_false (by omega) | exact dec_notT (by omega) | exact dec_notF (by omega)) ?_) | (refine ly_not rfl rfl rfl (by first | assumption | exact decide_eq_true (by omega) | exact decide_eq_false (by omega) | exact dec_notT (by omega) | exact dec_notF (by omega)) ?_))
      refine ly_nil ?_
      repeat' (first | (refine lw_pure rfl (pv_move rfl) ?_) | (refine lw_pure rfl (pv_assign rfl) ?_) | (refine is_cw ?_; first | (refine cw_seq ?_) | (refine cw_region ?_) | (refine cw_true rfl rfl ?_) | (refine cw_false rfl rfl ?_) | (refine cw_true rfl (by first | assumption | exact decide_eq_true (by omega) | exact dec_notT (by omega)) ?_) | (refine cw_false rfl (by first | assumption | exact decide_eq_false (by omega) | exact dec_notF (by omega)) ?_) | (refine cw_skip ?_) | (refine cw_block ?_) | (refine cw_exit ?_) | (refine cw_ret ?_)) | (refine is_qw ?_; first | (with_reducible refine qw_then ?_) | (with_reducible refine qw_in ?_) | (with_reducible refine qw_in_hit ?_) | (refine qw_in_miss rfl ?_) | (with_reducible refine qw_then_exit ?_) | (with_reducible refine qw_then_ret ?_) | (with_reducible refine qw_in_ret ?_)) | (refine lw_nil ?_) | (refine is_guarded ?_; first | (refine lw_not rfl rfl rfl rfl ?_) | (refine lw_not_u rfl rfl rfl ?_) | (refine lw_on rfl rfl rfl ?_)) | ((refine is_bin ?_; first | (refine lw_pure rfl (pv_lss rfl rfl) ?_) | (refine lw_pure rfl (pv_neq rfl rfl) ?_) | (refine lw_pure rfl (pv_inc rfl rfl (by omega)) ?_) | (refine lw_pure rfl (pv_add rfl rfl (by omega)) ?_))) | ((refine is_load ?_; first | (refine lw_pure rfl (pv_load (t1 rfl) rfl (by first | fail)) ?_) | (refine lw_pure rfl (pv_loada (tA rfl) rfl (by first | fail) (by rfl)) ?_))) | ((refine is_ia ?_; first | (refine lw_pure rfl (pv_ian (tS rfl) rfl rfl (by omega)) ?_) | (refine lw_pure rfl (pv_ia (tS rfl) rfl rfl (by omega)) ?_))) | ((refine is_un ?_; first | (refine lw_pure rfl (pv_not rfl) ?_))) | ((refine is_bi ?_; first | (refine lw_pure rfl (pv_lenl (tS rfl) rfl) ?_) | (refine lw_pure rfl (pv_lens (tStr rfl) rfl) ?_))) | (refine lw_pure rfl (pv_pick_t rfl rfl rfl) ?_) | (refine lw_pure rfl (pv_pick_f rfl rfl rfl) ?_) | (refine lw_pure rfl (pv_pick_t rfl (by first | assumption | exact decide_eq_true (by omega) | exact dec_notT (by omega)) rfl) ?_) | (refine lw_pure rfl (pv_pick_f rfl (by first | assumption | exact decide_eq_false (by omega) | exact dec_notF (by omega)) rfl) ?_) | (refine lw_pure rfl (pv_pick rfl rfl rfl) ?_))
      exact qw_round (k + 1, pre) (by repeat' (first | exact trivial | refine ⟨rfl, ?_⟩)) ⟨by show k + 1 ≤ _; omega, hw, hj, hp2.symm⟩ (by show rs.length - (k + 1) < rs.length - k; omega)
    · rw [if_pos h2] at hp2
      have h2n : decide (x.2 = 0) = false := decide_eq_false h2
      repeat' (first | (refine ly_pure rfl (pv_move rfl) ?_) | (refine ly_pure rfl (pv_assign rfl) ?_) | (refine ly_pure rfl (pv_pick_t rfl rfl rfl) ?_) | (refine ly_pure rfl (pv_pick_f rfl rfl rfl) ?_) | (refine ly_pure rfl (pv_pick_t rfl (by first | assumption | exact decide_eq_true (by omega) | exact dec_notT (by omega)) rfl) ?_) | (refine ly_pure rfl (pv_pick_f rfl (by first | assumption | exact decide_eq_false (by omega) | exact dec_notF (by omega)) rfl) ?_) | (refine ly_pure rfl (pv_pick rfl rfl rfl) ?_) | (refine ly_pure rfl (pv_lss rfl rfl) ?_) | (refine ly_pure rfl (pv_neq rfl rfl) ?_) | (refine ly_pure rfl (pv_inc rfl rfl (by omega)) ?_) | (refine ly_pure rfl (pv_add rfl rfl (by omega)) ?_) | (refine ly_pure rfl (pv_not rfl) ?_) | (refine ly_pure rfl (pv_lenl (tS rfl) rfl) ?_) | (refine ly_pure rfl (pv_lens (tStr rfl) rfl) ?_) | (refine ly_pure rfl (pv_ian (tS rfl) rfl rfl (by omega)) ?_) | (refine ly_pure rfl (pv_ia (tS rfl) rfl rfl (by omega)) ?_) | (refine ly_pure rfl (pv_load (t1 rfl) rfl (by first | exact PT.ld0 (HB.mono hw) rfl | exact PT.ld (HB.mono hw) rfl | exact SlR.ld (SB.mono hw) hx2 rfl | exact SlR.ld1 (SB.mono hw) hx2 rfl)) ?_) | (refine ly_pure rfl (pv_loada (tA rfl) rfl (by first | exact PT.lda (HB.mono hw) | exact SlR.lda (SB.mono hw) hx2) (by rfl)) ?_) | (refine ly_not rfl rfl rfl rfl ?_) | (refine ly_on rfl rfl rfl ?_) | (refine ly_on rfl rfl (by first | assumption | exact decide_eq_true (by omega) | exact decide_eq_false (by omega) | exact dec_notT (by omega) | exact dec_notF (by omega)) ?_) | (refine ly_not rfl rfl rfl (by first | assumption | exact decide_eq_true (by omega) | exact decide_eq_false (by omega) | exact dec_notT (by omega) | exact dec_notF (by omega)) ?_))
      refine ly_yield rfl rfl rfl (hY pre ⟨x, h2, hxi⟩ wr hj hpl) ?_
      rintro e W' (⟨rfl, hj2, hk2⟩ | ⟨rfl, hjx⟩)
      · refine ⟨_, rfl, ?_⟩
        have hw2 : Below w.heap.size w W' := hw.trans hk2
        clear hw
        have hw := hw2
        repeat' (first | (refine ly_pure rfl (pv_move rfl) ?_) | (refine ly_pure rfl (pv_assign rfl) ?_) | (refine ly_pure rfl (pv_pick_t rfl rfl rfl) ?_) | (refine ly_pure rfl (pv_pick_f rfl rfl rfl) ?_) | (refine ly_pure rfl (pv_pick_t rfl (by first | assumption | exact decide_eq_true (by omega) | exact dec_notT (by omega)) rfl) ?_) | (refine ly_pure rfl (pv_pick_f rfl (by first | assumption | exact decide_eq_false (by omega) | exact dec_notF (by omega)) rfl) ?_) | (refine ly_pure rfl (pv_pick rfl rfl rfl) ?_) | (refine ly_pure rfl (pv_lss rfl rfl) ?_) | (refine ly_pure rfl (pv_neq rfl rfl) ?_) | (refine ly_pure rfl (pv_inc rfl rfl (by omega)) ?_) | (refine ly_pure rfl (pv_add rfl rfl (by omega)) ?_) | (refine ly_pure rfl (pv_not rfl) ?_) | (refine ly_pure rfl (pv_lenl (tS rfl) rfl) ?_) | (refine ly_pure rfl (pv_lens (tStr rfl) rfl) ?_) | (refine ly_pure rfl (pv_ian (tS rfl) rfl rfl (by omega)) ?_) | (refine ly_pure rfl (pv_ia (tS rfl) rfl rfl (by omega)) ?_) | (refine ly_pure rfl (pv_load (t1 rfl) rfl (by first | fail)) ?_) | (refine ly_pure rfl (pv_loada (tA rfl) rfl (by first | fail) (by rfl)) ?_) | (refine ly_not rfl rfl rfl rfl ?_) | (refine ly_on rfl rfl rfl ?_) | (refine ly_on rfl rfl (by first | assumption | exact decide_eq_true (by omega) | exact decide_eq_false (by omega) | exact dec_notT (by omega) | exact dec_notF (by omega)) ?_) | (refine ly_not rfl rfl rfl (by first | assumption | exact decide_eq_true (by omega) | exact decide_eq_false (by omega) | exact dec_notT (by omega) | exact dec_notF (by omega)) ?_))
        refine ly_nil ?_
        repeat' (first | (refine lw_pure rfl (pv_move rfl) ?_) | (refine lw_pure rfl (pv_assign rfl) ?_) | (refine is_cw ?_; first | (refine cw_seq ?_) | (refine cw_region ?_) | (refine cw_true rfl rfl ?_) | (refine cw_false rfl rfl ?_) | (refine cw_true rfl (by first | assumption | exact decide_eq_true (by omega) | exact dec_notT (by omega)) ?_) | (refine cw_false rfl (by first | assumption | exact decide_eq_false (by omega) | exact dec_notF (by omega)) ?_) | (refine cw_skip ?_) | (refine cw_block ?_) | (refine cw_exit ?_) | (refine cw_ret ?_)) | (refine is_qw ?_; first | (with_reducible refine qw_then ?_) | (with_reducible refine qw_in ?_) | (with_reducible refine qw_in_hit ?_) | (refine qw_in_miss rfl ?_) | (with_reducible refine qw_then_exit ?_) | (with_reducible refine qw_then_ret ?_) | (with_reducible refine qw_in_ret ?_)) | (refine lw_nil ?_) | (refine is_guarded ?_; first | (refine lw_not rfl rfl rfl rfl ?_) | (refine lw_not_u rfl rfl rfl ?_) | (refine lw_on rfl rfl rfl ?_)) | ((refine is_bin ?_; first | (refine lw_pure rfl (pv_lss rfl rfl) ?_) | (refine lw_pure rfl (pv_neq rfl rfl) ?_) | (refine lw_pure rfl (pv_inc rfl rfl (by omega)) ?_) | (refine lw_pure rfl (pv_add rfl rfl (by omega)) ?_))) | ((refine is_load ?_; first | (refine lw_pure rfl (pv_load (t1 rfl) rfl (by first | fail)) ?_) | (refine lw_pure rfl (pv_loada (tA rfl) rfl (by first | fail) (by rfl)) ?_))) | ((refine is_ia ?_; first | (refine lw_pure rfl (pv_ian (tS rfl) rfl rfl (by omega)) ?_) | (refine lw_pure rfl (pv_ia (tS rfl) rfl rfl (by omega)) ?_))) | ((refine is_un ?_; first | (refine lw_pure rfl (pv_not rfl) ?_))) | ((refine is_bi ?_; first | (refine lw_pure rfl (pv_lenl (tS rfl) rfl) ?_) | (refine lw_pure rfl (pv_lens (tStr rfl) rfl) ?_))) | (refine lw_pure rfl (pv_pick_t rfl rfl rfl) ?_) | (refine lw_pure rfl (pv_pick_f rfl rfl rfl) ?_) | (refine lw_pure rfl (pv_pick_t rfl (by first | assumption | exact decide_eq_true (by omega) | exact dec_notT (by omega)) rfl) ?_) | (refine lw_pure rfl (pv_pick_f rfl (by first | assumption | exact decide_eq_false (by omega) | exact dec_notF (by omega)) rfl) ?_) | (refine lw_pure rfl (pv_pick rfl rfl rfl) ?_))
        exact qw_round (k + 1, pre ++ [⟨x, h2, hxi⟩]) (by repeat' (first | exact trivial | refine ⟨rfl, ?_⟩)) ⟨by show k + 1 ≤ _; omega, hw, hj2, by rw [List.map_append]; exact hp2.symm⟩ (by show rs.length - (k + 1) < rs.length - k; omega)
      · refine ⟨_, rfl, ?_⟩
        repeat' (first | (refine ly_pure rfl (pv_move rfl) ?_) | (refine ly_pure rfl (pv_assign rfl) ?_) | (refine ly_pure rfl (pv_pick_t rfl rfl rfl) ?_) | (refine ly_pure rfl (pv_pick_f rfl rfl rfl) ?_) | (refine ly_pure rfl (pv_pick_t rfl (by first | assumption | exact decide_eq_true (by omega) | exact dec_notT (by omega)) rfl) ?_) | (refine ly_pure rfl (pv_pick_f rfl (by first | assumption | exact decide_eq_false (by omega) | exact dec_notF (by omega)) rfl) ?_) | (refine ly_pure rfl (pv_pick rfl rfl rfl) ?_) | (refine ly_pure rfl (pv_lss rfl rfl) ?_) | (refine ly_pure rfl (pv_neq rfl rfl) ?_) | (refine ly_pure rfl (pv_inc rfl rfl (by omega)) ?_) | (refine ly_pure rfl (pv_add rfl rfl (by omega)) ?_) | (refine ly_pure rfl (pv_not rfl) ?_) | (refine ly_pure rfl (pv_lenl (tS rfl) rfl) ?_) | (refine ly_pure rfl (pv_lens (tStr rfl) rfl) ?_) | (refine ly_pure rfl (pv_ian (tS rfl) rfl rfl (by omega)) ?_) | (refine ly_pure rfl (pv_ia (tS rfl) rfl rfl (by omega)) ?_) | (refine ly_pure rfl (pv_load (t1 rfl) rfl (by first | fail)) ?_) | (refine ly_pure rfl (pv_loada (tA rfl) rfl (by first | fail) (by rfl)) ?_) | (refine ly_not rfl rfl rfl rfl ?_) | (refine ly_on rfl rfl rfl ?_) | (refine ly_on rfl rfl (by first | assumption | exact decide_eq_true (by omega) | exact decide_eq_false (by omega) | exact dec_notT (by omega) | exact dec_notF (by omega)) ?_) | (refine ly_not rfl rfl rfl (by first | assumption | exact decide_eq_true (by omega) | exact decide_eq_false (by omega) | exact dec_notT (by omega) | exact dec_notF (by omega)) ?_))
        refine ly_nil ?_
        repeat' (first | (refine lw_pure rfl (pv_move rfl) ?_) | (refine lw_pure rfl (pv_assign rfl) ?_) | (refine is_cw ?_; first | (refine cw_seq ?_) | (refine cw_region ?_) | (refine cw_true rfl rfl ?_) | (refine cw_false rfl rfl ?_) | (refine cw_true rfl (by first | assumption | exact decide_eq_true (by omega) | exact dec_notT (by omega)) ?_) | (refine cw_false rfl (by first | assumption | exact decide_eq_false (by omega) | exact dec_notF (by omega)) ?_) | (refine cw_skip ?_) | (refine cw_block ?_) | (refine cw_exit ?_) | (refine cw_ret ?_)) | (refine is_qw ?_; first | (with_reducible refine qw_then ?_) | (with_reducible refine qw_in ?_) | (with_reducible refine qw_in_hit ?_) | (refine qw_in_miss rfl ?_) | (with_reducible refine qw_then_exit ?_) | (with_reducible refine qw_then_ret ?_) | (with_reducible refine qw_in_ret ?_)) | (refine lw_nil ?_) | (refine is_guarded ?_; first | (refine lw_not rfl rfl rfl rfl ?_) | (refine lw_not_u rfl rfl rfl ?_) | (refine lw_on rfl rfl rfl ?_)) | ((refine is_bin ?_; first | (refine lw_pure rfl (pv_lss rfl rfl) ?_) | (refine lw_pure rfl (pv_neq rfl rfl) ?_) | (refine lw_pure rfl (pv_inc rfl rfl (by omega)) ?_) | (refine lw_pure rfl (pv_add rfl rfl (by omega)) ?_))) | ((refine is_load ?_; first | (refine lw_pure rfl (pv_load (t1 rfl) rfl (by first | fail)) ?_) | (refine lw_pure rfl (pv_loada (tA rfl) rfl (by first | fail) (by rfl)) ?_))) | ((refine is_ia ?_; first | (refine lw_pure rfl (pv_ian (tS rfl) rfl rfl (by omega)) ?_) | (refine lw_pure rfl (pv_ia (tS rfl) rfl rfl (by omega)) ?_))) | ((refine is_un ?_; first | (refine lw_pure rfl (pv_not rfl) ?_))) | ((refine is_bi ?_; first | (refine lw_pure rfl (pv_lenl (tS rfl) rfl) ?_) | (refine lw_pure rfl (pv_lens (tStr rfl) rfl) ?_))) | (refine lw_pure rfl (pv_pick_t rfl rfl rfl) ?_) | (refine lw_pure rfl (pv_pick_f rfl rfl rfl) ?_) | (refine lw_pure rfl (pv_pick_t rfl (by first | assumption | exact decide_eq_true (by omega) | exact dec_notT (by omega)) rfl) ?_) | (refine lw_pure rfl (pv_pick_f rfl (by first | assumption | exact decide_eq_false (by omega) | exact dec_notF (by omega)) rfl) ?_) | (refine lw_pure rfl (pv_pick rfl rfl rfl) ?_))
        refine qw_retM0 (qw_ret0 rfl ⟨⟨_, rfl⟩, Or.inr ⟨pre ++ [⟨x, h2, hxi⟩], ?_, hjx⟩⟩)
        have e9 : (pre ++ [(⟨x, h2, hxi⟩ : Nz)]).map (fun q : Nz => q.1) = pre.map (fun q : Nz => q.1) ++ [x] := by rw [List.map_append]; rfl
        show ∃ r, (pre ++ [(⟨x, h2, hxi⟩ : Nz)]).map (fun q : Nz => q.1) ++ r = notZ rs
        rw [e9]
        rw [← hp2]
        exact notZ_pre rs (k + 1)
  · have hkl : k = rs.length := by omega
    subst hkl
    rw [List.take_length] at hp
    repeat' (first | (refine lw_pure rfl (pv_move rfl) ?_) | (refine lw_pure rfl (pv_assign rfl) ?_) | (refine is_cw ?_; first | (refine cw_seq ?_) | (refine cw_region ?_) | (refine cw_true rfl rfl ?_) | (refine cw_false rfl rfl ?_) | (refine cw_true rfl (by first | assumption | exact decide_eq_true (by omega) | exact dec_notT (by omega)) ?_) | (refine cw_false rfl (by first | assumption | exact decide_eq_false (by omega) | exact dec_notF (by omega)) ?_) | (refine cw_skip ?_) | (refine cw_block ?_) | (refine cw_exit ?_) | (refine cw_ret ?_)) | (refine is_qw ?_; first | (with_reducible refine qw_then ?_) | (with_reducible refine qw_in ?_) | (with_reducible refine qw_in_hit ?_) | (refine qw_in_miss rfl ?_) | (with_reducible refine qw_then_exit ?_) | (with_reducible refine qw_then_ret ?_) | (with_reducible refine qw_in_ret ?_)) | (refine lw_nil ?_) | (refine is_guarded ?_; first | (refine lw_not rfl rfl rfl rfl ?_) | (refine lw_not_u rfl rfl rfl ?_) | (refine lw_on rfl rfl rfl ?_)) | ((refine is_bin ?_; first | (refine lw_pure rfl (pv_lss rfl rfl) ?_) | (refine lw_pure rfl (pv_neq rfl rfl) ?_) | (refine lw_pure rfl (pv_inc rfl rfl (by omega)) ?_) | (refine lw_pure rfl (pv_add rfl rfl (by omega)) ?_))) | ((refine is_load ?_; first | (refine lw_pure rfl (pv_load (t1 rfl) rfl (by first | fail)) ?_) | (refine lw_pure rfl (pv_loada (tA rfl) rfl (by first | fail) (by rfl)) ?_))) | ((refine is_ia ?_; first | (refine lw_pure rfl (pv_ian (tS rfl) rfl rfl (by omega)) ?_) | (refine lw_pure rfl (pv_ia (tS rfl) rfl rfl (by omega)) ?_))) | ((refine is_un ?_; first | (refine lw_pure rfl (pv_not rfl) ?_))) | ((refine is_bi ?_; first | (refine lw_pure rfl (pv_lenl (tS rfl) rfl) ?_) | (refine lw_pure rfl (pv_lens (tStr rfl) rfl) ?_))) | (refine lw_pure rfl (pv_pick_t rfl rfl rfl) ?_) | (refine lw_pure rfl (pv_pick_f rfl rfl rfl) ?_) | (refine lw_pure rfl (pv_pick_t rfl (by first | assumption | exact decide_eq_true (by omega) | exact dec_notT (by omega)) rfl) ?_) | (refine lw_pure rfl (pv_pick_f rfl (by first | assumption | exact decide_eq_false (by omega) | exact dec_notF (by omega)) rfl) ?_) | (refine lw_pure rfl (pv_pick rfl rfl rfl) ?_))
    exact qw_endM0 (qw_end0 rfl ⟨⟨_, rfl⟩, Or.inl ⟨pre, hp, hj⟩⟩)
end Go.Proofs.YtnffmbfdfhokeaaGreatDoor.R
namespace Go.Proofs.YtnffmbfdfhokeaaGreatDoor
open Go.RowKit Go.PlainAid

theorem lfld6 : fieldsR 3 6 = some ({ data := #[97, 109] }, false) := by kernel_rfl
theorem lfld7 : fieldsR 3 7 = some ({ data := #[97, 109] }, false) := by kernel_rfl
theorem lfld21 : fieldsR 3 21 = some ({ data := #[97, 97, 109] }, false) := by kernel_rfl
theorem lfld13 : fieldsR 3 13 = some ({ data := #[111, 111, 112, 113, 122] }, false) := by kernel_rfl
theorem lfld18 : fieldsR 3 18 = some ({ data := #[99, 97, 109, 122] }, false) := by kernel_rfl
theorem lnums6 {e : Evt} (h : mayE e = true) (hv : e.v = 3) (hk : e.kind = 6 ∨ e.kind = 7) : ∃ n0 n1, e.nums = [n0, n1] ∧ (1 ≤ n0 ∧ n0 ≤ 64) ∧ (1 ≤ n1 ∧ n1 ≤ 1125899906842624) := by
  have h1 : allR 3 [97, 109] e.nums = true := by
    rcases hk with hk | hk
    · exact (may_nums h hv hk lfld6).1
    · exact (may_nums h hv hk lfld7).1
  obtain ⟨n0, r0, e0, f0, h1⟩ := all_cons h1
  obtain ⟨n1, r1, rfl, f1, h1⟩ := all_cons h1
  have h2 := all_nil h1; subst h2
  exact ⟨n0, n1, e0, fits_lo f0 bnd_a, fits_lo f1 bnd_m⟩
theorem lnums21 {e : Evt} (h : mayE e = true) (hv : e.v = 3) (hk : e.kind = 21) : ∃ n0 n1 n2, e.nums = [n0, n1, n2] ∧ (1 ≤ n0 ∧ n0 ≤ 64) ∧ (1 ≤ n1 ∧ n1 ≤ 64) ∧ (1 ≤ n2 ∧ n2 ≤ 1125899906842624) := by
  have h1 : allR 3 [97, 97, 109] e.nums = true := (may_nums h hv hk lfld21).1
  obtain ⟨n0, r0, e0, f0, h1⟩ := all_cons h1
  obtain ⟨n1, r1, rfl, f1, h1⟩ := all_cons h1
  obtain ⟨n2, r2, rfl, f2, h1⟩ := all_cons h1
  have h2 := all_nil h1; subst h2
  exact ⟨n0, n1, n2, e0, fits_lo f0 bnd_a, fits_lo f1 bnd_a, fits_lo f2 bnd_m⟩
theorem lnums13 {e : Evt} (h : mayE e = true) (hv : e.v = 3) (hk : e.kind = 13) : ∃ n0 n1 n2 n3 n4, e.nums = [n0, n1, n2, n3, n4] ∧ (1 ≤ n2 ∧ n2 ≤ 1073741824) ∧ (1 ≤ n3 ∧ n3 ≤ 1048576) ∧ (0 ≤ n4 ∧ n4 ≤ 1125899906842624) := by
  have h1 : allR 3 [111, 111, 112, 113, 122] e.nums = true := (may_nums h hv hk lfld13).1
  obtain ⟨n0, r0, e0, f0, h1⟩ := all_cons h1
  obtain ⟨n1, r1, rfl, f1, h1⟩ := all_cons h1
  obtain ⟨n2, r2, rfl, f2, h1⟩ := all_cons h1
  obtain ⟨n3, r3, rfl, f3, h1⟩ := all_cons h1
  obtain ⟨n4, r4, rfl, f4, h1⟩ := all_cons h1
  have h2 := all_nil h1; subst h2
  exact ⟨n0, n1, n2, n3, n4, e0, fits_lo f2 bnd_p, fits_lo f3 bnd_q, fits_lo f4 bnd_z⟩
theorem lnums18 {e : Evt} (h : mayE e = true) (hv : e.v = 3) (hk : e.kind = 18) : ∃ n0 n1 n2 n3, e.nums = [n0, n1, n2, n3] ∧ (1 ≤ n1 ∧ n1 ≤ 64) ∧ (1 ≤ n2 ∧ n2 ≤ 1125899906842624) ∧ (0 ≤ n3 ∧ n3 ≤ 1125899906842624) := by
  have h1 : allR 3 [99, 97, 109, 122] e.nums = true := (may_nums h hv hk lfld18).1
  obtain ⟨n0, r0, e0, f0, h1⟩ := all_cons h1
  obtain ⟨n1, r1, rfl, f1, h1⟩ := all_cons h1
  obtain ⟨n2, r2, rfl, f2, h1⟩ := all_cons h1
  obtain ⟨n3, r3, rfl, f3, h1⟩ := all_cons h1
  have h2 := all_nil h1; subst h2
  exact ⟨n0, n1, n2, n3, e0, fits_lo f1 bnd_a, fits_lo f2 bnd_m, fits_lo f3 bnd_z⟩
theorem mul_in {a b : Int} (ha : 1 ≤ a ∧ a ≤ 1073741824) (hb : 1 ≤ b ∧ b ≤ 1048576) : 0 ≤ a * b ∧ a * b ≤ 1125899906842624 :=
  ⟨Int.mul_nonneg (by omega) (by omega), Int.le_trans (Int.mul_le_mul ha.2 hb.2 (by omega) (by omega)) (by omega)⟩
theorem elemA : ElemT Tryz.prog 106 3 1 8 := elem_of Tryz.underlying106 (by kernel_rfl) (by omega)
theorem elemB6 : ElemT Tryz.prog 25 2 1 8 := elem_of Tryz.underlying25 (by kernel_rfl) (by omega)
def RowF (w : World) (F : Value) (rs : List (Int × Int)) : Prop := ∃ A B a ca b cb, F = .func (.func 58) #[] #[.pointer (some ⟨A, 0, none⟩), .pointer (some ⟨B, 0, none⟩)] ∧ PT w A 106 [.slice a rs.length ca] ∧ PT w B 25 [.slice b rs.length cb] ∧ SlR encI 1 w a ca (rs.map (·.1)) ∧ SlR encI 1 w b cb (rs.map (·.2))
set_option maxRecDepth 20000 in
theorem row_c {rs : List (Int × Int)} {m ca cb : Nat} {a b : Option Addr} {w : World} (hm : rs.length = m) (SA : SlR encI 1 w a ca (rs.map (·.1))) (SB : SlR encI 1 w b cb (rs.map (·.2))) : Calls Tryz.prog 57 #[.slice a m ca, .slice b m cb] w fun e w' => (∃ F, e = .returned F ∧ RowF w' F rs) ∧ Below w.heap.size w w' := by
  subst hm
  have hw := Below.refl w.heap.size w
  refine fn_enter 6 Tryz.func57 rfl rfl rfl ?_
  refine cw_seq (cw_region ?_)
  refine lw_boxN rfl rfl (cs := [.slice a rs.length ca]) rfl ?_; intro A w1 hA HA hb; replace hw := grow_trans hw hb; clear hb
  refine lw_boxN rfl rfl (cs := [.slice b rs.length cb]) rfl ?_; intro B w2 hB HB hb; replace hw := grow_trans hw hb; replace HA := HA.mono hb; clear hb
  repeat' (first | (refine lw_pure rfl (pv_assign rfl) ?_) | (refine is_cw ?_; first | (refine cw_seq ?_) | (refine cw_region ?_) | (refine cw_ret ?_)) | (refine is_qw ?_; first | (with_reducible refine qw_then ?_)) | (refine lw_nil ?_) | (refine lw_pure rfl (pv_makeFunc rfl rfl) ?_))
  exact qw_ret1 rfl rfl ⟨⟨_, rfl, A, B, a, ca, b, cb, rfl, HA, HB, SA.mono hw, SB.mono hw⟩, hw⟩
set_option maxRecDepth 20000 in
set_option maxHeartbeats 4000000 in
theorem deltas6_c {p : List Opn} {t : List Lt} {e : Evt} {ap at_ an ax : Option Addr} {mp mt mn mx cp ct cn cx : Nat} {w : World} (hm : e.nums.length = mn) (hE : mayE e = true) (hv : e.v = 3) (hk : e.kind = 6) (HN : SlR encI 1 w an cn e.nums) :
    Calls Tryz.prog 28 #[.slice ap mp cp, .slice at_ mt ct, .agg #[.int .u8 e.v, .int .u8 e.kind, .slice an mn cn, .slice ax mx cx]] w fun e1 w' => (∃ F, e1 = .returned (.tuple #[F, .int .i64 (rowsL p t e).1]) ∧ ((rowsL p t e).1 = 0 → RowF w' F (rowsL p t e).2)) ∧ Below w.heap.size w w' := by
  obtain ⟨n0, n1, hn, h0, h1⟩ := lnums6 hE hv (Or.inl hk)
  have hR : rowsL p t e = (0, [(n0, 1 * n1)]) := by unfold rowsL nthI; rw [if_pos hk, hn, Int.one_mul]; rfl
  rw [hR, hk, hv]
  clear hR
  obtain rfl : mn = 2 := by rw [← hm, hn]; rfl
  rw [hn] at HN
  obtain ⟨ab, ao, rfl, -, -⟩ := HN.at (by simp)
  have hx0 : [n0, n1][0]? = some n0 := rfl
  have hx1 : [n0, n1][1]? = some n1 := rfl
  have hw := Below.refl w.heap.size w
  refine fn_enter 150 Tryz.func28 rfl rfl rfl ?_
  refine cw_seq (cw_region ?_)
  refine lw_boxN rfl rfl (cs := [.int .u8 3, .int .u8 6, .slice (some ⟨ab, ao, none⟩) 2 cn, .slice ax mx cx]) rfl ?_; intro N w1 hN H hb
  replace HN := HN.mono hb
  have hw0 := hb
  clear hb hw
  have hw := Below.refl w1.heap.size w1
  repeat' (first | (refine lw_pure rfl (pv_assign rfl) ?_) | (refine is_cw ?_; first | (refine cw_seq ?_) | (refine cw_region ?_) | (refine cw_true rfl rfl ?_) | (refine cw_block ?_) | (refine cw_exit ?_)) | (refine is_qw ?_; first | (with_reducible refine qw_then ?_) | (with_reducible refine qw_in ?_) | (with_reducible refine qw_in_hit ?_) | (with_reducible refine qw_then_exit ?_)) | (refine lw_nil ?_) | ((refine is_bin ?_; first | (refine lw_pure rfl (pv_eql rfl rfl) ?_))) | ((refine is_load ?_; first | (refine lw_pure rfl (pv_load (t1 rfl) rfl (by first | exact PT.ld0 (H.mono hw) rfl | exact PT.ld (H.mono hw) rfl)) ?_))) | ((refine is_fa ?_; first | (refine lw_pure rfl (pv_fa (tF rfl) rfl) ?_))))
  refine cw_drawn (fun w' => Below w1.heap.size w1 w') (by kernel_rfl) (by repeat (first | exact NoPanic.body | with_reducible refine NoPanic.then ?_ | with_reducible refine NoPanic.inBlock ?_)) (fun hNP => ?_)
  have hS := hw.drew
  (refine at0 0 rfl (fun w' hq => pv_move rfl) ?_)
  (refine at0 1 rfl (fun w' hq => pv_move rfl) ?_)
  (refine at0 2 rfl (fun w' hq => pv_ia (tS rfl) rfl rfl (by omega)) ?_)
  (refine at0 3 rfl (fun w' hq => pv_load (t1 rfl) rfl (by first | exact SlR.ld (HN.mono hq) hx0 rfl | exact SlR.ld1 (HN.mono hq) hx0 rfl | exact SlR.ld (HN.mono hq) hx1 rfl | exact SlR.ld1 (HN.mono hq) hx1 rfl)) ?_)
  (refine at0 5 rfl (fun w' hq => pv_move rfl) ?_)
  (refine at0 6 rfl (fun w' hq => pv_move rfl) ?_)
  (refine at0 7 rfl (fun w' hq => pv_ia (tS rfl) rfl rfl (by omega)) ?_)
  (refine at0 8 rfl (fun w' hq => pv_load (t1 rfl) rfl (by first | exact SlR.ld (HN.mono hq) hx0 rfl | exact SlR.ld1 (HN.mono hq) hx0 rfl | exact SlR.ld (HN.mono hq) hx1 rfl | exact SlR.ld1 (HN.mono hq) hx1 rfl)) ?_)
  (refine at0 9 rfl (fun w' hq => pv_mul rfl rfl (by omega)) ?_)
  refine aw_act2 4 10 (by kernel_rfl) rfl rfl rfl rfl rfl rfl ?_ ?_
  · refine act_bs (vs := [.int .i64 n0]) (cs := [.int .i64 n0]) elemA rfl rfl (by omega) (by omega) rfl (by simp [Value.cells]) ?_; intro wa HA hba; have SA := HA.slR (xs := [n0]) encI_len rfl (by simp); (try replace SB := SB.mono hba); refine ⟨grow_trans hS hba, fun hS => ?_⟩; clear hba
    refine aw_act 10 (by kernel_rfl) rfl rfl rfl ?_
    refine act_bs (vs := [.int .i64 (1 * n1)]) (cs := [.int .i64 (1 * n1)]) elemB6 rfl rfl (by omega) (by omega) rfl (by simp [Value.cells]) ?_; intro wb HB hbb; have SB := HB.slR (xs := [1 * n1]) encI_len rfl (by simp); (try replace SA := SA.mono hbb); refine ⟨grow_trans hS hbb, fun hS => ?_⟩; clear hbb
    refine aw_act 11 (by kernel_rfl) rfl rfl rfl ?_
    refine act_callv (f := 57) rfl (by kernel_rfl) rfl (row_c (rs := [(n0, 1 * n1)]) rfl SA SB) ?_; rintro e2 w4 ⟨⟨F, rfl, HF⟩, hb⟩; refine ⟨_, rfl, grow_trans hS hb, fun hS => ?_⟩; clear hb
    (refine at0 12 rfl (fun w' hq => pv_assign rfl) ?_)
    (refine at0 13 rfl (fun w' hq => pv_assign rfl) ?_)
    refine aw_done (by kernel_rfl) ?_
    replace hw := hS; clear hS hNP
    (repeat' (first | (refine is_cw ?_; first | (refine cw_ret ?_)) | (refine is_qw ?_; first | (with_reducible refine qw_then ?_) | (with_reducible refine qw_then_ret ?_) | (with_reducible refine qw_in_ret ?_)))); exact qw_ret2 rfl rfl rfl ⟨⟨F, rfl, fun _ => HF⟩, grow_trans hw0 hw⟩
  · refine act_bs (vs := [.int .i64 (1 * n1)]) (cs := [.int .i64 (1 * n1)]) elemB6 rfl rfl (by omega) (by omega) rfl (by simp [Value.cells]) ?_; intro wb HB hbb; have SB := HB.slR (xs := [1 * n1]) encI_len rfl (by simp); (try replace SA := SA.mono hbb); refine ⟨grow_trans hS hbb, fun hS => ?_⟩; clear hbb
    refine aw_act 4 (by kernel_rfl) rfl rfl rfl ?_
    refine act_bs (vs := [.int .i64 n0]) (cs := [.int .i64 n0]) elemA rfl rfl (by omega) (by omega) rfl (by simp [Value.cells]) ?_; intro wa HA hba; have SA := HA.slR (xs := [n0]) encI_len rfl (by simp); (try replace SB := SB.mono hba); refine ⟨grow_trans hS hba, fun hS => ?_⟩; clear hba
    refine aw_act 11 (by kernel_rfl) rfl rfl rfl ?_
    refine act_callv (f := 57) rfl (by kernel_rfl) rfl (row_c (rs := [(n0, 1 * n1)]) rfl SA SB) ?_; rintro e2 w4 ⟨⟨F, rfl, HF⟩, hb⟩; refine ⟨_, rfl, grow_trans hS hb, fun hS => ?_⟩; clear hb
    (refine at0 12 rfl (fun w' hq => pv_assign rfl) ?_)
    (refine at0 13 rfl (fun w' hq => pv_assign rfl) ?_)
    refine aw_done (by kernel_rfl) ?_
    replace hw := hS; clear hS hNP
    (repeat' (first | (refine is_cw ?_; first | (refine cw_ret ?_)) | (refine is_qw ?_; first | (with_reducible refine qw_then ?_) | (with_reducible refine qw_then_ret ?_) | (with_reducible refine qw_in_ret ?_)))); exact qw_ret2 rfl rfl rfl ⟨⟨F, rfl, fun _ => HF⟩, grow_trans hw0 hw⟩
set_option maxRecDepth 20000 in
set_option maxHeartbeats 4000000 in
theorem deltas7_c {p : List Opn} {t : List Lt} {e : Evt} {ap at_ an ax : Option Addr} {mp mt mn mx cp ct cn cx : Nat} {w : World} (hm : e.nums.length = mn) (hE : mayE e = true) (hv : e.v = 3) (hk : e.kind = 7) (HN : SlR encI 1 w an cn e.nums) :
    Calls Tryz.prog 28 #[.slice ap mp cp, .slice at_ mt ct, .agg #[.int .u8 e.v, .int .u8 e.kind, .slice an mn cn, .slice ax mx cx]] w fun e1 w' => (∃ F, e1 = .returned (.tuple #[F, .int .i64 (rowsL p t e).1]) ∧ ((rowsL p t e).1 = 0 → RowF w' F (rowsL p t e).2)) ∧ Below w.heap.size w w' := by
  obtain ⟨n0, n1, hn, h0, h1⟩ := lnums6 hE hv (Or.inr hk)
  have hR : rowsL p t e = (0, [(n0, -1 * n1)]) := by unfold rowsL nthI; rw [if_neg (by omega), if_pos hk, hn, show (-1 : Int) * n1 = -n1 by omega]; rfl
  rw [hR, hk, hv]
  clear hR
  obtain rfl : mn = 2 := by rw [← hm, hn]; rfl
  rw [hn] at HN
  obtain ⟨ab, ao, rfl, -, -⟩ := HN.at (by simp)
  have hx0 : [n0, n1][0]? = some n0 := rfl
  have hx1 : [n0, n1][1]? = some n1 := rfl
  have hw := Below.refl w.heap.size w
  refine fn_enter 150 Tryz.func28 rfl rfl rfl ?_
  refine cw_seq (cw_region ?_)
  refine lw_boxN rfl rfl (cs := [.int .u8 3, .int .u8 7, .slice (some ⟨ab, ao, none⟩) 2 cn, .slice ax mx cx]) rfl ?_; intro N w1 hN H hb
  replace HN := HN.mono hb
  have hw0 := hb
  clear hb hw
  have hw := Below.refl w1.heap.size w1
  repeat' (first | (refine lw_pure rfl (pv_assign rfl) ?_) | (refine is_cw ?_; first | (refine cw_seq ?_) | (refine cw_region ?_) | (refine cw_true rfl rfl ?_) | (refine cw_false rfl rfl ?_) | (refine cw_skip ?_) | (refine cw_block ?_) | (refine cw_exit ?_)) | (refine is_qw ?_; first | (with_reducible refine qw_then ?_) | (with_reducible refine qw_in_hit ?_) | (refine qw_in_miss rfl ?_) | (with_reducible refine qw_then_exit ?_)) | (refine lw_nil ?_) | ((refine is_bin ?_; first | (refine lw_pure rfl (pv_eql rfl rfl) ?_))) | ((refine is_load ?_; first | (refine lw_pure rfl (pv_load (t1 rfl) rfl (by first | exact PT.ld0 (H.mono hw) rfl | exact PT.ld (H.mono hw) rfl)) ?_))) | ((refine is_fa ?_; first | (refine lw_pure rfl (pv_fa (tF rfl) rfl) ?_))))
  refine cw_drawn (fun w' => Below w1.heap.size w1 w') (by kernel_rfl) (by repeat (first | exact NoPanic.body | with_reducible refine NoPanic.then ?_ | with_reducible refine NoPanic.inBlock ?_)) (fun hNP => ?_)
  have hS := hw.drew
  (refine at0 0 rfl (fun w' hq => pv_move rfl) ?_)
  (refine at0 1 rfl (fun w' hq => pv_move rfl) ?_)
  (refine at0 2 rfl (fun w' hq => pv_ia (tS rfl) rfl rfl (by omega)) ?_)
  (refine at0 3 rfl (fun w' hq => pv_load (t1 rfl) rfl (by first | exact SlR.ld (HN.mono hq) hx0 rfl | exact SlR.ld1 (HN.mono hq) hx0 rfl | exact SlR.ld (HN.mono hq) hx1 rfl | exact SlR.ld1 (HN.mono hq) hx1 rfl)) ?_)
  (refine at0 5 rfl (fun w' hq => pv_move rfl) ?_)
  (refine at0 6 rfl (fun w' hq => pv_move rfl) ?_)
  (refine at0 7 rfl (fun w' hq => pv_ia (tS rfl) rfl rfl (by omega)) ?_)
  (refine at0 8 rfl (fun w' hq => pv_load (t1 rfl) rfl (by first | exact SlR.ld (HN.mono hq) hx0 rfl | exact SlR.ld1 (HN.mono hq) hx0 rfl | exact SlR.ld (HN.mono hq) hx1 rfl | exact SlR.ld1 (HN.mono hq) hx1 rfl)) ?_)
  (refine at0 9 rfl (fun w' hq => pv_mul rfl rfl (by omega)) ?_)
  refine aw_act2 4 10 (by kernel_rfl) rfl rfl rfl rfl rfl rfl ?_ ?_
  · refine act_bs (vs := [.int .i64 n0]) (cs := [.int .i64 n0]) elemA rfl rfl (by omega) (by omega) rfl (by simp [Value.cells]) ?_; intro wa HA hba; have SA := HA.slR (xs := [n0]) encI_len rfl (by simp); (try replace SB := SB.mono hba); refine ⟨grow_trans hS hba, fun hS => ?_⟩; clear hba
    refine aw_act 10 (by kernel_rfl) rfl rfl rfl ?_
    refine act_bs (vs := [.int .i64 (-1 * n1)]) (cs := [.int .i64 (-1 * n1)]) elemB6 rfl rfl (by omega) (by omega) rfl (by simp [Value.cells]) ?_; intro wb HB hbb; have SB := HB.slR (xs := [-1 * n1]) encI_len rfl (by simp); (try replace SA := SA.mono hbb); refine ⟨grow_trans hS hbb, fun hS => ?_⟩; clear hbb
    refine aw_act 11 (by kernel_rfl) rfl rfl rfl ?_
    refine act_callv (f := 57) rfl (by kernel_rfl) rfl (row_c (rs := [(n0, -1 * n1)]) rfl SA SB) ?_; rintro e2 w4 ⟨⟨F, rfl, HF⟩, hb⟩; refine ⟨_, rfl, grow_trans hS hb, fun hS => ?_⟩; clear hb
    (refine at0 12 rfl (fun w' hq => pv_assign rfl) ?_)
    (refine at0 13 rfl (fun w' hq => pv_assign rfl) ?_)
    refine aw_done (by kernel_rfl) ?_
    replace hw := hS; clear hS hNP
    (repeat' (first | (refine is_cw ?_; first | (refine cw_ret ?_)) | (refine is_qw ?_; first | (with_reducible refine qw_then ?_) | (with_reducible refine qw_then_ret ?_) | (with_reducible refine qw_in_ret ?_)))); exact qw_ret2 rfl rfl rfl ⟨⟨F, rfl, fun _ => HF⟩, grow_trans hw0 hw⟩
  · refine act_bs (vs := [.int .i64 (-1 * n1)]) (cs := [.int .i64 (-1 * n1)]) elemB6 rfl rfl (by omega) (by omega) rfl (by simp [Value.cells]) ?_; intro wb HB hbb; have SB := HB.slR (xs := [-1 * n1]) encI_len rfl (by simp); (try replace SA := SA.mono hbb); refine ⟨grow_trans hS hbb, fun hS => ?_⟩; clear hbb
    refine aw_act 4 (by kernel_rfl) rfl rfl rfl ?_
    refine act_bs (vs := [.int .i64 n0]) (cs := [.int .i64 n0]) elemA rfl rfl (by omega) (by omega) rfl (by simp [Value.cells]) ?_; intro wa HA hba; have SA := HA.slR (xs := [n0]) encI_len rfl (by simp); (try replace SB := SB.mono hba); refine ⟨grow_trans hS hba, fun hS => ?_⟩; clear hba
    refine aw_act 11 (by kernel_rfl) rfl rfl rfl ?_
    refine act_callv (f := 57) rfl (by kernel_rfl) rfl (row_c (rs := [(n0, -1 * n1)]) rfl SA SB) ?_; rintro e2 w4 ⟨⟨F, rfl, HF⟩, hb⟩; refine ⟨_, rfl, grow_trans hS hb, fun hS => ?_⟩; clear hb
    (refine at0 12 rfl (fun w' hq => pv_assign rfl) ?_)
    (refine at0 13 rfl (fun w' hq => pv_assign rfl) ?_)
    refine aw_done (by kernel_rfl) ?_
    replace hw := hS; clear hS hNP
    (repeat' (first | (refine is_cw ?_; first | (refine cw_ret ?_)) | (refine is_qw ?_; first | (with_reducible refine qw_then ?_) | (with_reducible refine qw_then_ret ?_) | (with_reducible refine qw_in_ret ?_)))); exact qw_ret2 rfl rfl rfl ⟨⟨F, rfl, fun _ => HF⟩, grow_trans hw0 hw⟩
set_option maxRecDepth 20000 in
set_option maxHeartbeats 4000000 in
theorem deltas21_c {p : List Opn} {t : List Lt} {e : Evt} {ap at_ an ax : Option Addr} {mp mt mn mx cp ct cn cx : Nat} {w : World} (hm : e.nums.length = mn) (hE : mayE e = true) (hv : e.v = 3) (hk : e.kind = 21) (HN : SlR encI 1 w an cn e.nums) :
    Calls Tryz.prog 28 #[.slice ap mp cp, .slice at_ mt ct, .agg #[.int .u8 e.v, .int .u8 e.kind, .slice an mn cn, .slice ax mx cx]] w fun e1 w' => (∃ F, e1 = .returned (.tuple #[F, .int .i64 (rowsL p t e).1]) ∧ ((rowsL p t e).1 = 0 → RowF w' F (rowsL p t e).2)) ∧ Below w.heap.size w w' := by
  obtain ⟨n0, n1, n2, hn, h0, h1, h2⟩ := lnums21 hE hv hk
  have hR : rowsL p t e = (0, [(n0, -n2), (n1, n2)]) := by unfold rowsL nthI; rw [if_neg (by omega), if_neg (by omega), if_pos hk, hn]; rfl
  rw [hR, hk, hv]
  clear hR
  obtain rfl : mn = 3 := by rw [← hm, hn]; rfl
  rw [hn] at HN
  obtain ⟨ab, ao, rfl, -, -⟩ := HN.at (by simp)
  have hx0 : [n0, n1, n2][0]? = some n0 := rfl
  have hx1 : [n0, n1, n2][1]? = some n1 := rfl
  have hx2 : [n0, n1, n2][2]? = some n2 := rfl
  have hw := Below.refl w.heap.size w
  refine fn_enter 150 Tryz.func28 rfl rfl rfl ?_
  refine cw_seq (cw_region ?_)
  refine lw_boxN rfl rfl (cs := [.int .u8 3, .int .u8 21, .slice (some ⟨ab, ao, none⟩) 3 cn, .slice ax mx cx]) rfl ?_; intro N w1 hN H hb
  replace HN := HN.mono hb
  have hw0 := hb
  clear hb hw
  have hw := Below.refl w1.heap.size w1
  repeat' (first | (refine lw_pure rfl (pv_assign rfl) ?_) | (refine is_cw ?_; first | (refine cw_seq ?_) | (refine cw_region ?_) | (refine cw_true rfl rfl ?_) | (refine cw_false rfl rfl ?_) | (refine cw_skip ?_) | (refine cw_block ?_) | (refine cw_exit ?_)) | (refine is_qw ?_; first | (with_reducible refine qw_then ?_) | (with_reducible refine qw_in_hit ?_) | (refine qw_in_miss rfl ?_) | (with_reducible refine qw_then_exit ?_)) | (refine lw_nil ?_) | ((refine is_bin ?_; first | (refine lw_pure rfl (pv_eql rfl rfl) ?_))) | ((refine is_load ?_; first | (refine lw_pure rfl (pv_load (t1 rfl) rfl (by first | exact PT.ld0 (H.mono hw) rfl | exact PT.ld (H.mono hw) rfl)) ?_))) | ((refine is_fa ?_; first | (refine lw_pure rfl (pv_fa (tF rfl) rfl) ?_))))
  refine cw_drawn (fun w' => Below w1.heap.size w1 w') (by kernel_rfl) (by repeat (first | exact NoPanic.body | with_reducible refine NoPanic.then ?_ | with_reducible refine NoPanic.inBlock ?_)) (fun hNP => ?_)
  have hS := hw.drew
  (refine at0 0 rfl (fun w' hq => pv_move rfl) ?_)
  (refine at0 1 rfl (fun w' hq => pv_move rfl) ?_)
  (refine at0 2 rfl (fun w' hq => pv_ia (tS rfl) rfl rfl (by omega)) ?_)
  (refine at0 3 rfl (fun w' hq => pv_load (t1 rfl) rfl (by first | exact SlR.ld (HN.mono hq) hx0 rfl | exact SlR.ld1 (HN.mono hq) hx0 rfl | exact SlR.ld (HN.mono hq) hx1 rfl | exact SlR.ld1 (HN.mono hq) hx1 rfl | exact SlR.ld (HN.mono hq) hx2 rfl | exact SlR.ld1 (HN.mono hq) hx2 rfl)) ?_)
  (refine at0 4 rfl (fun w' hq => pv_move rfl) ?_)
  (refine at0 5 rfl (fun w' hq => pv_ia (tS rfl) rfl rfl (by omega)) ?_)
  (refine at0 6 rfl (fun w' hq => pv_load (t1 rfl) rfl (by first | exact SlR.ld (HN.mono hq) hx0 rfl | exact SlR.ld1 (HN.mono hq) hx0 rfl | exact SlR.ld (HN.mono hq) hx1 rfl | exact SlR.ld1 (HN.mono hq) hx1 rfl | exact SlR.ld (HN.mono hq) hx2 rfl | exact SlR.ld1 (HN.mono hq) hx2 rfl)) ?_)
  (refine at0 8 rfl (fun w' hq => pv_move rfl) ?_)
  (refine at0 9 rfl (fun w' hq => pv_ia (tS rfl) rfl rfl (by omega)) ?_)
  (refine at0 10 rfl (fun w' hq => pv_load (t1 rfl) rfl (by first | exact SlR.ld (HN.mono hq) hx0 rfl | exact SlR.ld1 (HN.mono hq) hx0 rfl | exact SlR.ld (HN.mono hq) hx1 rfl | exact SlR.ld1 (HN.mono hq) hx1 rfl | exact SlR.ld (HN.mono hq) hx2 rfl | exact SlR.ld1 (HN.mono hq) hx2 rfl)) ?_)
  (refine at0 11 rfl (fun w' hq => pv_neg rfl (by omega)) ?_)
  (refine at0 12 rfl (fun w' hq => pv_move rfl) ?_)
  (refine at0 13 rfl (fun w' hq => pv_ia (tS rfl) rfl rfl (by omega)) ?_)
  (refine at0 14 rfl (fun w' hq => pv_load (t1 rfl) rfl (by first | exact SlR.ld (HN.mono hq) hx0 rfl | exact SlR.ld1 (HN.mono hq) hx0 rfl | exact SlR.ld (HN.mono hq) hx1 rfl | exact SlR.ld1 (HN.mono hq) hx1 rfl | exact SlR.ld (HN.mono hq) hx2 rfl | exact SlR.ld1 (HN.mono hq) hx2 rfl)) ?_)
  refine aw_act2 7 15 (by kernel_rfl) rfl rfl rfl rfl rfl rfl ?_ ?_
  · refine act_bs (vs := [.int .i64 n0, .int .i64 n1]) (cs := [.int .i64 n0, .int .i64 n1]) elemA rfl rfl (by omega) (by omega) rfl (by simp [Value.cells]) ?_; intro wa HA hba; have SA := HA.slR (xs := [n0, n1]) encI_len rfl (by simp); (try replace SB := SB.mono hba); refine ⟨grow_trans hS hba, fun hS => ?_⟩; clear hba
    refine aw_act 15 (by kernel_rfl) rfl rfl rfl ?_
    refine act_bs (vs := [.int .i64 (-n2), .int .i64 n2]) (cs := [.int .i64 (-n2), .int .i64 n2]) elemB6 rfl rfl (by omega) (by omega) rfl (by simp [Value.cells]) ?_; intro wb HB hbb; have SB := HB.slR (xs := [-n2, n2]) encI_len rfl (by simp); (try replace SA := SA.mono hbb); refine ⟨grow_trans hS hbb, fun hS => ?_⟩; clear hbb
    refine aw_act 16 (by kernel_rfl) rfl rfl rfl ?_
    refine act_callv (f := 57) rfl (by kernel_rfl) rfl (row_c (rs := [(n0, -n2), (n1, n2)]) rfl SA SB) ?_; rintro e2 w4 ⟨⟨F, rfl, HF⟩, hb⟩; refine ⟨_, rfl, grow_trans hS hb, fun hS => ?_⟩; clear hb
    (refine at0 17 rfl (fun w' hq => pv_assign rfl) ?_)
    (refine at0 18 rfl (fun w' hq => pv_assign rfl) ?_)
    refine aw_done (by kernel_rfl) ?_
    replace hw := hS; clear hS hNP
    (repeat' (first | (refine is_cw ?_; first | (refine cw_ret ?_)) | (refine is_qw ?_; first | (with_reducible refine qw_then ?_) | (with_reducible refine qw_then_ret ?_) | (with_reducible refine qw_in_ret ?_)))); exact qw_ret2 rfl rfl rfl ⟨⟨F, rfl, fun _ => HF⟩, grow_trans hw0 hw⟩
  · refine act_bs (vs := [.int .i64 (-n2), .int .i64 n2]) (cs := [.int .i64 (-n2), .int .i64 n2]) elemB6 rfl rfl (by omega) (by omega) rfl (by simp [Value.cells]) ?_; intro wb HB hbb; have SB := HB.slR (xs := [-n2, n2]) encI_len rfl (by simp); (try replace SA := SA.mono hbb); refine ⟨grow_trans hS hbb, fun hS => ?_⟩; clear hbb
    refine aw_act 7 (by kernel_rfl) rfl rfl rfl ?_
    refine act_bs (vs := [.int .i64 n0, .int .i64 n1]) (cs := [.int .i64 n0, .int .i64 n1]) elemA rfl rfl (by omega) (by omega) rfl (by simp [Value.cells]) ?_; intro wa HA hba; have SA := HA.slR (xs := [n0, n1]) encI_len rfl (by simp); (try replace SB := SB.mono hba); refine ⟨grow_trans hS hba, fun hS => ?_⟩; clear hba
    refine aw_act 16 (by kernel_rfl) rfl rfl rfl ?_
    refine act_callv (f := 57) rfl (by kernel_rfl) rfl (row_c (rs := [(n0, -n2), (n1, n2)]) rfl SA SB) ?_; rintro e2 w4 ⟨⟨F, rfl, HF⟩, hb⟩; refine ⟨_, rfl, grow_trans hS hb, fun hS => ?_⟩; clear hb
    (refine at0 17 rfl (fun w' hq => pv_assign rfl) ?_)
    (refine at0 18 rfl (fun w' hq => pv_assign rfl) ?_)
    refine aw_done (by kernel_rfl) ?_
    replace hw := hS; clear hS hNP
    (repeat' (first | (refine is_cw ?_; first | (refine cw_ret ?_)) | (refine is_qw ?_; first | (with_reducible refine qw_then ?_) | (with_reducible refine qw_then_ret ?_) | (with_reducible refine qw_in_ret ?_)))); exact qw_ret2 rfl rfl rfl ⟨⟨F, rfl, fun _ => HF⟩, grow_trans hw0 hw⟩
set_option maxRecDepth 20000 in
set_option maxHeartbeats 4000000 in
theorem deltasN_c {p : List Opn} {t : List Lt} {e : Evt} {ap at_ an ax : Option Addr} {mp mt mn mx cp ct cn cx : Nat} {w : World} (hv : e.v = 3) (hk : kindB e.kind = false) :
    Calls Tryz.prog 28 #[.slice ap mp cp, .slice at_ mt ct, .agg #[.int .u8 e.v, .int .u8 e.kind, .slice an mn cn, .slice ax mx cx]] w fun e1 w' => (∃ F, e1 = .returned (.tuple #[F, .int .i64 (rowsL p t e).1]) ∧ ((rowsL p t e).1 = 0 → RowF w' F (rowsL p t e).2)) ∧ Below w.heap.size w w' := by
  have hk2 := of_decide_eq_false hk
  have hR : rowsL p t e = (0, []) := by unfold rowsL; rw [if_neg (by omega), if_neg (by omega), if_neg (by omega), if_neg (by omega), if_neg (by omega)]
  rw [hR, hv]
  clear hR
  generalize e.kind = k at hk2
  have hw := Below.refl w.heap.size w
  refine fn_enter 150 Tryz.func28 rfl rfl rfl ?_
  refine cw_seq (cw_region ?_)
  refine lw_boxN rfl rfl (cs := [.int .u8 3, .int .u8 k, .slice an mn cn, .slice ax mx cx]) rfl ?_; intro N w1 hN H hb
  have hw0 := hb
  clear hb hw
  have hw := Below.refl w1.heap.size w1
  repeat' (first | (refine lw_pure rfl (pv_move rfl) ?_) | (refine lw_pure rfl (pv_assign rfl) ?_) | (refine is_cw ?_; first | (refine cw_seq ?_) | (refine cw_region ?_) | (refine cw_false rfl (by first | assumption | exact decide_eq_false (by omega) | exact dec_notF (by omega)) ?_) | (refine cw_skip ?_) | (refine cw_block ?_) | (refine cw_exit ?_)) | (refine is_qw ?_; first | (with_reducible refine qw_then ?_) | (with_reducible refine qw_in_hit ?_) | (refine qw_in_miss rfl ?_) | (with_reducible refine qw_then_exit ?_)) | (refine lw_nil ?_) | ((refine is_bin ?_; first | (refine lw_pure rfl (pv_eql rfl rfl) ?_))) | ((refine is_load ?_; first | (refine lw_pure rfl (pv_load (t1 rfl) rfl (by first | exact PT.ld0 (H.mono hw) rfl | exact PT.ld (H.mono hw) rfl)) ?_))) | ((refine is_fa ?_; first | (refine lw_pure rfl (pv_fa (tF rfl) rfl) ?_))))
  refine lw_callv (f := 57) rfl (by kernel_rfl) rfl rfl (row_c (rs := []) rfl (SlR.nil _) (SlR.nil _)) ?_; rintro e2 w4 ⟨⟨F, rfl, HF⟩, hb⟩; refine ⟨_, rfl, ?_⟩; replace hw := grow_trans hw hb; clear hb
  (repeat' (first | (refine lw_pure rfl (pv_assign rfl) ?_) | (refine is_cw ?_; first | (refine cw_ret ?_)) | (refine is_qw ?_; first | (with_reducible refine qw_then ?_)) | (refine lw_nil ?_))); exact qw_ret2 rfl rfl rfl ⟨⟨F, rfl, fun _ => HF⟩, grow_trans hw0 hw⟩
theorem lotP_eq (t : List Lt) (id : Int) : lotP t id = findT t id := rfl
set_option maxRecDepth 20000 in
set_option maxHeartbeats 4000000 in
theorem deltas18_c {p : List Opn} {t : List Lt} {e : Evt} {ap at_ an ax : Option Addr} {mp mt mn mx cp ct cn cx : Nat} {w : World} (hm : e.nums.length = mn) (hE : mayE e = true) (hv : e.v = 3) (hk : e.kind = 18) (hmt : t.length = mt) (HL : SlR encL 4 w at_ ct t) (HN : SlR encI 1 w an cn e.nums) :
    Calls Tryz.prog 28 #[.slice ap mp cp, .slice at_ mt ct, .agg #[.int .u8 e.v, .int .u8 e.kind, .slice an mn cn, .slice ax mx cx]] w fun e1 w' => (∃ F, e1 = .returned (.tuple #[F, .int .i64 (rowsL p t e).1]) ∧ ((rowsL p t e).1 = 0 → RowF w' F (rowsL p t e).2)) ∧ Below w.heap.size w w' := by
  obtain ⟨n0, n1, n2, n3, hn, h1, h2, h3⟩ := lnums18 hE hv hk
  have hR : rowsL p t e = match findT t n0 with
    | some x => (0, [(n1, -n2), (x.seller, n2 - n3)])
    | none => (5, []) := by unfold rowsL nthI; rw [if_neg (by omega), if_neg (by omega), if_neg (by omega), if_neg (by omega), if_pos hk, hn, lotP_eq]; rfl
  rw [hR, hk, hv]
  clear hR
  obtain rfl : mn = 4 := by rw [← hm, hn]; rfl
  rw [hn] at HN
  obtain ⟨ab, ao, rfl, -, -⟩ := HN.at (by simp)
  have hx0 : [n0, n1, n2, n3][0]? = some n0 := rfl
  have hx1 : [n0, n1, n2, n3][1]? = some n1 := rfl
  have hx2 : [n0, n1, n2, n3][2]? = some n2 := rfl
  have hx3 : [n0, n1, n2, n3][3]? = some n3 := rfl
  have hw := Below.refl w.heap.size w
  refine fn_enter 150 Tryz.func28 rfl rfl rfl ?_
  refine cw_seq (cw_region ?_)
  refine lw_boxN rfl rfl (cs := [.int .u8 3, .int .u8 18, .slice (some ⟨ab, ao, none⟩) 4 cn, .slice ax mx cx]) rfl ?_; intro N w1 hN H hb
  replace HN := HN.mono hb
  replace HL := HL.mono hb
  have hw0 := hb
  clear hb hw
  have hw := Below.refl w1.heap.size w1
  repeat' (first | (refine lw_pure rfl (pv_move rfl) ?_) | (refine lw_pure rfl (pv_assign rfl) ?_) | (refine is_cw ?_; first | (refine cw_seq ?_) | (refine cw_region ?_) | (refine cw_true rfl rfl ?_) | (refine cw_false rfl rfl ?_) | (refine cw_skip ?_) | (refine cw_block ?_) | (refine cw_exit ?_)) | (refine is_qw ?_; first | (with_reducible refine qw_then ?_) | (with_reducible refine qw_in_hit ?_) | (refine qw_in_miss rfl ?_) | (with_reducible refine qw_then_exit ?_)) | (refine lw_nil ?_) | ((refine is_bin ?_; first | (refine lw_pure rfl (pv_eql rfl rfl) ?_))) | ((refine is_load ?_; first | (refine lw_pure rfl (pv_load (t1 rfl) rfl (by first | exact PT.ld0 (H.mono hw) rfl | exact PT.ld (H.mono hw) rfl | exact SlR.ld (HN.mono hw) hx0 rfl | exact SlR.ld1 (HN.mono hw) hx0 rfl)) ?_))) | ((refine is_fa ?_; first | (refine lw_pure rfl (pv_fa (tF rfl) rfl) ?_))) | ((refine is_ia ?_; first | (refine lw_pure rfl (pv_ia (tS rfl) rfl rfl (by omega)) ?_))))
  refine lw_call (f := 60) (by kernel_rfl) rfl rfl (lotx_c n0 hmt HL) ?_; rintro e2 w2 ⟨rfl, hb⟩; refine ⟨_, rfl, ?_⟩
  replace hw := grow_trans hw hb
  replace HN := HN.mono hw
  replace hw0 := grow_trans hw0 hw
  clear hb hw
  have hw := Below.refl w2.heap.size w2
  repeat' (first | (refine lw_pure rfl (pv_move rfl) ?_) | (refine lw_pure rfl (pv_extract rfl rfl) ?_))
  refine lw_varN rfl (by first | exact tyv_27 | exact tyv_28 | exact tyv_36 | exact tyv_37 | exact tyv_68 | exact tyv_69 | exact tyv_72 | exact tyv_73 | exact tyv_79 | exact tyv_80 | exact tyv_117 | exact tyv_118 | exact tyv_130 | exact tyv_131) rfl (tZ rfl) (fun _ => rfl) rfl rfl ?_; intro N16 wn hN16 HX hb; replace hN16 := Nat.le_trans hw.size hN16; replace hw := grow_trans hw hb; clear hb
  replace HN := HN.mono hw
  replace hw0 := grow_trans hw0 hw
  clear hw
  have hw := Below.refl wn.heap.size wn
  cases hf : findT t n0 with
  | none =>
    repeat' (first | (refine lw_pure rfl (pv_move rfl) ?_) | (refine lw_pure rfl (pv_assign rfl) ?_) | (refine is_cw ?_; first | (refine cw_seq ?_) | (refine cw_region ?_) | (refine cw_true rfl rfl ?_) | (refine cw_ret ?_)) | (refine is_qw ?_; first | (with_reducible refine qw_then ?_) | (with_reducible refine qw_then_ret ?_) | (with_reducible refine qw_in_ret ?_)) | (refine lw_nil ?_) | ((refine is_un ?_; first | (refine lw_pure rfl (pv_not rfl) ?_))))
    exact qw_ret2 rfl rfl rfl ⟨⟨_, rfl, fun h => by cases h⟩, grow_trans hw0 hw⟩
  | some x =>
    rw [hf] at HX
    replace HX : PT wn N16 73 (encL x) := HX
    repeat' (first | (refine lw_pure rfl (pv_move rfl) ?_) | (refine lw_pure rfl (pv_assign rfl) ?_) | (refine is_cw ?_; first | (refine cw_seq ?_) | (refine cw_region ?_) | (refine cw_false rfl rfl ?_) | (refine cw_skip ?_)) | (refine is_qw ?_; first | (with_reducible refine qw_then ?_)) | (refine lw_nil ?_) | ((refine is_un ?_; first | (refine lw_pure rfl (pv_not rfl) ?_))))
    refine cw_drawn (fun w' => Below wn.heap.size wn w') (by kernel_rfl) (by repeat (first | exact NoPanic.body | with_reducible refine NoPanic.then ?_ | with_reducible refine NoPanic.inBlock ?_)) (fun hNP => ?_)
    have hS := hw.drew
    (refine at0 0 rfl (fun w' hq => pv_move rfl) ?_)
    (refine at0 1 rfl (fun w' hq => pv_move rfl) ?_)
    (refine at0 2 rfl (fun w' hq => pv_ia (tS rfl) rfl rfl (by omega)) ?_)
    (refine at0 3 rfl (fun w' hq => pv_load (t1 rfl) rfl (by first | exact PT.ld0 (HX.mono hq) rfl | exact PT.ld (HX.mono hq) rfl | exact SlR.ld (HN.mono hq) hx1 rfl | exact SlR.ld1 (HN.mono hq) hx1 rfl | exact SlR.ld (HN.mono hq) hx2 rfl | exact SlR.ld1 (HN.mono hq) hx2 rfl | exact SlR.ld (HN.mono hq) hx3 rfl | exact SlR.ld1 (HN.mono hq) hx3 rfl)) ?_)
    (refine at0 4 rfl (fun w' hq => pv_fa (tF rfl) rfl) ?_)
    (refine at0 5 rfl (fun w' hq => pv_load (t1 rfl) rfl (by first | exact PT.ld0 (HX.mono hq) rfl | exact PT.ld (HX.mono hq) rfl | exact SlR.ld (HN.mono hq) hx1 rfl | exact SlR.ld1 (HN.mono hq) hx1 rfl | exact SlR.ld (HN.mono hq) hx2 rfl | exact SlR.ld1 (HN.mono hq) hx2 rfl | exact SlR.ld (HN.mono hq) hx3 rfl | exact SlR.ld1 (HN.mono hq) hx3 rfl)) ?_)
    (refine at0 7 rfl (fun w' hq => pv_move rfl) ?_)
    (refine at0 8 rfl (fun w' hq => pv_ia (tS rfl) rfl rfl (by omega)) ?_)
    (refine at0 9 rfl (fun w' hq => pv_load (t1 rfl) rfl (by first | exact PT.ld0 (HX.mono hq) rfl | exact PT.ld (HX.mono hq) rfl | exact SlR.ld (HN.mono hq) hx1 rfl | exact SlR.ld1 (HN.mono hq) hx1 rfl | exact SlR.ld (HN.mono hq) hx2 rfl | exact SlR.ld1 (HN.mono hq) hx2 rfl | exact SlR.ld (HN.mono hq) hx3 rfl | exact SlR.ld1 (HN.mono hq) hx3 rfl)) ?_)
    (refine at0 10 rfl (fun w' hq => pv_neg rfl (by omega)) ?_)
    (refine at0 11 rfl (fun w' hq => pv_move rfl) ?_)
    (refine at0 12 rfl (fun w' hq => pv_ia (tS rfl) rfl rfl (by omega)) ?_)
    (refine at0 13 rfl (fun w' hq => pv_load (t1 rfl) rfl (by first | exact PT.ld0 (HX.mono hq) rfl | exact PT.ld (HX.mono hq) rfl | exact SlR.ld (HN.mono hq) hx1 rfl | exact SlR.ld1 (HN.mono hq) hx1 rfl | exact SlR.ld (HN.mono hq) hx2 rfl | exact SlR.ld1 (HN.mono hq) hx2 rfl | exact SlR.ld (HN.mono hq) hx3 rfl | exact SlR.ld1 (HN.mono hq) hx3 rfl)) ?_)
    (refine at0 14 rfl (fun w' hq => pv_move rfl) ?_)
    (refine at0 15 rfl (fun w' hq => pv_ia (tS rfl) rfl rfl (by omega)) ?_)
    (refine at0 16 rfl (fun w' hq => pv_load (t1 rfl) rfl (by first | exact PT.ld0 (HX.mono hq) rfl | exact PT.ld (HX.mono hq) rfl | exact SlR.ld (HN.mono hq) hx1 rfl | exact SlR.ld1 (HN.mono hq) hx1 rfl | exact SlR.ld (HN.mono hq) hx2 rfl | exact SlR.ld1 (HN.mono hq) hx2 rfl | exact SlR.ld (HN.mono hq) hx3 rfl | exact SlR.ld1 (HN.mono hq) hx3 rfl)) ?_)
    (refine at0 17 rfl (fun w' hq => pv_sub rfl rfl (by omega)) ?_)
    refine aw_act2 6 18 (by kernel_rfl) rfl rfl rfl rfl rfl rfl ?_ ?_
    · refine act_bs (vs := [.int .i64 n1, .int .i64 x.seller]) (cs := [.int .i64 n1, .int .i64 x.seller]) elemA rfl rfl (by omega) (by omega) rfl (by simp [Value.cells]) ?_; intro wa HA hba; have SA := HA.slR (xs := [n1, x.seller]) encI_len rfl (by simp); (try replace SB := SB.mono hba); refine ⟨grow_trans hS hba, fun hS => ?_⟩; clear hba
      refine aw_act 18 (by kernel_rfl) rfl rfl rfl ?_
      refine act_bs (vs := [.int .i64 (-n2), .int .i64 (n2 - n3)]) (cs := [.int .i64 (-n2), .int .i64 (n2 - n3)]) elemB6 rfl rfl (by omega) (by omega) rfl (by simp [Value.cells]) ?_; intro wb HB hbb; have SB := HB.slR (xs := [-n2, n2 - n3]) encI_len rfl (by simp); (try replace SA := SA.mono hbb); refine ⟨grow_trans hS hbb, fun hS => ?_⟩; clear hbb
      refine aw_act 19 (by kernel_rfl) rfl rfl rfl ?_
      refine act_callv (f := 57) rfl (by kernel_rfl) rfl (row_c (rs := [(n1, -n2), (x.seller, n2 - n3)]) rfl SA SB) ?_; rintro e2 w4 ⟨⟨F, rfl, HF⟩, hb⟩; refine ⟨_, rfl, grow_trans hS hb, fun hS => ?_⟩; clear hb
      (refine at0 20 rfl (fun w' hq => pv_assign rfl) ?_)
      (refine at0 21 rfl (fun w' hq => pv_assign rfl) ?_)
      refine aw_done (by kernel_rfl) ?_
      replace hw := hS; clear hS hNP
      (repeat' (first | (refine is_cw ?_; first | (refine cw_ret ?_)) | (refine is_qw ?_; first | (with_reducible refine qw_then ?_) | (with_reducible refine qw_then_ret ?_) | (with_reducible refine qw_in_ret ?_)))); exact qw_ret2 rfl rfl rfl ⟨⟨F, rfl, fun _ => HF⟩, grow_trans hw0 hw⟩
    · refine act_bs (vs := [.int .i64 (-n2), .int .i64 (n2 - n3)]) (cs := [.int .i64 (-n2), .int .i64 (n2 - n3)]) elemB6 rfl rfl (by omega) (by omega) rfl (by simp [Value.cells]) ?_; intro wb HB hbb; have SB := HB.slR (xs := [-n2, n2 - n3]) encI_len rfl (by simp); (try replace SA := SA.mono hbb); refine ⟨grow_trans hS hbb, fun hS => ?_⟩; clear hbb
      refine aw_act 6 (by kernel_rfl) rfl rfl rfl ?_
      refine act_bs (vs := [.int .i64 n1, .int .i64 x.seller]) (cs := [.int .i64 n1, .int .i64 x.seller]) elemA rfl rfl (by omega) (by omega) rfl (by simp [Value.cells]) ?_; intro wa HA hba; have SA := HA.slR (xs := [n1, x.seller]) encI_len rfl (by simp); (try replace SB := SB.mono hba); refine ⟨grow_trans hS hba, fun hS => ?_⟩; clear hba
      refine aw_act 19 (by kernel_rfl) rfl rfl rfl ?_
      refine act_callv (f := 57) rfl (by kernel_rfl) rfl (row_c (rs := [(n1, -n2), (x.seller, n2 - n3)]) rfl SA SB) ?_; rintro e2 w4 ⟨⟨F, rfl, HF⟩, hb⟩; refine ⟨_, rfl, grow_trans hS hb, fun hS => ?_⟩; clear hb
      (refine at0 20 rfl (fun w' hq => pv_assign rfl) ?_)
      (refine at0 21 rfl (fun w' hq => pv_assign rfl) ?_)
      refine aw_done (by kernel_rfl) ?_
      replace hw := hS; clear hS hNP
      (repeat' (first | (refine is_cw ?_; first | (refine cw_ret ?_)) | (refine is_qw ?_; first | (with_reducible refine qw_then ?_) | (with_reducible refine qw_then_ret ?_) | (with_reducible refine qw_in_ret ?_)))); exact qw_ret2 rfl rfl rfl ⟨⟨F, rfl, fun _ => HF⟩, grow_trans hw0 hw⟩
set_option maxRecDepth 20000 in
set_option maxHeartbeats 8000000 in
theorem deltas13_c {p : List Opn} {t : List Lt} {e : Evt} {ap at_ an ax : Option Addr} {mp mt mn mx cp ct cn cx : Nat} {w : World} (hm : e.nums.length = mn) (hE : mayE e = true) (hv : e.v = 3) (hk : e.kind = 13) (hmp : p.length = mp) (HP : SlR encP 6 w ap cp p) (HN : SlR encI 1 w an cn e.nums) :
    Calls Tryz.prog 28 #[.slice ap mp cp, .slice at_ mt ct, .agg #[.int .u8 e.v, .int .u8 e.kind, .slice an mn cn, .slice ax mx cx]] w fun e1 w' => (∃ F, e1 = .returned (.tuple #[F, .int .i64 (rowsL p t e).1]) ∧ ((rowsL p t e).1 = 0 → RowF w' F (rowsL p t e).2)) ∧ Below w.heap.size w w' := by
  obtain ⟨n0, n1, n2, n3, n4, hn, h2, h3, h4⟩ := lnums13 hE hv hk
  have hmul := mul_in h2 h3
  have hR : rowsL p t e = match findP p n0, findP p n1 with
    | some a, some b => if a.side = b.side then (1, []) else if a.side = 2 then (0, [(b.acct, -(n2 * n3)), (a.acct, n2 * n3 - n4)]) else (0, [(a.acct, -(n2 * n3)), (b.acct, n2 * n3 - n4)])
    | _, _ => (5, []) := by unfold rowsL nthI; rw [if_neg (by omega), if_neg (by omega), if_neg (by omega), if_pos hk, hn]; rfl
  rw [hR, hk, hv]
  clear hR
  obtain rfl : mn = 5 := by rw [← hm, hn]; rfl
  rw [hn] at HN
  obtain ⟨ab, ao, rfl, hab, -⟩ := HN.at (by simp)
  have hx0 : [n0, n1, n2, n3, n4][0]? = some n0 := rfl
  have hx1 : [n0, n1, n2, n3, n4][1]? = some n1 := rfl
  have hx2 : [n0, n1, n2, n3, n4][2]? = some n2 := rfl
  have hx3 : [n0, n1, n2, n3, n4][3]? = some n3 := rfl
  have hx4 : [n0, n1, n2, n3, n4][4]? = some n4 := rfl
  have hw := Below.refl w.heap.size w
  refine fn_enter 150 Tryz.func28 rfl rfl rfl ?_
  refine cw_seq (cw_region ?_)
  refine lw_boxN rfl rfl (cs := [.int .u8 3, .int .u8 13, .slice (some ⟨ab, ao, none⟩) 5 cn, .slice ax mx cx]) rfl ?_; intro N w1 hN H hb
  replace HN := HN.mono hb
  replace HP := HP.mono hb
  have hw0 := hb
  clear hb hw
  have hw := Below.refl w1.heap.size w1
  repeat' (first | (refine lw_pure rfl (pv_move rfl) ?_) | (refine lw_pure rfl (pv_assign rfl) ?_) | (refine is_cw ?_; first | (refine cw_seq ?_) | (refine cw_region ?_) | (refine cw_true rfl rfl ?_) | (refine cw_false rfl rfl ?_) | (refine cw_skip ?_) | (refine cw_block ?_) | (refine cw_exit ?_)) | (refine is_qw ?_; first | (with_reducible refine qw_then ?_) | (with_reducible refine qw_in_hit ?_) | (refine qw_in_miss rfl ?_) | (with_reducible refine qw_then_exit ?_)) | (refine lw_nil ?_) | ((refine is_bin ?_; first | (refine lw_pure rfl (pv_eql rfl rfl) ?_))) | ((refine is_load ?_; first | (refine lw_pure rfl (pv_load (t1 rfl) rfl (by first | exact PT.ld0 (H.mono hw) rfl | exact PT.ld (H.mono hw) rfl | exact SlR.ld (HN.mono hw) hx0 rfl | exact SlR.ld1 (HN.mono hw) hx0 rfl)) ?_))) | ((refine is_fa ?_; first | (refine lw_pure rfl (pv_fa (tF rfl) rfl) ?_))) | ((refine is_ia ?_; first | (refine lw_pure rfl (pv_ia (tS rfl) rfl rfl (by omega)) ?_))))
  refine lw_call (f := 59) (by kernel_rfl) rfl rfl (find_c n0 hmp HP) ?_; rintro e2 w2 ⟨rfl, hb⟩; refine ⟨_, rfl, ?_⟩
  replace hw := grow_trans hw hb
  replace HN := HN.mono hw
  replace HP := HP.mono hw
  replace hw0 := grow_trans hw0 hw
  clear hb hw
  have hw := Below.refl w2.heap.size w2
  repeat' (first | (refine lw_pure rfl (pv_move rfl) ?_) | (refine lw_pure rfl (pv_extract rfl rfl) ?_))
  refine lw_varN rfl (by first | exact tyv_27 | exact tyv_28 | exact tyv_36 | exact tyv_37 | exact tyv_68 | exact tyv_69 | exact tyv_72 | exact tyv_73 | exact tyv_79 | exact tyv_80 | exact tyv_117 | exact tyv_118 | exact tyv_130 | exact tyv_131) rfl (tZ rfl) (fun _ => rfl) rfl rfl ?_; intro N11 w3 hN11 HX hb
  have hN11w : w.heap.size ≤ N11 := Nat.le_trans hw0.size hN11
  replace hw := grow_trans hw hb
  replace HN := HN.mono hw
  replace HP := HP.mono hw
  replace hw0 := grow_trans hw0 hw
  clear hb hw
  have hw := Below.refl w3.heap.size w3
  repeat' (first | (refine lw_pure rfl (pv_move rfl) ?_) | (refine lw_pure rfl (pv_assign rfl) ?_) | (refine is_cw ?_; first | (refine cw_seq ?_) | (refine cw_region ?_)) | (refine is_qw ?_; first | (with_reducible refine qw_then ?_)) | (refine lw_nil ?_) | ((refine is_load ?_; first | (refine lw_pure rfl (pv_load (t1 rfl) rfl (by first | exact SlR.ld (HN.mono hw) hx1 rfl | exact SlR.ld1 (HN.mono hw) hx1 rfl)) ?_))) | ((refine is_ia ?_; first | (refine lw_pure rfl (pv_ia (tS rfl) rfl rfl (by omega)) ?_))))
  refine lw_call (f := 59) (by kernel_rfl) rfl rfl (find_c n1 hmp HP) ?_; rintro e3 w4 ⟨rfl, hb⟩; refine ⟨_, rfl, ?_⟩
  replace hw := grow_trans hw hb
  replace HN := HN.mono hw
  replace HX := HX.mono hw
  replace hw0 := grow_trans hw0 hw
  clear hb hw
  have hw := Below.refl w4.heap.size w4
  repeat' (first | (refine lw_pure rfl (pv_move rfl) ?_) | (refine lw_pure rfl (pv_extract rfl rfl) ?_))
  refine lw_varN rfl (by first | exact tyv_27 | exact tyv_28 | exact tyv_36 | exact tyv_37 | exact tyv_68 | exact tyv_69 | exact tyv_72 | exact tyv_73 | exact tyv_79 | exact tyv_80 | exact tyv_117 | exact tyv_118 | exact tyv_130 | exact tyv_131) rfl (tZ rfl) (fun _ => rfl) rfl rfl ?_; intro N13 w5 hN13 HY hb
  have hN13w : w.heap.size ≤ N13 := Nat.le_trans hw0.size hN13
  have hXY : N11 ≠ N13 := by have := HX.lt; omega
  replace hw := grow_trans hw hb
  replace HN := HN.mono hw
  replace HX := HX.mono hw
  replace hw0 := grow_trans hw0 hw
  clear hb hw
  have hw := Below.refl w5.heap.size w5
  cases hf : findP p n0 with
  | none =>
    repeat' (first | (refine lw_pure rfl (pv_move rfl) ?_) | (refine lw_pure rfl (pv_assign rfl) ?_) | (refine is_cw ?_; first | (refine cw_seq ?_) | (refine cw_region ?_) | (refine cw_true rfl rfl ?_) | (refine cw_block ?_) | (refine cw_exit ?_) | (refine cw_ret ?_)) | (refine is_qw ?_; first | (with_reducible refine qw_then ?_) | (with_reducible refine qw_in_hit ?_) | (with_reducible refine qw_then_exit ?_) | (with_reducible refine qw_then_ret ?_) | (with_reducible refine qw_in_ret ?_)) | (refine lw_nil ?_) | (refine is_guarded ?_; first | (refine lw_not rfl rfl rfl rfl ?_)) | ((refine is_un ?_; first | (refine lw_pure rfl (pv_not rfl) ?_))) | (refine lw_pure rfl (pv_pick_t rfl rfl rfl) ?_))
    exact qw_ret2 rfl rfl rfl ⟨⟨_, rfl, fun h => by cases h⟩, grow_trans hw0 hw⟩
  | some x =>
    rw [hf] at HX
    replace HX : PT w5 N11 69 (encP x) := HX
    cases hg : findP p n1 with
    | none =>
      repeat' (first | (refine lw_pure rfl (pv_move rfl) ?_) | (refine lw_pure rfl (pv_assign rfl) ?_) | (refine is_cw ?_; first | (refine cw_seq ?_) | (refine cw_region ?_) | (refine cw_true rfl rfl ?_) | (refine cw_block ?_) | (refine cw_exit ?_) | (refine cw_ret ?_)) | (refine is_qw ?_; first | (with_reducible refine qw_then ?_) | (with_reducible refine qw_in_hit ?_) | (with_reducible refine qw_then_exit ?_) | (with_reducible refine qw_then_ret ?_) | (with_reducible refine qw_in_ret ?_)) | (refine lw_nil ?_) | (refine is_guarded ?_; first | (refine lw_on rfl rfl rfl ?_)) | ((refine is_un ?_; first | (refine lw_pure rfl (pv_not rfl) ?_))) | (refine lw_pure rfl (pv_pick_f rfl rfl rfl) ?_))
      exact qw_ret2 rfl rfl rfl ⟨⟨_, rfl, fun h => by cases h⟩, grow_trans hw0 hw⟩
    | some y =>
      rw [hg] at HY
      replace HY : PT w5 N13 69 (encP y) := HY
      dsimp only
      by_cases hs : x.side = y.side
      · rw [if_pos hs]
        repeat' (first | (refine lw_pure rfl (pv_move rfl) ?_) | (refine lw_pure rfl (pv_assign rfl) ?_) | (refine is_cw ?_; first | (refine cw_seq ?_) | (refine cw_region ?_) | (refine cw_false rfl rfl ?_) | (refine cw_true rfl (by first | assumption | exact decide_eq_true (by omega) | exact dec_notT (by omega)) ?_) | (refine cw_skip ?_) | (refine cw_block ?_) | (refine cw_exit ?_) | (refine cw_ret ?_)) | (refine is_qw ?_; first | (with_reducible refine qw_then ?_) | (with_reducible refine qw_in_hit ?_) | (refine qw_in_miss rfl ?_) | (with_reducible refine qw_then_exit ?_) | (with_reducible refine qw_then_ret ?_) | (with_reducible refine qw_in_ret ?_)) | (refine lw_nil ?_) | (refine is_guarded ?_; first | (refine lw_on rfl rfl rfl ?_)) | ((refine is_bin ?_; first | (refine lw_pure rfl (pv_eql rfl rfl) ?_))) | ((refine is_load ?_; first | (refine lw_pure rfl (pv_load (t1 rfl) rfl (by first | exact PT.ld0 (HX.mono hw) rfl | exact PT.ld (HX.mono hw) rfl | exact PT.ld0 (HY.mono hw) rfl | exact PT.ld (HY.mono hw) rfl)) ?_))) | ((refine is_fa ?_; first | (refine lw_pure rfl (pv_fa (tF rfl) rfl) ?_))) | ((refine is_un ?_; first | (refine lw_pure rfl (pv_not rfl) ?_))) | (refine lw_pure rfl (pv_pick_f rfl rfl rfl) ?_))
        exact qw_ret2 rfl rfl rfl ⟨⟨_, rfl, fun h => by cases h⟩, grow_trans hw0 hw⟩
      · rw [if_neg hs]
        by_cases h2s : x.side = 2
        · rw [if_pos h2s]
          repeat' (first | (refine lw_pure rfl (pv_move rfl) ?_) | (refine lw_pure rfl (pv_assign rfl) ?_) | (refine is_cw ?_; first | (refine cw_seq ?_) | (refine cw_region ?_) | (refine cw_false rfl rfl ?_) | (refine cw_true rfl (by first | assumption | exact decide_eq_true (by omega) | exact dec_notT (by omega)) ?_) | (refine cw_false rfl (by first | assumption | exact decide_eq_false (by omega) | exact dec_notF (by omega)) ?_) | (refine cw_skip ?_) | (refine cw_block ?_) | (refine cw_exit ?_)) | (refine is_qw ?_; first | (with_reducible refine qw_then ?_) | (with_reducible refine qw_in_hit ?_) | (refine qw_in_miss rfl ?_) | (with_reducible refine qw_then_exit ?_)) | (refine lw_nil ?_) | (refine is_guarded ?_; first | (refine lw_on rfl rfl rfl ?_)) | ((refine is_bin ?_; first | (refine lw_pure rfl (pv_eql rfl rfl) ?_))) | ((refine is_load ?_; first | (refine lw_pure rfl (pv_load (t1 rfl) rfl (by first | exact PT.ld0 (HX.mono hw) rfl | exact PT.ld (HX.mono hw) rfl | exact PT.ld0 (HY.mono hw) rfl | exact PT.ld (HY.mono hw) rfl)) ?_) | (refine lw_pure rfl (pv_loada (tA rfl) rfl (by first | exact PT.lda (HX.mono hw) | exact PT.lda (HY.mono hw)) (by rfl)) ?_))) | ((refine is_fa ?_; first | (refine lw_pure rfl (pv_fa (tF rfl) rfl) ?_))) | ((refine is_un ?_; first | (refine lw_pure rfl (pv_not rfl) ?_))) | (refine lw_pure rfl (pv_pick_f rfl rfl rfl) ?_))
          refine lw_storea (vs := encP y) HX (tZ rfl) rfl rfl rfl rfl (encP_one _) ?_; intro w6 HX6 hg6 hz6
          replace HY : PT w6 N13 69 (encP y) := (hg6.block N13 HY.lt (fun e => hXY (Option.some.inj e).symm)).trans HY
          replace HN := HN.grown hg6 (by intro ad h; injection h with h; subst h; show some ab ≠ some _; intro e; injection e with e; omega)
          replace hw0 := hw0.grown hg6 hw0.size (by intro q hq; injection hq with hq; omega)
          clear hw
          have hw := Below.refl w6.heap.size w6
          refine lw_storea (vs := encP x) HY (tZ rfl) rfl rfl rfl rfl (encP_one _) ?_; intro w7 HY7 hg7 hz7
          have HX7 : PT w7 N11 69 (encP y) := (hg7.block N11 HX6.lt (fun e => hXY (Option.some.inj e))).trans HX6
          replace HN := HN.grown hg7 (by intro ad h; injection h with h; subst h; show some ab ≠ some _; intro e; injection e with e; omega)
          replace hw0 := hw0.grown hg7 hw0.size (by intro q hq; injection hq with hq; omega)
          clear hw
          have hw := Below.refl w7.heap.size w7
          repeat' (first | (refine is_cw ?_; first | (refine cw_seq ?_)) | (refine is_qw ?_; first | (with_reducible refine qw_then ?_) | (with_reducible refine qw_in ?_)) | (refine lw_nil ?_))
          refine cw_drawn (fun w' => Below w7.heap.size w7 w') (by kernel_rfl) (by repeat (first | exact NoPanic.body | with_reducible refine NoPanic.then ?_ | with_reducible refine NoPanic.inBlock ?_)) (fun hNP => ?_)
          have hS := hw.drew
          (refine at0 0 rfl (fun w' hq => pv_move rfl) ?_)
          (refine at0 1 rfl (fun w' hq => pv_ia (tS rfl) rfl rfl (by omega)) ?_)
          (refine at0 2 rfl (fun w' hq => pv_load (t1 rfl) rfl (by first | exact SlR.ld (HN.mono hq) hx2 rfl | exact SlR.ld1 (HN.mono hq) hx2 rfl | exact SlR.ld (HN.mono hq) hx3 rfl | exact SlR.ld1 (HN.mono hq) hx3 rfl)) ?_)
          (refine at0 3 rfl (fun w' hq => pv_move rfl) ?_)
          (refine at0 4 rfl (fun w' hq => pv_ia (tS rfl) rfl rfl (by omega)) ?_)
          (refine at0 5 rfl (fun w' hq => pv_load (t1 rfl) rfl (by first | exact SlR.ld (HN.mono hq) hx2 rfl | exact SlR.ld1 (HN.mono hq) hx2 rfl | exact SlR.ld (HN.mono hq) hx3 rfl | exact SlR.ld1 (HN.mono hq) hx3 rfl)) ?_)
          (refine at0 6 rfl (fun w' hq => pv_mul rfl rfl (by omega)) ?_)
          (refine at0 7 rfl (fun w' hq => pv_assign rfl) ?_)
          refine aw_done (by kernel_rfl) ?_
          replace hw := hS; clear hS hNP
          repeat' (first | (refine is_cw ?_; first | (refine cw_seq ?_)) | (refine is_qw ?_; first | (with_reducible refine qw_then ?_)))
          refine cw_drawn (fun w' => Below w7.heap.size w7 w') (by kernel_rfl) (by repeat (first | exact NoPanic.body | with_reducible refine NoPanic.then ?_ | with_reducible refine NoPanic.inBlock ?_)) (fun hNP => ?_)
          have hS := hw.drew
          (refine at0 0 rfl (fun w' hq => pv_move rfl) ?_)
          (refine at0 1 rfl (fun w' hq => pv_fa (tF rfl) rfl) ?_)
          (refine at0 2 rfl (fun w' hq => pv_load (t1 rfl) rfl (by first | exact PT.ld0 (HX7.mono hq) rfl | exact PT.ld (HX7.mono hq) rfl | exact PT.ld0 (HY7.mono hq) rfl | exact PT.ld (HY7.mono hq) rfl | exact SlR.ld (HN.mono hq) hx4 rfl | exact SlR.ld1 (HN.mono hq) hx4 rfl)) ?_)
          (refine at0 3 rfl (fun w' hq => pv_fa (tF rfl) rfl) ?_)
          (refine at0 4 rfl (fun w' hq => pv_load (t1 rfl) rfl (by first | exact PT.ld0 (HX7.mono hq) rfl | exact PT.ld (HX7.mono hq) rfl | exact PT.ld0 (HY7.mono hq) rfl | exact PT.ld (HY7.mono hq) rfl | exact SlR.ld (HN.mono hq) hx4 rfl | exact SlR.ld1 (HN.mono hq) hx4 rfl)) ?_)
          (refine at0 6 rfl (fun w' hq => pv_move rfl) ?_)
          (refine at0 7 rfl (fun w' hq => pv_neg rfl (by omega)) ?_)
          (refine at0 8 rfl (fun w' hq => pv_move rfl) ?_)
          (refine at0 9 rfl (fun w' hq => pv_move rfl) ?_)
          (refine at0 10 rfl (fun w' hq => pv_ia (tS rfl) rfl rfl (by omega)) ?_)
          (refine at0 11 rfl (fun w' hq => pv_load (t1 rfl) rfl (by first | exact PT.ld0 (HX7.mono hq) rfl | exact PT.ld (HX7.mono hq) rfl | exact PT.ld0 (HY7.mono hq) rfl | exact PT.ld (HY7.mono hq) rfl | exact SlR.ld (HN.mono hq) hx4 rfl | exact SlR.ld1 (HN.mono hq) hx4 rfl)) ?_)
          (refine at0 12 rfl (fun w' hq => pv_sub rfl rfl (by omega)) ?_)
          refine aw_act2 5 13 (by kernel_rfl) rfl rfl rfl rfl rfl rfl ?_ ?_
          · refine act_bs (vs := [.int .i64 y.acct, .int .i64 x.acct]) (cs := [.int .i64 y.acct, .int .i64 x.acct]) elemA rfl rfl (by omega) (by omega) rfl (by simp [Value.cells]) ?_; intro wa HA hba; have SA := HA.slR (xs := [y.acct, x.acct]) encI_len rfl (by simp); (try replace SB := SB.mono hba); refine ⟨grow_trans hS hba, fun hS => ?_⟩; clear hba
            refine aw_act 13 (by kernel_rfl) rfl rfl rfl ?_
            refine act_bs (vs := [.int .i64 (-(n2 * n3)), .int .i64 (n2 * n3 - n4)]) (cs := [.int .i64 (-(n2 * n3)), .int .i64 (n2 * n3 - n4)]) elemB6 rfl rfl (by omega) (by omega) rfl (by simp [Value.cells]) ?_; intro wb HB hbb; have SB := HB.slR (xs := [-(n2 * n3), n2 * n3 - n4]) encI_len rfl (by simp); (try replace SA := SA.mono hbb); refine ⟨grow_trans hS hbb, fun hS => ?_⟩; clear hbb
            refine aw_act 14 (by kernel_rfl) rfl rfl rfl ?_
            refine act_callv (f := 57) rfl (by kernel_rfl) rfl (row_c (rs := [(y.acct, -(n2 * n3)), (x.acct, n2 * n3 - n4)]) rfl SA SB) ?_; rintro e2 w4 ⟨⟨F, rfl, HF⟩, hb⟩; refine ⟨_, rfl, grow_trans hS hb, fun hS => ?_⟩; clear hb
            (refine at0 15 rfl (fun w' hq => pv_assign rfl) ?_)
            (refine at0 16 rfl (fun w' hq => pv_assign rfl) ?_)
            refine aw_done (by kernel_rfl) ?_
            replace hw := hS; clear hS hNP
            (repeat' (first | (refine is_cw ?_; first | (refine cw_ret ?_)) | (refine is_qw ?_; first | (with_reducible refine qw_then ?_) | (with_reducible refine qw_then_ret ?_) | (with_reducible refine qw_in_ret ?_)))); exact qw_ret2 rfl rfl rfl ⟨⟨F, rfl, fun _ => HF⟩, grow_trans hw0 hw⟩
          · refine act_bs (vs := [.int .i64 (-(n2 * n3)), .int .i64 (n2 * n3 - n4)]) (cs := [.int .i64 (-(n2 * n3)), .int .i64 (n2 * n3 - n4)]) elemB6 rfl rfl (by omega) (by omega) rfl (by simp [Value.cells]) ?_; intro wb HB hbb; have SB := HB.slR (xs := [-(n2 * n3), n2 * n3 - n4]) encI_len rfl (by simp); (try replace SA := SA.mono hbb); refine ⟨grow_trans hS hbb, fun hS => ?_⟩; clear hbb
            refine aw_act 5 (by kernel_rfl) rfl rfl rfl ?_
            refine act_bs (vs := [.int .i64 y.acct, .int .i64 x.acct]) (cs := [.int .i64 y.acct, .int .i64 x.acct]) elemA rfl rfl (by omega) (by omega) rfl (by simp [Value.cells]) ?_; intro wa HA hba; have SA := HA.slR (xs := [y.acct, x.acct]) encI_len rfl (by simp); (try replace SB := SB.mono hba); refine ⟨grow_trans hS hba, fun hS => ?_⟩; clear hba
            refine aw_act 14 (by kernel_rfl) rfl rfl rfl ?_
            refine act_callv (f := 57) rfl (by kernel_rfl) rfl (row_c (rs := [(y.acct, -(n2 * n3)), (x.acct, n2 * n3 - n4)]) rfl SA SB) ?_; rintro e2 w4 ⟨⟨F, rfl, HF⟩, hb⟩; refine ⟨_, rfl, grow_trans hS hb, fun hS => ?_⟩; clear hb
            (refine at0 15 rfl (fun w' hq => pv_assign rfl) ?_)
            (refine at0 16 rfl (fun w' hq => pv_assign rfl) ?_)
            refine aw_done (by kernel_rfl) ?_
            replace hw := hS; clear hS hNP
            (repeat' (first | (refine is_cw ?_; first | (refine cw_ret ?_)) | (refine is_qw ?_; first | (with_reducible refine qw_then ?_) | (with_reducible refine qw_then_ret ?_) | (with_reducible refine qw_in_ret ?_)))); exact qw_ret2 rfl rfl rfl ⟨⟨F, rfl, fun _ => HF⟩, grow_trans hw0 hw⟩
        · rw [if_neg h2s]
          repeat' (first | (refine lw_pure rfl (pv_move rfl) ?_) | (refine lw_pure rfl (pv_assign rfl) ?_) | (refine is_cw ?_; first | (refine cw_seq ?_) | (refine cw_region ?_) | (refine cw_false rfl rfl ?_) | (refine cw_false rfl (by first | assumption | exact decide_eq_false (by omega) | exact dec_notF (by omega)) ?_) | (refine cw_skip ?_) | (refine cw_block ?_) | (refine cw_exit ?_)) | (refine is_qw ?_; first | (with_reducible refine qw_then ?_) | (with_reducible refine qw_in_hit ?_) | (refine qw_in_miss rfl ?_) | (with_reducible refine qw_then_exit ?_)) | (refine lw_nil ?_) | (refine is_guarded ?_; first | (refine lw_on rfl rfl rfl ?_)) | ((refine is_bin ?_; first | (refine lw_pure rfl (pv_eql rfl rfl) ?_))) | ((refine is_load ?_; first | (refine lw_pure rfl (pv_load (t1 rfl) rfl (by first | exact PT.ld0 (HX.mono hw) rfl | exact PT.ld (HX.mono hw) rfl | exact PT.ld0 (HY.mono hw) rfl | exact PT.ld (HY.mono hw) rfl)) ?_))) | ((refine is_fa ?_; first | (refine lw_pure rfl (pv_fa (tF rfl) rfl) ?_))) | ((refine is_un ?_; first | (refine lw_pure rfl (pv_not rfl) ?_))) | (refine lw_pure rfl (pv_pick_f rfl rfl rfl) ?_))
          refine cw_drawn (fun w' => Below w5.heap.size w5 w') (by kernel_rfl) (by repeat (first | exact NoPanic.body | with_reducible refine NoPanic.then ?_ | with_reducible refine NoPanic.inBlock ?_)) (fun hNP => ?_)
          have hS := hw.drew
          (refine at0 0 rfl (fun w' hq => pv_move rfl) ?_)
          (refine at0 1 rfl (fun w' hq => pv_ia (tS rfl) rfl rfl (by omega)) ?_)
          (refine at0 2 rfl (fun w' hq => pv_load (t1 rfl) rfl (by first | exact SlR.ld (HN.mono hq) hx2 rfl | exact SlR.ld1 (HN.mono hq) hx2 rfl | exact SlR.ld (HN.mono hq) hx3 rfl | exact SlR.ld1 (HN.mono hq) hx3 rfl)) ?_)
          (refine at0 3 rfl (fun w' hq => pv_move rfl) ?_)
          (refine at0 4 rfl (fun w' hq => pv_ia (tS rfl) rfl rfl (by omega)) ?_)
          (refine at0 5 rfl (fun w' hq => pv_load (t1 rfl) rfl (by first | exact SlR.ld (HN.mono hq) hx2 rfl | exact SlR.ld1 (HN.mono hq) hx2 rfl | exact SlR.ld (HN.mono hq) hx3 rfl | exact SlR.ld1 (HN.mono hq) hx3 rfl)) ?_)
          (refine at0 6 rfl (fun w' hq => pv_mul rfl rfl (by omega)) ?_)
          (refine at0 7 rfl (fun w' hq => pv_assign rfl) ?_)
          refine aw_done (by kernel_rfl) ?_
          replace hw := hS; clear hS hNP
          repeat' (first | (refine is_cw ?_; first | (refine cw_seq ?_)) | (refine is_qw ?_; first | (with_reducible refine qw_then ?_)))
          refine cw_drawn (fun w' => Below w5.heap.size w5 w') (by kernel_rfl) (by repeat (first | exact NoPanic.body | with_reducible refine NoPanic.then ?_ | with_reducible refine NoPanic.inBlock ?_)) (fun hNP => ?_)
          have hS := hw.drew
          (refine at0 0 rfl (fun w' hq => pv_move rfl) ?_)
          (refine at0 1 rfl (fun w' hq => pv_fa (tF rfl) rfl) ?_)
          (refine at0 2 rfl (fun w' hq => pv_load (t1 rfl) rfl (by first | exact PT.ld0 (HX.mono hq) rfl | exact PT.ld (HX.mono hq) rfl | exact PT.ld0 (HY.mono hq) rfl | exact PT.ld (HY.mono hq) rfl | exact SlR.ld (HN.mono hq) hx4 rfl | exact SlR.ld1 (HN.mono hq) hx4 rfl)) ?_)
          (refine at0 3 rfl (fun w' hq => pv_fa (tF rfl) rfl) ?_)
          (refine at0 4 rfl (fun w' hq => pv_load (t1 rfl) rfl (by first | exact PT.ld0 (HX.mono hq) rfl | exact PT.ld (HX.mono hq) rfl | exact PT.ld0 (HY.mono hq) rfl | exact PT.ld (HY.mono hq) rfl | exact SlR.ld (HN.mono hq) hx4 rfl | exact SlR.ld1 (HN.mono hq) hx4 rfl)) ?_)
          (refine at0 6 rfl (fun w' hq => pv_move rfl) ?_)
          (refine at0 7 rfl (fun w' hq => pv_neg rfl (by omega)) ?_)
          (refine at0 8 rfl (fun w' hq => pv_move rfl) ?_)
          (refine at0 9 rfl (fun w' hq => pv_move rfl) ?_)
          (refine at0 10 rfl (fun w' hq => pv_ia (tS rfl) rfl rfl (by omega)) ?_)
          (refine at0 11 rfl (fun w' hq => pv_load (t1 rfl) rfl (by first | exact PT.ld0 (HX.mono hq) rfl | exact PT.ld (HX.mono hq) rfl | exact PT.ld0 (HY.mono hq) rfl | exact PT.ld (HY.mono hq) rfl | exact SlR.ld (HN.mono hq) hx4 rfl | exact SlR.ld1 (HN.mono hq) hx4 rfl)) ?_)
          (refine at0 12 rfl (fun w' hq => pv_sub rfl rfl (by omega)) ?_)
          refine aw_act2 5 13 (by kernel_rfl) rfl rfl rfl rfl rfl rfl ?_ ?_
          · refine act_bs (vs := [.int .i64 x.acct, .int .i64 y.acct]) (cs := [.int .i64 x.acct, .int .i64 y.acct]) elemA rfl rfl (by omega) (by omega) rfl (by simp [Value.cells]) ?_; intro wa HA hba; have SA := HA.slR (xs := [x.acct, y.acct]) encI_len rfl (by simp); (try replace SB := SB.mono hba); refine ⟨grow_trans hS hba, fun hS => ?_⟩; clear hba
            refine aw_act 13 (by kernel_rfl) rfl rfl rfl ?_
            refine act_bs (vs := [.int .i64 (-(n2 * n3)), .int .i64 (n2 * n3 - n4)]) (cs := [.int .i64 (-(n2 * n3)), .int .i64 (n2 * n3 - n4)]) elemB6 rfl rfl (by omega) (by omega) rfl (by simp [Value.cells]) ?_; intro wb HB hbb; have SB := HB.slR (xs := [-(n2 * n3), n2 * n3 - n4]) encI_len rfl (by simp); (try replace SA := SA.mono hbb); refine ⟨grow_trans hS hbb, fun hS => ?_⟩; clear hbb
            refine aw_act 14 (by kernel_rfl) rfl rfl rfl ?_
            refine act_callv (f := 57) rfl (by kernel_rfl) rfl (row_c (rs := [(x.acct, -(n2 * n3)), (y.acct, n2 * n3 - n4)]) rfl SA SB) ?_; rintro e2 w4 ⟨⟨F, rfl, HF⟩, hb⟩; refine ⟨_, rfl, grow_trans hS hb, fun hS => ?_⟩; clear hb
            (refine at0 15 rfl (fun w' hq => pv_assign rfl) ?_)
            (refine at0 16 rfl (fun w' hq => pv_assign rfl) ?_)
            refine aw_done (by kernel_rfl) ?_
            replace hw := hS; clear hS hNP
            (repeat' (first | (refine is_cw ?_; first | (refine cw_ret ?_)) | (refine is_qw ?_; first | (with_reducible refine qw_then ?_) | (with_reducible refine qw_then_ret ?_) | (with_reducible refine qw_in_ret ?_)))); exact qw_ret2 rfl rfl rfl ⟨⟨F, rfl, fun _ => HF⟩, grow_trans hw0 hw⟩
          · refine act_bs (vs := [.int .i64 (-(n2 * n3)), .int .i64 (n2 * n3 - n4)]) (cs := [.int .i64 (-(n2 * n3)), .int .i64 (n2 * n3 - n4)]) elemB6 rfl rfl (by omega) (by omega) rfl (by simp [Value.cells]) ?_; intro wb HB hbb; have SB := HB.slR (xs := [-(n2 * n3), n2 * n3 - n4]) encI_len rfl (by simp); (try replace SA := SA.mono hbb); refine ⟨grow_trans hS hbb, fun hS => ?_⟩; clear hbb
            refine aw_act 5 (by kernel_rfl) rfl rfl rfl ?_
            refine act_bs (vs := [.int .i64 x.acct, .int .i64 y.acct]) (cs := [.int .i64 x.acct, .int .i64 y.acct]) elemA rfl rfl (by omega) (by omega) rfl (by simp [Value.cells]) ?_; intro wa HA hba; have SA := HA.slR (xs := [x.acct, y.acct]) encI_len rfl (by simp); (try replace SB := SB.mono hba); refine ⟨grow_trans hS hba, fun hS => ?_⟩; clear hba
            refine aw_act 14 (by kernel_rfl) rfl rfl rfl ?_
            refine act_callv (f := 57) rfl (by kernel_rfl) rfl (row_c (rs := [(x.acct, -(n2 * n3)), (y.acct, n2 * n3 - n4)]) rfl SA SB) ?_; rintro e2 w4 ⟨⟨F, rfl, HF⟩, hb⟩; refine ⟨_, rfl, grow_trans hS hb, fun hS => ?_⟩; clear hb
            (refine at0 15 rfl (fun w' hq => pv_assign rfl) ?_)
            (refine at0 16 rfl (fun w' hq => pv_assign rfl) ?_)
            refine aw_done (by kernel_rfl) ?_
            replace hw := hS; clear hS hNP
            (repeat' (first | (refine is_cw ?_; first | (refine cw_ret ?_)) | (refine is_qw ?_; first | (with_reducible refine qw_then ?_) | (with_reducible refine qw_then_ret ?_) | (with_reducible refine qw_in_ret ?_)))); exact qw_ret2 rfl rfl rfl ⟨⟨F, rfl, fun _ => HF⟩, grow_trans hw0 hw⟩
set_option maxHeartbeats 1000000 in
theorem deltas_c {p : List Opn} {t : List Lt} {e : Evt} {ap at_ an ax : Option Addr} {mp mt mn mx cp ct cn cx : Nat} {w : World} (hm : e.nums.length = mn) (hE : mayE e = true) (hv : e.v = 3) (hmp : p.length = mp) (hmt : t.length = mt) (HP : SlR encP 6 w ap cp p) (HL : SlR encL 4 w at_ ct t) (HN : SlR encI 1 w an cn e.nums) :
    Calls Tryz.prog 28 #[.slice ap mp cp, .slice at_ mt ct, .agg #[.int .u8 e.v, .int .u8 e.kind, .slice an mn cn, .slice ax mx cx]] w fun e1 w' => (∃ F, e1 = .returned (.tuple #[F, .int .i64 (rowsL p t e).1]) ∧ ((rowsL p t e).1 = 0 → RowF w' F (rowsL p t e).2)) ∧ Below w.heap.size w w' := by
  by_cases k6 : e.kind = 6
  · exact deltas6_c hm hE hv k6 HN
  by_cases k7 : e.kind = 7
  · exact deltas7_c hm hE hv k7 HN
  by_cases k21 : e.kind = 21
  · exact deltas21_c hm hE hv k21 HN
  by_cases k13 : e.kind = 13
  · exact deltas13_c hm hE hv k13 hmp HP HN
  by_cases k18 : e.kind = 18
  · exact deltas18_c hm hE hv k18 hmt HL HN
  exact deltasN_c hv (decide_eq_false (by omega))
end Go.Proofs.YtnffmbfdfhokeaaGreatDoor
namespace Go.Proofs.YtnffmbfdfhokeaaGreatDoor.R
open Go.RowKit Go.PlainAid

theorem bal_none {xs : List Ln} {a : Int} (h : ∀ x ∈ xs, x.acct ≠ a) : balL xs a = 0 := by
  have key : ∀ (l : List Ln) (b : Int), (∀ x ∈ l, x.acct ≠ a) → l.foldl (fun b x => if x.acct = a then x.bal else b) b = b := by
    intro l
    induction l with
    | nil => intro b _; rfl
    | cons x r ih =>
      intro b hx
      rw [List.foldl_cons, if_neg (hx x List.mem_cons_self)]
      exact ih b fun y hy => hx y (List.mem_cons_of_mem _ hy)
  exact key xs 0 h
theorem bal_hit {p q : List Ln} {x : Ln} {a : Int} (h : ∀ y ∈ q, y.acct ≠ a) (hx : x.acct = a) : balL (p ++ x :: q) a = x.bal := by
  have key : ∀ (l : List Ln) (b : Int), (∀ x ∈ l, x.acct ≠ a) → l.foldl (fun b x => if x.acct = a then x.bal else b) b = b := by
    intro l
    induction l with
    | nil => intro b _; rfl
    | cons x r ih =>
      intro b hx
      rw [List.foldl_cons, if_neg (hx x List.mem_cons_self)]
      exact ih b fun y hy => hx y (List.mem_cons_of_mem _ hy)
  unfold balL
  rw [List.foldl_append, List.foldl_cons, if_pos hx]
  exact key q _ h
theorem zv64 (w : World) : (zeroValue 2).run Tryz.prog w = .ok (.int .i64 0) w := by kernel_rfl
theorem zvLn (w : World) : (zeroValue 37).run Tryz.prog w = .ok (.agg #[.int .i64 0, .int .i64 0, .int .u8 0, .int .i64 0, .int .i64 0]) w := by kernel_rfl
def BalI (w : World) (N3 N4 : Nat) (acct : Int) (pre : List (Int × Ln)) (W : World) : Prop := (Below w.heap.size w W ∧ PT W N3 3 [.int .i64 acct] ∧ PT W N4 2 [.int .i64 0]) ∧ ∀ q ∈ pre, q.2.acct ≠ acct
def BalX (w : World) (N4 : Nat) (acct : Int) (c : Code) (pre : List (Int × Ln)) (W : World) : Prop := ∃ p x, c = .ret ∧ pre = p ++ [x] ∧ (∀ q ∈ p, q.2.acct ≠ acct) ∧ x.2.acct = acct ∧ Below w.heap.size w W ∧ PT W N4 2 [.int .i64 x.2.bal]
theorem qw_as {n : Nat} {l : Fr} {w : World} {σ : Type} {B : Nat} {Kp : World → World → Prop} {J : World → Prop} {LB : σ → Fr} {F : σ → World → Prop} {W : World} (y : σ) (h0 : Sub (LB y) l) (hF : F y w) (h1 : KeepsFrom B W w) (h2 : Kp W w) (h3 : J w) : QW n (lift [] (Exit.then (fun a' W' => ∃ y, Holds n (LB y) a' ∧ F y W' ∧ KeepsFrom B W W' ∧ Kp W W' ∧ J W') (fun _ _ _ => False))) .normal l w :=
  qw_assign (LB := fun (_ : Unit) => LB) (F := fun _ => F) (I := fun (_ : List Unit) => J) (x := ()) (pre := []) y h0 hF h1 h2 h3
theorem qw_round1 {n : Nat} {l : Fr} {w : World} {α : Type} {B : Nat} {Kp : World → World → Prop} {I : List α → World → Prop} {Ix : Code → List α → World → Prop} {xs : List α} {W : World} (h1 : KeepsFrom B W w) (h2 : Kp W w) (h3 : I xs w) : QW n (lift [] (ownPostG B Kp I Ix xs W)) .normal l w := ⟨fun _ _ => ⟨h1, h2, h3⟩⟩
theorem qw_leave {n : Nat} {l : Fr} {w : World} {α : Type} {B : Nat} {Kp : World → World → Prop} {I : List α → World → Prop} {Ix : Code → List α → World → Prop} {xs : List α} {W : World} (h1 : KeepsFrom B W w) (h3 : Ix .ret xs w) : QW n (lift [] (ownPostG B Kp I Ix xs W)) .ret l w := ⟨fun _ _ => ⟨h1, h3⟩⟩
theorem put_keep {w W : World} {D : Nat} (hw : w.heap.size ≤ D) (hW : W.heap[D]? = some (.deferred (some []))) (hB : Below w.heap.size w W) {N : Nat} {T : TypeId} {cs : List Value} (hN : N ≠ D) (h : PT W N T cs) : Below w.heap.size w (W.putObj D (.deferred none)) ∧ PT (W.putObj D (.deferred none)) N T cs := by
  have hb := belowK_b (n₀ := w.heap.size) (w := w) (Nat.le_refl _) W D _ (.deferred none) hw hW rfl rfl
  refine ⟨hB.trans hb, ?_⟩
  have hg := grownBy_putObj' W D (.deferred none)
  exact (hg.block N h.lt (fun e => hN (by cases e; rfl))).trans h
set_option maxRecDepth 20000 in
theorem balance_c {xs : List Ln} {m c : Nat} {a : Option Addr} {w : World} (acct : Int) (hm : xs.length = m) (HS : SlR encN 5 w a c xs) : Calls Tryz.prog 14 #[.slice a m c, .int .i64 acct] w fun e w' => e = .returned (.int .i64 (balL xs acct)) ∧ Below w.heap.size w w' := by
  have hw := Below.refl w.heap.size w
  refine calls_of_fr (r := none) (n := 2) ?_
  show CallsIn (fr none) 2 Tryz.prog _ [Value.slice a m c, .int .i64 acct].toArray w _
  refine R.fn_enter _ 17 Tryz.func14 rfl rfl rfl ?_
  refine cw_seq (cw_region ?_)
  refine lw_boxN rfl rfl (cs := [.int .i64 acct]) rfl ?_; intro N3 w3 hN3 H3 hb; replace hw := grow_trans hw hb; clear hb
  refine lw_allocN rfl zv64 rfl ?_; intro N4 w4 hN4 H4 hb
  have h34 := H3.lt
  replace H3 := H3.mono hb
  replace hw := grow_trans hw hb
  clear hb
  repeat' (first | (refine lw_pure rfl (pv_move rfl) ?_) | (refine lw_pure rfl (pv_assign rfl) ?_) | (refine is_cw ?_; first | (refine cw_seq ?_) | (refine cw_region ?_) | (refine cw_true rfl rfl ?_) | (refine cw_false rfl rfl ?_) | (refine cw_true rfl (by first | assumption | exact decide_eq_true (by omega) | exact dec_notT (by omega)) ?_) | (refine cw_false rfl (by first | assumption | exact decide_eq_false (by omega) | exact dec_notF (by omega)) ?_) | (refine cw_skip ?_) | (refine cw_block ?_) | (refine cw_ret ?_)) | (refine is_qw ?_; first | (with_reducible refine qw_then ?_) | (with_reducible refine qw_in ?_) | (with_reducible refine qw_in_hit ?_) | (refine qw_in_miss rfl ?_) | (with_reducible refine qw_then_exit ?_) | (with_reducible refine qw_then_ret ?_) | (with_reducible refine qw_in_ret ?_)) | (refine lw_nil ?_) | ((refine is_bin ?_; first | (refine lw_pure rfl (pv_eql rfl rfl) ?_))) | ((refine is_load ?_; first | (refine lw_pure rfl (pv_load (t1 rfl) rfl (by first | fail)) ?_) | (refine lw_pure rfl (pv_loada (tA rfl) rfl (by first | fail) (by rfl)) ?_))) | ((refine is_fa ?_; first | (refine lw_pure rfl (pv_fa (tF rfl) rfl) ?_))))
  refine lw_call (f := 41) (by kernel_rfl) rfl rfl (backward_c a m c _) ?_; rintro e w5 ⟨⟨B, rfl, HB⟩, hb⟩; refine ⟨_, rfl, ?_⟩
  replace H3 := H3.mono hb
  replace H4 := H4.mono hb
  have h4l := H4.lt
  replace hw := grow_trans hw hb
  have hb5 := hb
  clear hb
  repeat' ((fail_if_success (refine is_seqb ?_)); (fail_if_success (refine is_blk ?_)); first | (refine lw_pure rfl (pv_move rfl) ?_) | (refine lw_pure rfl (pv_assign rfl) ?_) | (refine is_cw ?_; first | (refine cw_seq ?_) | (refine cw_region ?_) | (refine cw_true rfl rfl ?_) | (refine cw_false rfl rfl ?_) | (refine cw_true rfl (by first | assumption | exact decide_eq_true (by omega) | exact dec_notT (by omega)) ?_) | (refine cw_false rfl (by first | assumption | exact decide_eq_false (by omega) | exact dec_notF (by omega)) ?_) | (refine cw_skip ?_) | (refine cw_block ?_) | (refine cw_ret ?_)) | (refine is_qw ?_; first | (with_reducible refine qw_then ?_) | (with_reducible refine qw_in ?_) | (with_reducible refine qw_in_hit ?_) | (refine qw_in_miss rfl ?_) | (with_reducible refine qw_then_exit ?_) | (with_reducible refine qw_then_ret ?_) | (with_reducible refine qw_in_ret ?_)) | (refine lw_nil ?_) | ((refine is_bin ?_; first | (refine lw_pure rfl (pv_eql rfl rfl) ?_))) | ((refine is_load ?_; first | (refine lw_pure rfl (pv_load (t1 rfl) rfl (by first | fail)) ?_) | (refine lw_pure rfl (pv_loada (tA rfl) rfl (by first | fail) (by rfl)) ?_))) | ((refine is_fa ?_; first | (refine lw_pure rfl (pv_fa (tF rfl) rfl) ?_))))
  refine cw_block ?_
  have hne : N3 ≠ N4 := by omega
  refine cw_range (k := 0) (σ := Nat) (ps := [9, 10]) (encs := encX) rfl (by kernel_rfl) (back_stops hm HB (HS.mono hw)) (fun h k => h.trans k) (belowK_b (Nat.le_refl _)) (Below.refl _ _) (fun _ => rfl) (by intro p hp; simp at hp; rcases hp with rfl | rfl <;> rfl)
    (BalI w5 N3 N4 acct) (BalX w N4 acct) ?_ ?_ ⟨⟨Below.refl _ _, H3, H4⟩, by simp⟩ (fun x y => [(3, .pointer (some ⟨N3, 0, none⟩)), (4, .pointer (some ⟨N4, 0, none⟩)), (6, .pointer (some ⟨y, 0, none⟩))]) (fun x y W => PT W y 37 (encN x.2)) (fun x y _ A C row h hg hr => pt_from h hg hr) ?_ ?_ ?_ ?_
  · rintro s A C row ⟨⟨h1, h2, h3⟩, h4⟩ hg hr
    exact ⟨⟨below_from h1 (Nat.le_refl _) hg hr, pt_from h2 hg hr, pt_from h3 hg hr⟩, h4⟩
  · rintro cc s A C row ⟨p, x, h1, h2, h3, h4, h5, h6⟩ hg hr
    exact ⟨p, x, h1, h2, h3, h4, below_from h5 hw.size hg hr, pt_from h6 hg hr⟩
  · rintro ln pre x W ⟨⟨hB, h3, h4⟩, hn⟩
    have hs := hB.size
    refine cw_region ?_
    refine lw_allocN rfl zvLn rfl ?_; intro N6 w6 hN6 H6 hb
    refine lw_storea (vs := encN x.2) H6 (tZ rfl) rfl rfl rfl rfl (encN_one x.2) ?_; intro w7 H7 hg7 hz7
    refine lw_nil ?_
    have hk1 : KeepsFrom w5.heap.size W w7 := (keeps_below hb).trans (keeps_pt H6 hg7)
    have hb7 : Below W.heap.size W w7 := hb.trans ((Below.refl _ _).grown hg7 hb.size (fun q e => by injection e with e; omega))
    exact qw_as N6 (by repeat' (first | exact trivial | refine ⟨rfl, ?_⟩)) H7 hk1 (hb7.mono (by have := hw.size; omega)) ⟨⟨grow_trans hB hb7, h3.mono hb7, h4.mono hb7⟩, hn⟩
  · rintro ln pre x y W - - ⟨⟨hB, h3, h4⟩, hn⟩ hF hpl
    have hF := (hF : PT W y 37 (encN x.2))
    have hs := hB.size
    have hw0 := hw
    clear hw
    have hw := Below.refl W.heap.size W
    refine cw_block ?_
    repeat' (first | (refine lw_pure rfl (pv_move rfl) ?_) | (refine lw_pure rfl (pv_assign rfl) ?_) | (refine is_cw ?_; first | (refine cw_seq ?_) | (refine cw_region ?_) | (refine cw_true rfl rfl ?_) | (refine cw_false rfl rfl ?_) | (refine cw_true rfl (by first | assumption | exact decide_eq_true (by omega) | exact dec_notT (by omega)) ?_) | (refine cw_false rfl (by first | assumption | exact decide_eq_false (by omega) | exact dec_notF (by omega)) ?_) | (refine cw_skip ?_) | (refine cw_block ?_) | (refine cw_ret ?_)) | (refine is_qw ?_; first | (with_reducible refine qw_then ?_) | (with_reducible refine qw_in ?_) | (with_reducible refine qw_in_hit ?_) | (refine qw_in_miss rfl ?_) | (with_reducible refine qw_then_exit ?_) | (with_reducible refine qw_then_ret ?_) | (with_reducible refine qw_in_ret ?_)) | (refine lw_nil ?_) | ((refine is_bin ?_; first | (refine lw_pure rfl (pv_eql rfl rfl) ?_))) | ((refine is_load ?_; first | (refine lw_pure rfl (pv_load (t1 rfl) rfl (by first | exact PT.ld0 (h3.mono hw) rfl | exact PT.ld (h3.mono hw) rfl | exact PT.ld0 (hF.mono hw) rfl | exact PT.ld (hF.mono hw) rfl)) ?_) | (refine lw_pure rfl (pv_loada (tA rfl) rfl (by first | exact PT.lda (h3.mono hw) | exact PT.lda (hF.mono hw)) (by rfl)) ?_))) | ((refine is_fa ?_; first | (refine lw_pure rfl (pv_fa (tF rfl) rfl) ?_))))
    · refine cw_split (b := decide (x.2.acct = acct)) rfl ?_ ?_
      · intro hd
        have hd := of_decide_eq_true hd
        refine cw_seq ?_
        refine cw_region ?_
        iterate 2 (first | (refine lw_pure rfl (pv_move rfl) ?_) | (refine lw_pure rfl (pv_assign rfl) ?_) | (refine is_cw ?_; first | (refine cw_seq ?_) | (refine cw_region ?_) | (refine cw_true rfl rfl ?_) | (refine cw_false rfl rfl ?_) | (refine cw_true rfl (by first | assumption | exact decide_eq_true (by omega) | exact dec_notT (by omega)) ?_) | (refine cw_false rfl (by first | assumption | exact decide_eq_false (by omega) | exact dec_notF (by omega)) ?_) | (refine cw_skip ?_) | (refine cw_block ?_) | (refine cw_ret ?_)) | (refine is_qw ?_; first | (with_reducible refine qw_then ?_) | (with_reducible refine qw_in ?_) | (with_reducible refine qw_in_hit ?_) | (refine qw_in_miss rfl ?_) | (with_reducible refine qw_then_exit ?_) | (with_reducible refine qw_then_ret ?_) | (with_reducible refine qw_in_ret ?_)) | (refine lw_nil ?_) | ((refine is_bin ?_; first | (refine lw_pure rfl (pv_eql rfl rfl) ?_))) | ((refine is_load ?_; first | (refine lw_pure rfl (pv_load (t1 rfl) rfl (by first | exact PT.ld0 (hF.mono hw) rfl | exact PT.ld (hF.mono hw) rfl)) ?_) | (refine lw_pure rfl (pv_loada (tA rfl) rfl (by first | exact PT.lda (hF.mono hw)) (by rfl)) ?_))) | ((refine is_fa ?_; first | (refine lw_pure rfl (pv_fa (tF rfl) rfl) ?_))))
        refine lw_store h4 (tZ rfl) rfl rfl rfl (by simp) ?_; intro w7 H7 hg7 hz7
        refine lw_nil ?_
        refine qw_then ?_
        refine cw_ret ?_
        refine qw_in_ret ?_
        exact qw_leave (keeps_pt h4 hg7) ⟨pre, x, rfl, rfl, hn, hd, hw0.trans ((hB.mono hw0.size).grown hg7 (by have := hw0.size; omega) (fun q e => by injection e with e; omega)), H7⟩
      · intro hd
        have hd := of_decide_eq_false hd
        refine cw_skip ?_
        refine qw_in ?_
        refine qw_round1 (keeps_below hw) (Below.refl _ _) ⟨⟨hB, h3, h4⟩, ?_⟩
        intro q hq
        rcases List.mem_append.1 hq with hq | hq
        · exact hn q hq
        · rw [List.mem_singleton.1 hq]; exact hd
  · rintro D ys W hD hS ⟨⟨hB, h3, h4⟩, hn⟩ hW
    have hD4 : N4 ≠ D := by omega
    refine qw_in ?_
    refine qw_then ?_
    refine cw_seq ?_
    refine cw_region ?_
    refine lw_store h4 (tZ rfl) rfl rfl rfl (by simp) ?_; intro w7 H7 hg7 hz7
    refine lw_nil ?_
    refine qw_then ?_
    refine cw_ret ?_
    have hwD : w.heap.size ≤ D := Nat.le_trans hw.size hD
    have hW7 : w7.heap[D]? = some (.deferred (some [])) := (hg7.block D (Array.getElem?_eq_some_iff.1 hW).1 (fun e => by injection e with e; omega)).trans hW
    have hw7 : Below w.heap.size w w7 := (hw.trans (hB.mono hw.size)).grown hg7 (by have := hB.size; have := hw.size; omega) (fun q e => by injection e with e; omega)
    obtain ⟨h8, h9⟩ := put_keep hwD hW7 hw7 hD4 H7
    refine qw_retM1 hW7 (qw_retc rfl rfl (one_ld (t1 rfl) (h9.ld rfl)) ⟨?_, h8⟩)
    rw [bal_none]
    intro z hz
    have hz : z ∈ xs.reverse := List.mem_reverse.2 hz
    rw [← (show ys.map (·.2) = xs.reverse from hS)] at hz
    obtain ⟨q, hq, rfl⟩ := List.mem_map.1 hz
    exact hn q hq
  · rintro D cc pre W hD hS ⟨p, x, rfl, rfl, h3, h4, h5, h6⟩ hW
    refine cw_ret ?_
    refine qw_in_ret ?_
    refine qw_then_ret ?_
    have hD4 : N4 ≠ D := by omega
    obtain ⟨h8, h9⟩ := put_keep (Nat.le_trans hw.size hD) hW h5 hD4 h6
    refine qw_retM1 hW (qw_retc rfl rfl (one_ld (t1 rfl) (h9.ld rfl)) ⟨?_, h8⟩)
    obtain ⟨r, hr⟩ := hS
    have hx : xs = r.reverse ++ x.2 :: (p.map (·.2)).reverse := by
      have := congrArg List.reverse hr
      rw [List.reverse_reverse] at this
      rw [← this]
      simp
    rw [hx, bal_hit ?_ h4]
    intro z hz
    obtain ⟨q, hq, rfl⟩ := List.mem_map.1 (List.mem_reverse.1 hz)
    exact h3 q hq
end Go.Proofs.YtnffmbfdfhokeaaGreatDoor.R
namespace Go.Proofs.YtnffmbfdfhokeaaGreatDoor.R
open Go.RowKit Go.PlainAid

theorem rows_in {p : List Opn} {t : List Lt} {e : Evt} (hE : mayE e = true) (hv : e.v = 3) : ∀ r ∈ (rowsL p t e).2, -9223372036854775808 ≤ r.2 ∧ r.2 ≤ 9223372036854775807 := by
  unfold rowsL nthI
  by_cases k6 : e.kind = 6
  · obtain ⟨n0, n1, hn, h0, h1⟩ := lnums6 hE hv (Or.inl k6)
    rw [if_pos k6, hn]; intro r hr; simp at hr; subst hr; simp; omega
  rw [if_neg k6]
  by_cases k7 : e.kind = 7
  · obtain ⟨n0, n1, hn, h0, h1⟩ := lnums6 hE hv (Or.inr k7)
    rw [if_pos k7, hn]; intro r hr; simp at hr; subst hr; simp; omega
  rw [if_neg k7]
  by_cases k21 : e.kind = 21
  · obtain ⟨n0, n1, n2, hn, h0, h1, h2⟩ := lnums21 hE hv k21
    rw [if_pos k21, hn]; intro r hr; simp at hr; rcases hr with rfl | rfl <;> simp <;> omega
  rw [if_neg k21]
  by_cases k13 : e.kind = 13
  · obtain ⟨n0, n1, n2, n3, n4, hn, h2, h3, h4⟩ := lnums13 hE hv k13
    have hm := mul_in h2 h3
    rw [if_pos k13, hn]
    simp only [List.getD_cons_zero, List.getD_cons_succ]
    split
    · split
      · intro r hr; simp at hr
      · split
        · intro r hr; simp at hr; rcases hr with rfl | rfl <;> dsimp only <;> omega
        · intro r hr; simp at hr; rcases hr with rfl | rfl <;> dsimp only <;> omega
    · intro r hr; simp at hr
  rw [if_neg k13]
  by_cases k18 : e.kind = 18
  · obtain ⟨n0, n1, n2, n3, hn, h1, h2, h3⟩ := lnums18 hE hv k18
    rw [if_pos k18, hn]
    simp only [List.getD_cons_zero, List.getD_cons_succ]
    split
    · intro r hr; simp at hr; rcases hr with rfl | rfl <;> dsimp only <;> omega
    · intro r hr; simp at hr
  rw [if_neg k18]
  intro r hr; simp at hr
theorem rows_few (p : List Opn) (t : List Lt) (e : Evt) : (rowsL p t e).2.length ≤ 2 := by
  unfold rowsL
  (repeat' split) <;> simp
theorem adds_app (seq kind : Int) : ∀ (a b : List (Int × Int)) (l : List Ln), addsL seq kind l (a ++ b) = (addsL seq kind l a).bind fun l' => addsL seq kind l' b
  | [], b, l => rfl
  | r :: a, b, l => by
    show (addL l seq kind r.1 r.2).bind _ = ((addL l seq kind r.1 r.2).bind _).bind _
    cases addL l seq kind r.1 r.2 with
    | none => rfl
    | some l' => exact adds_app seq kind a b l'
theorem adds_notZ (seq kind : Int) : ∀ (rs : List (Int × Int)) (l : List Ln), addsL seq kind l (notZ rs) = addsL seq kind l rs
  | [], l => rfl
  | r :: rs, l => by
    by_cases h0 : r.2 = 0
    · have e1 : notZ (r :: rs) = notZ rs := by unfold notZ; rw [List.filter_cons, if_neg (by simp [h0])]
      rw [e1, adds_notZ seq kind rs l]
      show _ = (addL l seq kind r.1 r.2).bind _
      unfold addL; rw [if_pos h0]; rfl
    · have e1 : notZ (r :: rs) = r :: notZ rs := by unfold notZ; rw [List.filter_cons, if_pos (by simp [h0])]
      rw [e1]
      show (addL l seq kind r.1 r.2).bind _ = (addL l seq kind r.1 r.2).bind _
      congr 1
      funext l'
      exact adds_notZ seq kind rs l'
theorem addL_yes {l : List Ln} {seq kind a b : Int} (h0 : b ≠ 0) (h : 0 ≤ balL l a + b ∧ balL l a + b ≤ 1125899906842624) : addL l seq kind a b = some (l ++ [⟨a, seq, kind, b, balL l a + b⟩]) := by unfold addL; rw [if_neg h0, if_pos h]
theorem addL_no {l : List Ln} {seq kind a b : Int} (h0 : b ≠ 0) (h : ¬ (0 ≤ balL l a + b ∧ balL l a + b ≤ 1125899906842624)) : addL l seq kind a b = none := by unfold addL; rw [if_neg h0, if_neg h]
theorem own_ne_pt {α : Type} {enc : α → List Value} {k : Nat} {T T' : TypeId} {B N : Nat} {w : World} {v : Value} {xs : List α} {cs : List Value} (h : Go.Proofs.YtnffmbfdfhokeaaGreatDoor.Own enc k T B w v xs) (hp : PT w N T' cs) (hT : T ≠ T') : v.ownBlock ≠ some N := by
  obtain ⟨_, h2⟩ := h
  rcases h2 with ⟨rfl, _⟩ | ⟨g, cap, cur, rfl, _, hg, _⟩
  · intro e; cases e
  · intro e
    have e2 : g = N := by simpa [Value.ownBlock] using e
    subst e2
    rw [show w.heap[g]? = _ from hp] at hg; injection hg with hg; injection hg with _ hg _; exact hT hg.symm
theorem qw_retcc {P : Program} {n : Nat} {l : Fr} {w : World} {fn : Func} {R : Ending → World → Prop} {t T B o t2 T2 B2 o2 : Nat} {v v2 : Value} (hr : fn.results = #[.cell t T, .cell t2 T2]) (h1 : look l t = some (.pointer (some ⟨B, o, none⟩))) (h2 : look l t2 = some (.pointer (some ⟨B2, o2, none⟩))) (hl : (loadVar T ⟨B, o, none⟩).run P w = .ok v w) (hl2 : (loadVar T2 ⟨B2, o2, none⟩).run P w = .ok v2 w) (hR : R (.returned (.tuple #[v, v2])) w) : QW n (bodyPost P fn R) .ret l w :=
  qw_retv (fun a ha => by simp [results, hr, ha.2.2 _ _ h1, ha.2.2 _ _ h2, asAddr, hl, hl2]) hR
structure EvI (B : Nat) (w4 : World) (N8 N9 N10 N11 N14 : Nat) (l : List Ln) (seq kind : Int) (ecs : List Value) (pre : List Nz) (W : World) : Prop where
  b : Below w4.heap.size w4 W
  z : B ≤ W.heap.size
  p8 : PT W N8 2 [.int .i64 seq]
  p9 : PT W N9 28 ecs
  p10 : PT W N10 22 [.slice none 0 0]
  p11 : PT W N11 32 [.int .i64 0]
  x : ∃ v xs, PT W N14 22 [v] ∧ Go.Proofs.YtnffmbfdfhokeaaGreatDoor.Own encN 5 37 w4.heap.size W v xs ∧ addsL seq kind l (pre.map (·.1)) = some xs ∧ xs.length = l.length + pre.length ∧ ∀ a, 0 ≤ balL xs a ∧ balL xs a ≤ 1125899906842624
def EvX (w : World) (N10 N11 : Nat) (l : List Ln) (seq kind : Int) (c : Code) (pre : List Nz) (W : World) : Prop := c = .ret ∧ addsL seq kind l (pre.map (·.1)) = none ∧ Below w.heap.size w W ∧ PT W N10 22 [.slice none 0 0] ∧ PT W N11 32 [.int .i64 41]
end Go.Proofs.YtnffmbfdfhokeaaGreatDoor.R
namespace Go.Proofs.YtnffmbfdfhokeaaGreatDoor.R
open Go.RowKit Go.PlainAid

theorem mayLn_e {l : List Ln} {m : Nat} {ad : Option Addr} {cap : Nat} {r : Bool} {w : World} (h : mayLn l = r) (hm : l.length = m) (HS : SlR encN 5 w ad cap l) (hin : In64N l) : Calls Tryz.prog 7 #[.slice ad m cap] w fun e w' => e = .returned (.bool r) ∧ Below w.heap.size w w' := by
  subst h; exact mayL_c hm HS hin
theorem mayV_el {p : List Opn} {t : List Lt} {m n : Nat} {a b : Option Addr} {ca cb : Nat} {r : Bool} {w : World} (h : mayV p t = r) (hm : p.length = m) (hn : t.length = n) (HP : SlR encP 6 w a ca p) (HL : SlR encL 4 w b cb t) : Calls Tryz.prog 26 #[.slice a m ca, .slice b n cb] w fun e w' => e = .returned (.bool r) ∧ Below w.heap.size w w' := by
  subst h; exact mayV_c hm hn HP HL
theorem mayE_el {e : Evt} {m n : Nat} {a b : Option Addr} {ca cb : Nat} {r : Bool} {w : World} (h : mayE e = r) (h8 : 0 ≤ e.kind ∧ e.kind ≤ 255) (hm : e.nums.length = m) (hn : e.texts.length = n) (HN : SlR encI 1 w a ca e.nums) (HT : SlR encT 1 w b cb e.texts) (hT : TxtIn e.texts) (hK : KnW w) : Calls Tryz.prog 27 #[.agg #[.int .u8 e.v, .int .u8 e.kind, .slice a m ca, .slice b n cb]] w fun e1 w' => e1 = .returned (.bool r) ∧ Below w.heap.size w w' := by
  subst h; exact mayE_c h8 hm hn HN HT hT hK
theorem zvS (w : World) : (zeroValue 22).run Tryz.prog w = .ok (.slice none 0 0) w := by kernel_rfl
theorem zvK (w : World) : (zeroValue 32).run Tryz.prog w = .ok (.int .i64 0) w := by kernel_rfl
theorem pt_kept {N N' : Nat} {T : TypeId} {cs : List Value} {w w' : World} (h : PT w N T cs) (hg : w.grownBy w' (some N')) (hne : N ≠ N') : PT w' N T cs := (hg.block N h.lt (fun e => hne (Option.some.inj e))).trans h
theorem seq_last {l : List Ln} {j : Nat} {x : Ln} (h : l.length = j + 1) (hx : l[j]? = some x) : seqL l = x.seq := by
  have e : l.getLast? = some x := by rw [List.getLast?_eq_getElem?, h]; exact hx
  unfold seqL; rw [e]; rfl
theorem seq_nil {l : List Ln} (h : l.length = 0) : seqL l = 0 := by
  rw [List.length_eq_zero_iff.1 h]; rfl
set_option maxRecDepth 20000 in
set_option maxHeartbeats 8000000 in
theorem stmt_c {l : List Ln} {p : List Opn} {t : List Lt} {e : Evt} {seq : Int} {ml mp mt mn mx : Nat} {al ap at_ an ax : Option Addr} {cl cp ct cn cx : Nat} {w : World} (h8 : 0 ≤ e.kind ∧ e.kind ≤ 255) (hml : l.length = ml) (hmp : p.length = mp) (hmt : t.length = mt) (hmn : e.nums.length = mn) (hmx : e.texts.length = mx) (HS : SlR encN 5 w al cl l) (hin : In64N l) (hll : l.length ≤ 524288) (HP : SlR encP 6 w ap cp p) (HL : SlR encL 4 w at_ ct t) (HN : SlR encI 1 w an cn e.nums) (HX : SlR encT 1 w ax cx e.texts) (hT : TxtIn e.texts) (hK : KnW w) :
    Calls Tryz.prog 9 #[.slice al ml cl, .slice ap mp cp, .slice at_ mt ct, .int .i64 seq, .agg #[.int .u8 e.v, .int .u8 e.kind, .slice an mn cn, .slice ax mx cx]] w fun e1 w' => (∃ v, e1 = .returned (.tuple #[v, .int .i64 (stmtL l p t seq e).1]) ∧ Go.Proofs.YtnffmbfdfhokeaaGreatDoor.Own encN 5 37 w.heap.size w' v (stmtL l p t seq e).2) ∧ Below w.heap.size w w' := by
  have hw := Below.refl w.heap.size w
  refine calls_of_fr (r := none) (n := 2) ?_
  show CallsIn (fr none) 2 Tryz.prog _ [Value.slice al ml cl, .slice ap mp cp, .slice at_ mt ct, .int .i64 seq, .agg #[.int .u8 e.v, .int .u8 e.kind, .slice an mn cn, .slice ax mx cx]].toArray w _
  refine R.fn_enter _ 100 Tryz.func9 rfl rfl rfl ?_
  refine cw_seq (cw_region ?_)
  refine lw_boxN rfl rfl (cs := [.int .i64 seq]) rfl ?_; intro N8 w1 hN8 H8 hb; have hl8 := H8.lt; replace hw := grow_trans hw hb; clear hb
  refine lw_boxN rfl rfl (cs := [.int .u8 e.v, .int .u8 e.kind, .slice an mn cn, .slice ax mx cx]) rfl ?_; intro N9 w2 hN9 H9 hb; have hl9 := H9.lt; replace H8 := H8.mono hb; replace hw := grow_trans hw hb; clear hb
  refine lw_allocN rfl zvS rfl ?_; intro N10 w3 hN10 H10 hb; have hl10 := H10.lt; replace H8 := H8.mono hb; replace H9 := H9.mono hb; replace hw := grow_trans hw hb; clear hb
  refine lw_allocN rfl zvK rfl ?_; intro N11 w4 hN11 H11 hb; have hl11 := H11.lt; replace H8 := H8.mono hb; replace H9 := H9.mono hb; replace H10 := H10.mono hb; replace hw := grow_trans hw hb; clear hb
  have hw0 := hw
  clear hw
  have hw := Below.refl w4.heap.size w4
  replace HS := HS.mono hw0
  replace HP := HP.mono hw0
  replace HL := HL.mono hw0
  replace HN := HN.mono hw0
  replace HX := HX.mono hw0
  replace hK := hK.mono hw0
  replace H10 : PT w4 N10 22 [.slice none 0 0] := H10
  replace H11 : PT w4 N11 32 [.int .i64 0] := H11
  have hbx : (0 ≤ seq ∧ seq < 1048576) ∨ ¬ (0 ≤ seq ∧ seq < 1048576) := Decidable.em _
  have hbad : ¬ (mayLn l = true ∧ mayV p t = true ∧ e.v = 3 ∧ mayE e = true ∧ (0 ≤ seq ∧ seq < 1048576) ∧ seqL l ≤ seq) → stmtL l p t seq e = (4, []) := fun h => by
    have hf : formL l p t seq e = false := by
      rw [Bool.eq_false_iff]
      intro hf
      unfold formL at hf
      simp only [Bool.and_eq_true, decide_eq_true_eq] at hf
      exact h ⟨hf.1.1.1.1.1, hf.1.1.1.1.2, hf.1.1.1.2, hf.1.1.2, hf.1.2, hf.2⟩
    unfold stmtL; rw [if_pos hf]
  refine lw_nil ?_
  refine qw_then ?_
  refine cw_cut (σ := Unit) (fun _ => [(0, .slice al ml cl), (1, .slice ap mp cp), (2, .slice at_ mt ct), (8, .pointer (some ⟨N8, 0, none⟩)), (9, .pointer (some ⟨N9, 0, none⟩)), (10, .pointer (some ⟨N10, 0, none⟩)), (11, .pointer (some ⟨N11, 0, none⟩))]) (fun _ w' => Below w4.heap.size w4 w' ∧ mayLn l = true ∧ mayV p t = true ∧ e.v = 3 ∧ mayE e = true ∧ (0 ≤ seq ∧ seq < 1048576) ∧ seqL l ≤ seq) ?_ ?_
  · by_cases h1 : mayLn l = true
    case neg =>
      rw [hbad (fun h => h1 h.1)]
      replace h1 : mayLn l = false := by simpa using h1
      repeat' (first | (refine lw_pure rfl (pv_move rfl) ?_) | (refine lw_pure rfl (pv_assign rfl) ?_) | (refine lw_call (f := 7) (by kernel_rfl) rfl rfl (mayLn_e h1 hml (HS.mono hw) hin) ?_; rintro e w1 ⟨rfl, hb⟩; refine ⟨_, rfl, ?_⟩; replace hw := grow_trans hw hb; clear hb) | (refine is_cw ?_; first | (refine cw_seq ?_) | (refine cw_region ?_) | (refine cw_true rfl rfl ?_) | (refine cw_block ?_) | (refine cw_exit ?_)) | (refine is_qw ?_; first | (with_reducible refine qw_then ?_) | (with_reducible refine qw_in ?_) | (with_reducible refine qw_in_hit ?_) | (with_reducible refine qw_then_exit ?_)) | (refine lw_nil ?_) | (refine is_guarded ?_; first | (refine lw_not rfl rfl rfl rfl ?_)) | ((refine is_un ?_; first | (refine lw_pure rfl (pv_not rfl) ?_))) | (refine lw_pure rfl (pv_pick_t rfl rfl rfl) ?_))
      refine lw_store (H10.mono hw) (tZ rfl) rfl rfl rfl (by simp) ?_; intro wa Ha hga hza; have Hb := pt_kept (H11.mono hw) hga (by omega); refine lw_store Hb (tZ rfl) rfl rfl rfl (by simp) ?_; intro wb Hc hgb hzb; have Hd := pt_kept Ha hgb (by omega); have hwz := ((grow_trans hw0 hw).grown hga (by have := hw0.size; have := hw.size; omega) (fun q e => by injection e with e; omega)).grown hgb (by have := hw0.size; have := hw.size; omega) (fun q e => by injection e with e; omega)
      repeat' (first | (refine is_cw ?_; first | (refine cw_ret ?_)) | (refine is_qw ?_; first | (with_reducible refine qw_then ?_) | (with_reducible refine qw_then_ret ?_) | (with_reducible refine qw_in_ret ?_)) | (refine lw_nil ?_))
      exact qw_retM0 (qw_retcc rfl rfl rfl (one_ld (t1 rfl) (Hd.ld rfl)) (one_ld (t1 rfl) (Hc.ld rfl)) ⟨⟨_, rfl, Own.nil _⟩, hwz⟩)
    by_cases h2 : mayV p t = true
    case neg =>
      rw [hbad (fun h => h2 h.2.1)]
      replace h2 : mayV p t = false := by simpa using h2
      repeat' (first | (refine lw_pure rfl (pv_move rfl) ?_) | (refine lw_pure rfl (pv_assign rfl) ?_) | (refine lw_call (f := 7) (by kernel_rfl) rfl rfl (mayLn_e h1 hml (HS.mono hw) hin) ?_; rintro e w1 ⟨rfl, hb⟩; refine ⟨_, rfl, ?_⟩; replace hw := grow_trans hw hb; clear hb) | (refine lw_call (f := 26) (by kernel_rfl) rfl rfl (mayV_el h2 hmp hmt (HP.mono hw) (HL.mono hw)) ?_; rintro e w1 ⟨rfl, hb⟩; refine ⟨_, rfl, ?_⟩; replace hw := grow_trans hw hb; clear hb) | (refine is_cw ?_; first | (refine cw_seq ?_) | (refine cw_region ?_) | (refine cw_true rfl rfl ?_) | (refine cw_block ?_) | (refine cw_exit ?_)) | (refine is_qw ?_; first | (with_reducible refine qw_then ?_) | (with_reducible refine qw_in ?_) | (with_reducible refine qw_in_hit ?_) | (with_reducible refine qw_then_exit ?_)) | (refine lw_nil ?_) | (refine is_guarded ?_; first | (refine lw_not rfl rfl rfl rfl ?_) | (refine lw_on rfl rfl rfl ?_)) | ((refine is_un ?_; first | (refine lw_pure rfl (pv_not rfl) ?_))) | (refine lw_pure rfl (pv_pick_t rfl rfl rfl) ?_) | (refine lw_pure rfl (pv_pick_f rfl rfl rfl) ?_))
      refine lw_store (H10.mono hw) (tZ rfl) rfl rfl rfl (by simp) ?_; intro wa Ha hga hza; have Hb := pt_kept (H11.mono hw) hga (by omega); refine lw_store Hb (tZ rfl) rfl rfl rfl (by simp) ?_; intro wb Hc hgb hzb; have Hd := pt_kept Ha hgb (by omega); have hwz := ((grow_trans hw0 hw).grown hga (by have := hw0.size; have := hw.size; omega) (fun q e => by injection e with e; omega)).grown hgb (by have := hw0.size; have := hw.size; omega) (fun q e => by injection e with e; omega)
      repeat' (first | (refine is_cw ?_; first | (refine cw_ret ?_)) | (refine is_qw ?_; first | (with_reducible refine qw_then ?_) | (with_reducible refine qw_then_ret ?_) | (with_reducible refine qw_in_ret ?_)) | (refine lw_nil ?_))
      exact qw_retM0 (qw_retcc rfl rfl rfl (one_ld (t1 rfl) (Hd.ld rfl)) (one_ld (t1 rfl) (Hc.ld rfl)) ⟨⟨_, rfl, Own.nil _⟩, hwz⟩)
    by_cases h3 : e.v = 3
    case neg =>
      rw [hbad (fun h => h3 h.2.2.1)]
      repeat' (first | (refine lw_pure rfl (pv_move rfl) ?_) | (refine lw_pure rfl (pv_assign rfl) ?_) | (refine lw_call (f := 7) (by kernel_rfl) rfl rfl (mayLn_e h1 hml (HS.mono hw) hin) ?_; rintro e w1 ⟨rfl, hb⟩; refine ⟨_, rfl, ?_⟩; replace hw := grow_trans hw hb; clear hb) | (refine lw_call (f := 26) (by kernel_rfl) rfl rfl (mayV_el h2 hmp hmt (HP.mono hw) (HL.mono hw)) ?_; rintro e w1 ⟨rfl, hb⟩; refine ⟨_, rfl, ?_⟩; replace hw := grow_trans hw hb; clear hb) | (refine is_cw ?_; first | (refine cw_seq ?_) | (refine cw_region ?_) | (refine cw_true rfl rfl ?_) | (refine cw_block ?_) | (refine cw_exit ?_)) | (refine is_qw ?_; first | (with_reducible refine qw_then ?_) | (with_reducible refine qw_in ?_) | (with_reducible refine qw_in_hit ?_) | (with_reducible refine qw_then_exit ?_)) | (refine lw_nil ?_) | (refine is_guarded ?_; first | (refine lw_not rfl rfl rfl rfl ?_) | (refine lw_on rfl rfl rfl ?_) | (refine lw_not rfl rfl rfl (by first | assumption | exact decide_eq_true (by omega) | exact decide_eq_false (by omega) | exact dec_notT (by omega) | exact dec_notF (by omega)) ?_)) | ((refine is_bin ?_; first | (refine lw_pure rfl (pv_neq rfl rfl) ?_))) | ((refine is_load ?_; first | (refine lw_pure rfl (pv_load (t1 rfl) rfl (by first | exact PT.ld0 (H8.mono hw) rfl | exact PT.ld (H8.mono hw) rfl | exact PT.ld0 (H9.mono hw) rfl | exact PT.ld (H9.mono hw) rfl)) ?_))) | ((refine is_fa ?_; first | (refine lw_pure rfl (pv_fa (tF rfl) rfl) ?_))) | ((refine is_un ?_; first | (refine lw_pure rfl (pv_not rfl) ?_))) | (refine lw_pure rfl (pv_pick_t rfl rfl rfl) ?_) | (refine lw_pure rfl (pv_pick_f rfl rfl rfl) ?_) | (refine lw_pure rfl (pv_pick_t rfl (by first | assumption | exact decide_eq_true (by omega) | exact dec_notT (by omega)) rfl) ?_))
      refine lw_store (H10.mono hw) (tZ rfl) rfl rfl rfl (by simp) ?_; intro wa Ha hga hza; have Hb := pt_kept (H11.mono hw) hga (by omega); refine lw_store Hb (tZ rfl) rfl rfl rfl (by simp) ?_; intro wb Hc hgb hzb; have Hd := pt_kept Ha hgb (by omega); have hwz := ((grow_trans hw0 hw).grown hga (by have := hw0.size; have := hw.size; omega) (fun q e => by injection e with e; omega)).grown hgb (by have := hw0.size; have := hw.size; omega) (fun q e => by injection e with e; omega)
      repeat' (first | (refine is_cw ?_; first | (refine cw_ret ?_)) | (refine is_qw ?_; first | (with_reducible refine qw_then ?_) | (with_reducible refine qw_then_ret ?_) | (with_reducible refine qw_in_ret ?_)) | (refine lw_nil ?_))
      exact qw_retM0 (qw_retcc rfl rfl rfl (one_ld (t1 rfl) (Hd.ld rfl)) (one_ld (t1 rfl) (Hc.ld rfl)) ⟨⟨_, rfl, Own.nil _⟩, hwz⟩)
    by_cases h4 : mayE e = true
    case neg =>
      rw [hbad (fun h => h4 h.2.2.2.1)]
      replace h4 : mayE e = false := by simpa using h4
      repeat' (first | (refine lw_pure rfl (pv_move rfl) ?_) | (refine lw_pure rfl (pv_assign rfl) ?_) | (refine lw_call (f := 7) (by kernel_rfl) rfl rfl (mayLn_e h1 hml (HS.mono hw) hin) ?_; rintro e w1 ⟨rfl, hb⟩; refine ⟨_, rfl, ?_⟩; replace hw := grow_trans hw hb; clear hb) | (refine lw_call (f := 26) (by kernel_rfl) rfl rfl (mayV_el h2 hmp hmt (HP.mono hw) (HL.mono hw)) ?_; rintro e w1 ⟨rfl, hb⟩; refine ⟨_, rfl, ?_⟩; replace hw := grow_trans hw hb; clear hb) | (refine lw_call (f := 27) (by kernel_rfl) rfl rfl (mayE_el h4 h8 hmn hmx (HN.mono hw) (HX.mono hw) hT (hK.mono hw)) ?_; rintro e w1 ⟨rfl, hb⟩; refine ⟨_, rfl, ?_⟩; replace hw := grow_trans hw hb; clear hb) | (refine is_cw ?_; first | (refine cw_seq ?_) | (refine cw_region ?_) | (refine cw_true rfl rfl ?_) | (refine cw_block ?_) | (refine cw_exit ?_)) | (refine is_qw ?_; first | (with_reducible refine qw_then ?_) | (with_reducible refine qw_in ?_) | (with_reducible refine qw_in_hit ?_) | (with_reducible refine qw_then_exit ?_)) | (refine lw_nil ?_) | (refine is_guarded ?_; first | (refine lw_not rfl rfl rfl rfl ?_) | (refine lw_on rfl rfl rfl ?_) | (refine lw_on rfl rfl (by first | assumption | exact decide_eq_true (by omega) | exact decide_eq_false (by omega) | exact dec_notT (by omega) | exact dec_notF (by omega)) ?_)) | ((refine is_bin ?_; first | (refine lw_pure rfl (pv_neq rfl rfl) ?_))) | ((refine is_load ?_; first | (refine lw_pure rfl (pv_load (t1 rfl) rfl (by first | exact PT.ld0 (H8.mono hw) rfl | exact PT.ld (H8.mono hw) rfl | exact PT.ld0 (H9.mono hw) rfl | exact PT.ld (H9.mono hw) rfl)) ?_) | (refine lw_pure rfl (pv_loada (tA rfl) rfl (by first | exact PT.lda (H8.mono hw) | exact PT.lda (H9.mono hw)) (by rfl)) ?_))) | ((refine is_fa ?_; first | (refine lw_pure rfl (pv_fa (tF rfl) rfl) ?_))) | ((refine is_un ?_; first | (refine lw_pure rfl (pv_not rfl) ?_))) | (refine lw_pure rfl (pv_pick_t rfl rfl rfl) ?_) | (refine lw_pure rfl (pv_pick_f rfl rfl rfl) ?_) | (refine lw_pure rfl (pv_pick_f rfl (by first | assumption | exact decide_eq_false (by omega) | exact dec_notF (by omega)) rfl) ?_))
      refine lw_store (H10.mono hw) (tZ rfl) rfl rfl rfl (by simp) ?_; intro wa Ha hga hza; have Hb := pt_kept (H11.mono hw) hga (by omega); refine lw_store Hb (tZ rfl) rfl rfl rfl (by simp) ?_; intro wb Hc hgb hzb; have Hd := pt_kept Ha hgb (by omega); have hwz := ((grow_trans hw0 hw).grown hga (by have := hw0.size; have := hw.size; omega) (fun q e => by injection e with e; omega)).grown hgb (by have := hw0.size; have := hw.size; omega) (fun q e => by injection e with e; omega)
      repeat' (first | (refine is_cw ?_; first | (refine cw_ret ?_)) | (refine is_qw ?_; first | (with_reducible refine qw_then ?_) | (with_reducible refine qw_then_ret ?_) | (with_reducible refine qw_in_ret ?_)) | (refine lw_nil ?_))
      exact qw_retM0 (qw_retcc rfl rfl rfl (one_ld (t1 rfl) (Hd.ld rfl)) (one_ld (t1 rfl) (Hc.ld rfl)) ⟨⟨_, rfl, Own.nil _⟩, hwz⟩)
    by_cases h5 : 0 ≤ seq ∧ seq < 1048576
    case neg =>
      rw [hbad (fun h => h5 h.2.2.2.2.1)]
      repeat' (first | (refine lw_pure rfl (pv_move rfl) ?_) | (refine lw_pure rfl (pv_assign rfl) ?_) | (refine lw_call (f := 7) (by kernel_rfl) rfl rfl (mayLn_e h1 hml (HS.mono hw) hin) ?_; rintro e w1 ⟨rfl, hb⟩; refine ⟨_, rfl, ?_⟩; replace hw := grow_trans hw hb; clear hb) | (refine lw_call (f := 26) (by kernel_rfl) rfl rfl (mayV_el h2 hmp hmt (HP.mono hw) (HL.mono hw)) ?_; rintro e w1 ⟨rfl, hb⟩; refine ⟨_, rfl, ?_⟩; replace hw := grow_trans hw hb; clear hb) | (refine lw_call (f := 27) (by kernel_rfl) rfl rfl (mayE_el h4 h8 hmn hmx (HN.mono hw) (HX.mono hw) hT (hK.mono hw)) ?_; rintro e w1 ⟨rfl, hb⟩; refine ⟨_, rfl, ?_⟩; replace hw := grow_trans hw hb; clear hb) | (refine lw_call (f := 21) (by kernel_rfl) rfl rfl (batch_c _ _) ?_; rintro e w1 ⟨rfl, hb⟩; refine ⟨_, rfl, ?_⟩; replace hw := grow_trans hw hb; clear hb) | (refine is_cw ?_; first | (refine cw_seq ?_) | (refine cw_region ?_) | (refine cw_true rfl (by first | assumption | exact decide_eq_true (by omega) | exact dec_notT (by omega)) ?_) | (refine cw_block ?_) | (refine cw_exit ?_)) | (refine is_qw ?_; first | (with_reducible refine qw_then ?_) | (with_reducible refine qw_in ?_) | (with_reducible refine qw_in_hit ?_) | (with_reducible refine qw_then_exit ?_)) | (refine lw_nil ?_) | (refine is_guarded ?_; first | (refine lw_on rfl rfl rfl ?_) | (refine lw_on rfl rfl (by first | assumption | exact decide_eq_true (by omega) | exact decide_eq_false (by omega) | exact dec_notT (by omega) | exact dec_notF (by omega)) ?_)) | ((refine is_bin ?_; first | (refine lw_pure rfl (pv_neq rfl rfl) ?_))) | ((refine is_load ?_; first | (refine lw_pure rfl (pv_load (t1 rfl) rfl (by first | exact PT.ld0 (H8.mono hw) rfl | exact PT.ld (H8.mono hw) rfl | exact PT.ld0 (H9.mono hw) rfl | exact PT.ld (H9.mono hw) rfl)) ?_) | (refine lw_pure rfl (pv_loada (tA rfl) rfl (by first | exact PT.lda (H8.mono hw) | exact PT.lda (H9.mono hw)) (by rfl)) ?_))) | ((refine is_fa ?_; first | (refine lw_pure rfl (pv_fa (tF rfl) rfl) ?_))) | ((refine is_un ?_; first | (refine lw_pure rfl (pv_not rfl) ?_))) | (refine lw_pure rfl (pv_pick_f rfl rfl rfl) ?_) | (refine lw_pure rfl (pv_pick_f rfl (by first | assumption | exact decide_eq_false (by omega) | exact dec_notF (by omega)) rfl) ?_))
      refine lw_store (H10.mono hw) (tZ rfl) rfl rfl rfl (by simp) ?_; intro wa Ha hga hza; have Hb := pt_kept (H11.mono hw) hga (by omega); refine lw_store Hb (tZ rfl) rfl rfl rfl (by simp) ?_; intro wb Hc hgb hzb; have Hd := pt_kept Ha hgb (by omega); have hwz := ((grow_trans hw0 hw).grown hga (by have := hw0.size; have := hw.size; omega) (fun q e => by injection e with e; omega)).grown hgb (by have := hw0.size; have := hw.size; omega) (fun q e => by injection e with e; omega)
      repeat' (first | (refine is_cw ?_; first | (refine cw_ret ?_)) | (refine is_qw ?_; first | (with_reducible refine qw_then ?_) | (with_reducible refine qw_then_ret ?_) | (with_reducible refine qw_in_ret ?_)) | (refine lw_nil ?_))
      exact qw_retM0 (qw_retcc rfl rfl rfl (one_ld (t1 rfl) (Hd.ld rfl)) (one_ld (t1 rfl) (Hc.ld rfl)) ⟨⟨_, rfl, Own.nil _⟩, hwz⟩)
    repeat' ((fail_if_success (refine is_seqr 2 ?_)); first | (refine lw_pure rfl (pv_move rfl) ?_) | (refine lw_pure rfl (pv_assign rfl) ?_) | (refine lw_call (f := 7) (by kernel_rfl) rfl rfl (mayLn_e h1 hml (HS.mono hw) hin) ?_; rintro e w1 ⟨rfl, hb⟩; refine ⟨_, rfl, ?_⟩; replace hw := grow_trans hw hb; clear hb) | (refine lw_call (f := 26) (by kernel_rfl) rfl rfl (mayV_el h2 hmp hmt (HP.mono hw) (HL.mono hw)) ?_; rintro e w1 ⟨rfl, hb⟩; refine ⟨_, rfl, ?_⟩; replace hw := grow_trans hw hb; clear hb) | (refine lw_call (f := 27) (by kernel_rfl) rfl rfl (mayE_el h4 h8 hmn hmx (HN.mono hw) (HX.mono hw) hT (hK.mono hw)) ?_; rintro e w1 ⟨rfl, hb⟩; refine ⟨_, rfl, ?_⟩; replace hw := grow_trans hw hb; clear hb) | (refine lw_call (f := 21) (by kernel_rfl) rfl rfl (batch_c _ _) ?_; rintro e w1 ⟨rfl, hb⟩; refine ⟨_, rfl, ?_⟩; replace hw := grow_trans hw hb; clear hb) | (refine is_cw ?_; first | (refine cw_seq ?_) | (refine cw_region ?_) | (refine cw_false rfl (by first | assumption | exact decide_eq_false (by omega) | exact dec_notF (by omega)) ?_) | (refine cw_skip ?_) | (refine cw_block ?_)) | (refine is_qw ?_; first | (with_reducible refine qw_then ?_)) | (refine lw_nil ?_) | (refine is_guarded ?_; first | (refine lw_on rfl rfl rfl ?_) | (refine lw_on rfl rfl (by first | assumption | exact decide_eq_true (by omega) | exact decide_eq_false (by omega) | exact dec_notT (by omega) | exact dec_notF (by omega)) ?_)) | ((refine is_bin ?_; first | (refine lw_pure rfl (pv_neq rfl rfl) ?_))) | ((refine is_load ?_; first | (refine lw_pure rfl (pv_load (t1 rfl) rfl (by first | exact PT.ld0 (H8.mono hw) rfl | exact PT.ld (H8.mono hw) rfl | exact PT.ld0 (H9.mono hw) rfl | exact PT.ld (H9.mono hw) rfl)) ?_) | (refine lw_pure rfl (pv_loada (tA rfl) rfl (by first | exact PT.lda (H8.mono hw) | exact PT.lda (H9.mono hw)) (by rfl)) ?_))) | ((refine is_fa ?_; first | (refine lw_pure rfl (pv_fa (tF rfl) rfl) ?_))) | ((refine is_un ?_; first | (refine lw_pure rfl (pv_not rfl) ?_))) | (refine lw_pure rfl (pv_pick_f rfl rfl rfl) ?_) | (refine lw_pure rfl (pv_pick_f rfl (by first | assumption | exact decide_eq_false (by omega) | exact dec_notF (by omega)) rfl) ?_))
    refine cw_seq ?_
    by_cases h0 : l.length = 0
    case pos =>
      have h6 : seqL l ≤ seq := by rw [seq_nil h0]; exact h5.1
      subst hml
      refine cw_drawn (fun w' => Below w4.heap.size w4 w') (by kernel_rfl) (by repeat (first | exact NoPanic.body | with_reducible refine NoPanic.then ?_ | with_reducible refine NoPanic.inBlock ?_)) (fun hNP => ?_)
      have hS := hw.drew
      all_goals (refine at0 0 rfl (fun w' hq => pv_move rfl) ?_)
      all_goals (refine at0 1 rfl (fun w' hq => pv_lenl (tS rfl) rfl) ?_)
      all_goals (refine at0 2 rfl (fun w' hq => pv_gtr rfl rfl) ?_)
      all_goals (refine at0 3 rfl (fun w' hq => pv_move rfl) ?_)
      all_goals (refine an2 4 rfl rfl rfl ?_)
      all_goals (refine an2 5 rfl rfl rfl ?_)
      all_goals (refine an2 6 rfl rfl rfl ?_)
      all_goals (refine an2 7 rfl rfl rfl ?_)
      all_goals (refine an2 8 rfl rfl rfl ?_)
      all_goals (refine an2 9 rfl rfl rfl ?_)
      all_goals (refine an2 10 rfl rfl rfl ?_)
      all_goals (refine an2 11 rfl rfl rfl ?_)
      all_goals (refine an2 12 rfl rfl rfl ?_)
      all_goals (refine at0 13 rfl (fun w' hq => pv_pick_f rfl (by first | assumption | exact decide_eq_false (by omega) | exact dec_notF (by omega)) rfl) ?_)
      all_goals (refine at0 14 rfl (fun w' hq => pv_assign rfl) ?_)
      all_goals (refine aw_done (by kernel_rfl) ?_; replace hw := hS; clear hS hNP)
      repeat' (first | (refine is_cw ?_; first | (refine cw_false rfl rfl ?_) | (refine cw_skip ?_) | (refine cw_exit ?_)) | (refine is_qw ?_; first | (with_reducible refine qw_then ?_) | (with_reducible refine qw_in_hit ?_) | (refine qw_in_miss rfl ?_) | (with_reducible refine qw_then_exit ?_)))
      exact qw_join () (by repeat' (first | exact trivial | refine ⟨rfl, ?_⟩)) ⟨hw, h1, h2, h3, h4, h5, h6⟩
    obtain ⟨j, hj⟩ : ∃ j, l.length = j + 1 := ⟨l.length - 1, by omega⟩
    have hxj : l[j]? = some (l[j]'(by omega)) := List.getElem?_eq_getElem (by omega)
    have hmj : l[j]'(by omega) ∈ l := List.getElem_mem (by omega)
    generalize l[j]'(by omega) = x at hxj hmj
    have hsq := seq_last hj hxj
    obtain ⟨ab, ao, rfl, hab, -⟩ := HS.at (by intro h; rw [h] at hj; simp at hj)
    have hjj : (((j + 1 : Nat) : Int) - 1).toNat = j := by omega
    have hla := HS.le
    have hlm := HS.max
    have hld : ∀ w' : World, Below w4.heap.size w4 w' → w'.cell? ⟨ab, ao + (((j + 1 : Nat) : Int) - 1).toNat * 5 + 1, none⟩ = some (.int .i64 x.seq) := fun w' h => by rw [hjj]; exact (HS.mono h).ld hxj rfl
    obtain rfl : ml = j + 1 := by omega
    by_cases h6 : seqL l ≤ seq
    case neg =>
      rw [hbad (fun h => h6 h.2.2.2.2.2)]
      rw [hsq] at h6
      refine cw_drawn (fun w' => Below w4.heap.size w4 w') (by kernel_rfl) (by repeat (first | exact NoPanic.body | with_reducible refine NoPanic.then ?_ | with_reducible refine NoPanic.inBlock ?_)) (fun hNP => ?_)
      have hS := hw.drew
      all_goals (refine at0 0 rfl (fun w' hq => pv_move rfl) ?_)
      all_goals (refine at0 1 rfl (fun w' hq => pv_lenl (tS rfl) rfl) ?_)
      all_goals (refine at0 2 rfl (fun w' hq => pv_gtr rfl rfl) ?_)
      all_goals (refine at0 3 rfl (fun w' hq => pv_move rfl) ?_)
      all_goals (refine at2 4 rfl rfl rfl (fun w' hq => pv_load (t1 rfl) rfl (by first | exact PT.ld0 (H8.mono hq) rfl | exact PT.ld (H8.mono hq) rfl)) ?_)
      all_goals (refine at2 5 rfl rfl rfl (fun w' hq => pv_move rfl) ?_)
      all_goals (refine at2 6 rfl rfl rfl (fun w' hq => pv_move rfl) ?_)
      all_goals (refine at2 7 rfl rfl rfl (fun w' hq => pv_lenl (tS rfl) rfl) ?_)
      all_goals (refine at2 8 rfl rfl rfl (fun w' hq => pv_sub rfl rfl (by omega)) ?_)
      all_goals (refine at2 9 rfl rfl rfl (fun w' hq => pv_ia (tS rfl) rfl rfl (by omega)) ?_)
      all_goals (refine at2 10 rfl rfl rfl (fun w' hq => pv_fa (tF rfl) rfl) ?_)
      all_goals (refine at2 11 rfl rfl rfl (fun w' hq => pv_load (t1 rfl) rfl (hld _ hq)) ?_)
      all_goals (refine at2 12 rfl rfl rfl (fun w' hq => pv_lss rfl rfl) ?_)
      all_goals (refine at0 13 rfl (fun w' hq => pv_pick_t rfl (by first | assumption | exact decide_eq_true (by omega) | exact dec_notT (by omega)) rfl) ?_)
      all_goals (refine at0 14 rfl (fun w' hq => pv_assign rfl) ?_)
      all_goals (refine aw_done (by kernel_rfl) ?_; replace hw := hS; clear hS hNP)
      repeat' (first | (refine is_cw ?_; first | (refine cw_seq ?_) | (refine cw_region ?_) | (refine cw_true rfl (by first | assumption | exact decide_eq_true (by omega) | exact dec_notT (by omega)) ?_) | (refine cw_exit ?_)) | (refine is_qw ?_; first | (with_reducible refine qw_then ?_) | (with_reducible refine qw_in_hit ?_) | (refine qw_in_miss rfl ?_) | (with_reducible refine qw_then_exit ?_)))
      refine lw_store (H10.mono hw) (tZ rfl) rfl rfl rfl (by simp) ?_; intro wa Ha hga hza; have Hb := pt_kept (H11.mono hw) hga (by omega); refine lw_store Hb (tZ rfl) rfl rfl rfl (by simp) ?_; intro wb Hc hgb hzb; have Hd := pt_kept Ha hgb (by omega); have hwz := ((grow_trans hw0 hw).grown hga (by have := hw0.size; have := hw.size; omega) (fun q e => by injection e with e; omega)).grown hgb (by have := hw0.size; have := hw.size; omega) (fun q e => by injection e with e; omega)
      repeat' (first | (refine is_cw ?_; first | (refine cw_ret ?_)) | (refine is_qw ?_; first | (with_reducible refine qw_then ?_) | (with_reducible refine qw_then_ret ?_) | (with_reducible refine qw_in_ret ?_)) | (refine lw_nil ?_))
      exact qw_retM0 (qw_retcc rfl rfl rfl (one_ld (t1 rfl) (Hd.ld rfl)) (one_ld (t1 rfl) (Hc.ld rfl)) ⟨⟨_, rfl, Own.nil _⟩, hwz⟩)
    rw [hsq] at h6
    refine cw_drawn (fun w' => Below w4.heap.size w4 w') (by kernel_rfl) (by repeat (first | exact NoPanic.body | with_reducible refine NoPanic.then ?_ | with_reducible refine NoPanic.inBlock ?_)) (fun hNP => ?_)
    have hS := hw.drew
    all_goals (refine at0 0 rfl (fun w' hq => pv_move rfl) ?_)
    all_goals (refine at0 1 rfl (fun w' hq => pv_lenl (tS rfl) rfl) ?_)
    all_goals (refine at0 2 rfl (fun w' hq => pv_gtr rfl rfl) ?_)
    all_goals (refine at0 3 rfl (fun w' hq => pv_move rfl) ?_)
    all_goals (refine at2 4 rfl rfl rfl (fun w' hq => pv_load (t1 rfl) rfl (by first | exact PT.ld0 (H8.mono hq) rfl | exact PT.ld (H8.mono hq) rfl)) ?_)
    all_goals (refine at2 5 rfl rfl rfl (fun w' hq => pv_move rfl) ?_)
    all_goals (refine at2 6 rfl rfl rfl (fun w' hq => pv_move rfl) ?_)
    all_goals (refine at2 7 rfl rfl rfl (fun w' hq => pv_lenl (tS rfl) rfl) ?_)
    all_goals (refine at2 8 rfl rfl rfl (fun w' hq => pv_sub rfl rfl (by omega)) ?_)
    all_goals (refine at2 9 rfl rfl rfl (fun w' hq => pv_ia (tS rfl) rfl rfl (by omega)) ?_)
    all_goals (refine at2 10 rfl rfl rfl (fun w' hq => pv_fa (tF rfl) rfl) ?_)
    all_goals (refine at2 11 rfl rfl rfl (fun w' hq => pv_load (t1 rfl) rfl (hld _ hq)) ?_)
    all_goals (refine at2 12 rfl rfl rfl (fun w' hq => pv_lss rfl rfl) ?_)
    all_goals (refine at0 13 rfl (fun w' hq => pv_pick_t rfl (by first | assumption | exact decide_eq_true (by omega) | exact dec_notT (by omega)) rfl) ?_)
    all_goals (refine at0 14 rfl (fun w' hq => pv_assign rfl) ?_)
    all_goals (refine aw_done (by kernel_rfl) ?_; replace hw := hS; clear hS hNP)
    repeat' (first | (refine is_cw ?_; first | (refine cw_false rfl (by first | assumption | exact decide_eq_false (by omega) | exact dec_notF (by omega)) ?_) | (refine cw_skip ?_) | (refine cw_exit ?_)) | (refine is_qw ?_; first | (with_reducible refine qw_then ?_) | (with_reducible refine qw_in_hit ?_) | (refine qw_in_miss rfl ?_) | (with_reducible refine qw_then_exit ?_)))
    exact qw_join () (by repeat' (first | exact trivial | refine ⟨rfl, ?_⟩)) ⟨hw, h1, h2, h3, h4, h5, hsq.symm ▸ h6⟩
  rintro - w5 ⟨hw, h1, h2, h3, h4, h5, h6⟩
  repeat' (first | (refine lw_pure rfl (pv_move rfl) ?_) | (refine is_cw ?_; first | (refine cw_seq ?_) | (refine cw_region ?_)) | ((refine is_load ?_; first | (refine lw_pure rfl (pv_loada (tA rfl) rfl (by first | exact PT.lda (H9.mono hw)) (by rfl)) ?_))))
  refine lw_call (f := 28) (by kernel_rfl) rfl rfl (deltas_c hmn h4 h3 hmp hmt (HP.mono hw) (HL.mono hw) (HN.mono hw)) ?_; rintro e1 w6 ⟨⟨F, rfl, hF⟩, hb⟩; refine ⟨_, rfl, ?_⟩
  replace hw := grow_trans hw hb
  clear hb
  have hform : ¬ formL l p t seq e = false := by
    have : formL l p t seq e = true := by
      unfold formL
      simp only [Bool.and_eq_true, decide_eq_true_eq]
      exact ⟨⟨⟨⟨⟨h1, h2⟩, h3⟩, h4⟩, h5⟩, h6⟩
    rw [this]; simp
  by_cases hk0 : (rowsL p t e).1 = 0
  case neg =>
    have hR : stmtL l p t seq e = ((rowsL p t e).1, []) := by unfold stmtL; rw [if_neg hform, if_pos hk0]
    rw [hR]
    repeat' (first | (refine lw_pure rfl (pv_move rfl) ?_) | (refine lw_pure rfl (pv_assign rfl) ?_) | (refine is_cw ?_; first | (refine cw_seq ?_) | (refine cw_region ?_) | (refine cw_true rfl (by first | assumption | exact decide_eq_true (by omega) | exact dec_notT (by omega)) ?_)) | (refine is_qw ?_; first | (with_reducible refine qw_then ?_)) | (refine lw_nil ?_) | ((refine is_bin ?_; first | (refine lw_pure rfl (pv_neq rfl rfl) ?_))) | (refine lw_pure rfl (pv_extract rfl rfl) ?_))
    refine lw_store (H10.mono hw) (tZ rfl) rfl rfl rfl (by simp) ?_; intro wa Ha hga hza; have Hb := pt_kept (H11.mono hw) hga (by omega); refine lw_store Hb (tZ rfl) rfl rfl rfl (by simp) ?_; intro wb Hc hgb hzb; have Hd := pt_kept Ha hgb (by omega); have hwz := ((grow_trans hw0 hw).grown hga (by have := hw0.size; have := hw.size; omega) (fun q e => by injection e with e; omega)).grown hgb (by have := hw0.size; have := hw.size; omega) (fun q e => by injection e with e; omega)
    repeat' (first | (refine is_cw ?_; first | (refine cw_ret ?_)) | (refine is_qw ?_; first | (with_reducible refine qw_then ?_) | (with_reducible refine qw_then_ret ?_)) | (refine lw_nil ?_))
    exact qw_retM0 (qw_retcc rfl rfl rfl (one_ld (t1 rfl) (Hd.ld rfl)) (one_ld (t1 rfl) (Hc.ld rfl)) ⟨⟨_, rfl, Own.nil _⟩, hwz⟩)
  have hR : stmtL l p t seq e = match addsL seq e.kind l (rowsL p t e).2 with
    | some l' => (0, l')
    | none => (41, []) := by unfold stmtL; rw [if_neg hform, if_neg (by omega)]; rfl
  rw [hR]
  clear hR
  obtain ⟨A, B, a, ca, b, cb, rfl, HA, HB, SA, SB⟩ := hF hk0
  replace hw0 := grow_trans hw0 hw
  replace H8 := H8.mono hw
  replace H9 := H9.mono hw
  replace H10 := H10.mono hw
  replace H11 := H11.mono hw
  replace HS := HS.mono hw
  have hz6 := hw.size
  clear hw
  have hw := Below.refl w6.heap.size w6
  repeat' (first | (refine lw_pure rfl (pv_move rfl) ?_) | (refine lw_pure rfl (pv_assign rfl) ?_) | (refine is_cw ?_; first | (refine cw_seq ?_) | (refine cw_region ?_) | (refine cw_false rfl (by first | assumption | exact decide_eq_false (by omega) | exact dec_notF (by omega)) ?_) | (refine cw_skip ?_)) | (refine is_qw ?_; first | (with_reducible refine qw_then ?_)) | (refine lw_nil ?_) | ((refine is_bin ?_; first | (refine lw_pure rfl (pv_neq rfl rfl) ?_))) | (refine lw_pure rfl (pv_extract rfl rfl) ?_))
  refine lw_call (f := 29) (by kernel_rfl) rfl rfl (clone_N hml (HS.mono hw) (by omega)) ?_; rintro e1 w7 ⟨⟨v, rfl, hO⟩, hb⟩; refine ⟨_, rfl, ?_⟩
  replace hw := grow_trans hw hb
  clear hb
  obtain ⟨a', c', rfl, HXs, hbs⟩ := Own.slR encN_len hO
  refine lw_allocN rfl zvS rfl ?_; intro N14 w8 hN14 H14 hb
  replace hO := hO.mono hb
  have hz7 := hw.size
  replace hw := grow_trans hw hb
  clear hb
  refine lw_store H14 (tZ rfl) rfl rfl rfl (by rw [show (Value.slice none 0 0).cells.toList = [.slice none 0 0] from rfl]; simp) ?_; intro w9 H14b hg9 hz9
  have hne := own_ne_pt hO H14 (by decide)
  replace hO := Own.kept hO hg9 (Or.inr hne)
  replace hw := hw.grown hg9 hw.size (fun q e => by injection e with e; omega)
  refine lw_nil ?_
  repeat' ((fail_if_success (refine is_seqb ?_)); (fail_if_success (refine is_blk ?_)); first | (refine lw_pure rfl (pv_move rfl) ?_) | (refine is_cw ?_; first | (refine cw_seq ?_) | (refine cw_region ?_)) | (refine is_qw ?_; first | (with_reducible refine qw_then ?_)) | (refine lw_nil ?_))
  have hbl := bal_in h1
  refine cw_block ?_
  refine cw_range (k := 0) (σ := Unit) (ps := [72, 73]) (encs := fun x : Nz => encY x.1) rfl (by kernel_rfl) (rows_stops rfl HA HB SA SB (rows_in h4 h3)) (fun h k => h.trans k) (belowK_b hw.size) hw (fun _ => rfl) (by intro p hp; simp at hp; rcases hp with rfl | rfl <;> rfl)
    (EvI w9.heap.size w6 N8 N9 N10 N11 N14 l seq e.kind [.int .u8 e.v, .int .u8 e.kind, .slice an mn cn, .slice ax mx cx]) (EvX w N10 N11 l seq e.kind) ?_ ?_ ?_ (fun x y => [(8, .pointer (some ⟨N8, 0, none⟩)), (9, .pointer (some ⟨N9, 0, none⟩)), (10, .pointer (some ⟨N10, 0, none⟩)), (11, .pointer (some ⟨N11, 0, none⟩)), (14, .pointer (some ⟨N14, 0, none⟩)), (15, .int .i64 x.1.1), (16, .int .i64 x.1.2)]) (fun _ _ _ => True) (fun _ _ _ _ _ _ _ _ _ => trivial) ?_ ?_ ?_ ?_
  · rintro s A' C row ⟨q1, q2, q3, q4, q5, q6, v, xs, q7, q8, q9, q10, q11⟩ hg hr
    exact ⟨below_from q1 hw.size hg hr, Nat.le_trans q2 hg.size, pt_from q3 hg hr, pt_from q4 hg hr, pt_from q5 hg hr, pt_from q6 hg hr, v, xs, pt_from q7 hg hr, own_from q8 hg hr, q9, q10, q11⟩
  · rintro cc s A' C row ⟨q1, q2, q3, q4, q5⟩ hg hr
    exact ⟨q1, q2, below_from q3 (by have := hw0.size; have := hw.size; omega) hg hr, pt_from q4 hg hr, pt_from q5 hg hr⟩
  · exact ⟨hw, Nat.le_refl _, H8.mono hw, H9.mono hw, H10.mono hw, H11.mono hw, _, l, H14b, hO, rfl, by simp, hbl⟩
  · rintro ln pre x W hI
    repeat' (first | (refine lw_pure rfl (pv_assign rfl) ?_) | (refine is_cw ?_; first | (refine cw_seq ?_) | (refine cw_region ?_)) | (refine is_qw ?_; first | (with_reducible refine qw_then ?_)) | (refine lw_nil ?_))
    exact qw_as () (by repeat' (first | exact trivial | refine ⟨rfl, ?_⟩)) trivial (keeps_below (Below.refl _ _)) (Below.refl _ _) hI
  · rintro ln pre x y W - - ⟨q1, q2, q3, q4, q5, q6, v, xs, q7, q8, q9, q10, q11⟩ - hpl
    have hw9 := hw
    clear hw
    have hw := Below.refl W.heap.size W
    have hfew := rows_few p t e
    obtain ⟨a2, c2, rfl, HX2, hbs2⟩ := Own.slR encN_len q8
    refine cw_block ?_
    repeat' (first | (refine lw_pure rfl (pv_move rfl) ?_) | (refine is_cw ?_; first | (refine cw_seq ?_) | (refine cw_region ?_)) | ((refine is_load ?_; first | (refine lw_pure rfl (pv_load (t1 rfl) rfl (by first | exact PT.ld0 (q7.mono hw) rfl | exact PT.ld (q7.mono hw) rfl)) ?_))))
    refine lw_call (f := 14) (by kernel_rfl) rfl rfl (balance_c x.1.1 rfl HX2) ?_; rintro e1 w10 ⟨rfl, hb⟩; refine ⟨_, rfl, ?_⟩; replace hw := grow_trans hw hb; clear hb
    repeat' (first | (refine lw_pure rfl (pv_move rfl) ?_))
    refine lw_call (f := 20) (by kernel_rfl) rfl rfl (madd_c (balL xs x.1.1) x.1.2 w10 (by have := q11 x.1.1; omega) x.2.2) ?_; rintro e1 w11 ⟨rfl, hb⟩; refine ⟨_, rfl, ?_⟩; replace hw := grow_trans hw hb; clear hb
    generalize hz : balL xs x.1.1 + x.1.2 = z
    by_cases hzr : 0 ≤ z ∧ z ≤ 1125899906842624
    · have hfar : farS z = false := by unfold farS; simp; omega
      have e1 : toldN z = z := by unfold toldN; rw [hfar]; rfl
      have e2 : toldE z = 0 := by unfold toldE; rw [hfar]; rfl
      rw [e1, e2]
      repeat' (first | (refine lw_pure rfl (pv_move rfl) ?_) | (refine lw_pure rfl (pv_assign rfl) ?_) | (refine lw_call (f := 24) (by kernel_rfl) rfl rfl (fitsL_c _ _) ?_; rintro e2 w12 ⟨rfl, hb⟩; refine ⟨_, rfl, ?_⟩; replace hw := grow_trans hw hb; clear hb) | (refine is_cw ?_; first | (refine cw_seq ?_) | (refine cw_region ?_) | (refine cw_false rfl (by first | assumption | exact decide_eq_false (by omega) | exact dec_notF (by omega)) ?_) | (refine cw_skip ?_)) | (refine is_qw ?_; first | (with_reducible refine qw_then ?_)) | (refine lw_nil ?_) | (refine is_guarded ?_; first | (refine lw_on rfl rfl rfl ?_)) | ((refine is_bin ?_; first | (refine lw_pure rfl (pv_neq rfl rfl) ?_))) | ((refine is_un ?_; first | (refine lw_pure rfl (pv_not rfl) ?_))) | (refine lw_pure rfl (pv_pick_f rfl rfl rfl) ?_) | (refine lw_pure rfl (pv_extract rfl rfl) ?_))
      have hzw := hw.size
      have hq1 := q1.size
      have hz0 := hw0.size
      have hk1 : KeepsFrom w9.heap.size W w12 := keeps_below hw
      have hb1 : Below w6.heap.size W w12 := hw.mono hq1
      replace q3 := q3.mono hw
      replace q4 := q4.mono hw
      replace q5 := q5.mono hw
      replace q6 := q6.mono hw
      replace q7 := q7.mono hw
      replace q8 := q8.mono hw
      clear hw
      have hw := Below.refl w12.heap.size w12
      repeat' (first | (refine lw_pure rfl (pv_move rfl) ?_) | ((refine is_load ?_; first | (refine lw_pure rfl (pv_load (t1 rfl) rfl (by first | exact PT.ld0 (q7.mono hw) rfl | exact PT.ld (q7.mono hw) rfl | exact PT.ld0 (q3.mono hw) rfl | exact PT.ld (q3.mono hw) rfl | exact PT.ld0 (q4.mono hw) rfl | exact PT.ld (q4.mono hw) rfl)) ?_))) | ((refine is_fa ?_; first | (refine lw_pure rfl (pv_fa (tF rfl) rfl) ?_))) | ((refine is_bd ?_; first | (refine lw_pure rfl (tyB_37 rfl rfl rfl) ?_))))
      refine lw_bs1 elemLn rfl rfl (cs := encN ⟨x.1.1, seq, e.kind, x.1.2, z⟩) rfl rfl (by omega) ?_; intro wb HB2 hb hz'
      have hlp : pre.length < (rowsL p t e).2.length := hpl
      skip
      refine lw_app elemLn encN_len encN_one rfl rfl rfl (q8.mono hb) (HB2.slR (xs := [⟨x.1.1, seq, e.kind, x.1.2, z⟩]) encN_len rfl (by simp)) rfl (by omega) (by simp; omega) (by simp [maxLen]; omega) ?_; intro v9 w13 hO9 hg9 hb9
      have hne4 := own_ne_pt (q8.mono hb) (q7.mono hb) (by decide)
      have h14b : PT w13 N14 22 [.slice a2 xs.length c2] := (hg9.block N14 (q7.mono hb).lt (fun e => hne4 e.symm)).trans (q7.mono hb)
      obtain ⟨a3, c3, rfl, -, -⟩ := Own.slR encN_len hO9
      have hne5 := own_ne_pt hO9 h14b (by decide)
      have h13 := hb9.size
      refine lw_store h14b (tZ rfl) rfl rfl rfl (by simp) ?_; intro w14 H14c hg14 hz14
      have hO14 := Own.kept hO9 hg14 (Or.inr hne5)
      have hb2 : Below w6.heap.size w12 w14 := ((hb.mono (by omega)).trans hb9).grown hg14 (by omega) (fun q e => by injection e with e; omega)
      have hk2 := ((hk1.trans (keeps_below hb)).trans (keeps_own (q8.mono hb) hg9)).trans (keeps_pt h14b hg14)
      refine lw_nil ?_
      have hlow : ∀ {N : Nat} {T : TypeId} {cs : List Value}, N < w6.heap.size → PT w12 N T cs → PT w14 N T cs := fun hlt h => (hb2.block _ hlt).trans h
      have happ : addsL seq e.kind l ((pre ++ [x]).map (·.1)) = some (xs ++ [⟨x.1.1, seq, e.kind, x.1.2, z⟩]) := by
        rw [List.map_append, adds_app, q9]
        show (addL xs seq e.kind x.1.1 x.1.2).bind _ = _
        rw [addL_yes x.2.1 (by rw [hz]; exact hzr), hz]; rfl
      refine qw_in ?_
      refine qw_round1 hk2 (hb1.trans hb2) ⟨q1.trans (hb1.trans hb2), by omega, hlow (by omega) q3, hlow (by omega) q4, hlow (by omega) q5, hlow (by omega) q6, _, _, H14c, hO14, happ, by simp; omega, ?_⟩
      intro y
      rw [balL_snoc]
      split
      · exact hzr
      · exact q11 y
    · have hno : addL xs seq e.kind x.1.1 x.1.2 = none := addL_no x.2.1 (by rw [hz]; exact hzr)
      have happ : addsL seq e.kind l ((pre ++ [x]).map (·.1)) = none := by
        rw [List.map_append, adds_app, q9]
        show (addL xs seq e.kind x.1.1 x.1.2).bind _ = none
        rw [hno]; rfl
      by_cases hfr : toldE z = 0
      · have e1 : toldN z = z := by
          unfold toldE at hfr; unfold toldN
          split at hfr
          · cases hfr
          · rename_i h; rw [if_neg h]
        rw [hfr, e1]
        repeat' (first | (refine lw_pure rfl (pv_move rfl) ?_) | (refine lw_pure rfl (pv_assign rfl) ?_) | (refine lw_call (f := 24) (by kernel_rfl) rfl rfl (fitsL_c _ _) ?_; rintro e w1 ⟨rfl, hb⟩; refine ⟨_, rfl, ?_⟩; replace hw := grow_trans hw hb; clear hb) | (refine is_cw ?_; first | (refine cw_seq ?_) | (refine cw_region ?_) | (refine cw_true rfl (by first | assumption | exact decide_eq_true (by omega) | exact dec_notT (by omega)) ?_)) | (refine is_qw ?_; first | (with_reducible refine qw_then ?_)) | (refine lw_nil ?_) | (refine is_guarded ?_; first | (refine lw_on rfl rfl rfl ?_)) | ((refine is_bin ?_; first | (refine lw_pure rfl (pv_neq rfl rfl) ?_))) | ((refine is_un ?_; first | (refine lw_pure rfl (pv_not rfl) ?_))) | (refine lw_pure rfl (pv_pick_f rfl rfl rfl) ?_) | (refine lw_pure rfl (pv_extract rfl rfl) ?_))
        refine lw_store (q5.mono hw) (tZ rfl) rfl rfl rfl (by simp) ?_; intro wa Ha hga hza
        have Hb := pt_kept (q6.mono hw) hga (by omega)
        refine lw_store Hb (tZ rfl) rfl rfl rfl (by simp) ?_; intro wb Hc hgb hzb
        have Hd := pt_kept Ha hgb (by omega)
        have hz0 := hw0.size
        have hzw := hw.size
        have hz6 := q1.size
        have hB2 := (((hw0.trans (q1.mono hz0)).trans (hw.mono (by omega))).grown hga (by omega) (fun q e => by injection e with e; omega)).grown hgb (by omega) (fun q e => by injection e with e; omega)
        refine lw_nil ?_
        refine qw_then ?_
        refine cw_ret ?_
        refine qw_then_ret ?_
        refine qw_in_ret ?_
        exact qw_leave (((keeps_below hw).trans (keeps_pt (q5.mono hw) hga)).trans (keeps_pt Hb hgb)) ⟨rfl, happ, hB2, Hd, Hc⟩
      · repeat' (first | (refine lw_pure rfl (pv_move rfl) ?_) | (refine lw_pure rfl (pv_assign rfl) ?_) | (refine is_cw ?_; first | (refine cw_seq ?_) | (refine cw_region ?_) | (refine cw_true rfl rfl ?_)) | (refine is_qw ?_; first | (with_reducible refine qw_then ?_)) | (refine lw_nil ?_) | (refine is_guarded ?_; first | (refine lw_not rfl rfl rfl (by first | assumption | exact decide_eq_true (by omega) | exact decide_eq_false (by omega) | exact dec_notT (by omega) | exact dec_notF (by omega)) ?_)) | ((refine is_bin ?_; first | (refine lw_pure rfl (pv_neq rfl rfl) ?_))) | (refine lw_pure rfl (pv_pick_t rfl (by first | assumption | exact decide_eq_true (by omega) | exact dec_notT (by omega)) rfl) ?_) | (refine lw_pure rfl (pv_extract rfl rfl) ?_))
        refine lw_store (q5.mono hw) (tZ rfl) rfl rfl rfl (by simp) ?_; intro wa Ha hga hza
        have Hb := pt_kept (q6.mono hw) hga (by omega)
        refine lw_store Hb (tZ rfl) rfl rfl rfl (by simp) ?_; intro wb Hc hgb hzb
        have Hd := pt_kept Ha hgb (by omega)
        have hz0 := hw0.size
        have hzw := hw.size
        have hz6 := q1.size
        have hB2 := (((hw0.trans (q1.mono hz0)).trans (hw.mono (by omega))).grown hga (by omega) (fun q e => by injection e with e; omega)).grown hgb (by omega) (fun q e => by injection e with e; omega)
        refine lw_nil ?_
        refine qw_then ?_
        refine cw_ret ?_
        refine qw_then_ret ?_
        refine qw_in_ret ?_
        exact qw_leave (((keeps_below hw).trans (keeps_pt (q5.mono hw) hga)).trans (keeps_pt Hb hgb)) ⟨rfl, happ, hB2, Hd, Hc⟩
  · rintro D ys W hD hS' ⟨q1, q2, q3, q4, q5, q6, v, xs, q7, q8, q9, q10, q11⟩ hW
    refine qw_in ?_
    refine qw_then ?_
    have hadd : addsL seq e.kind l (rowsL p t e).2 = some xs := by rw [← adds_notZ, ← (show ys.map (·.1) = notZ (rowsL p t e).2 from hS')]; exact q9
    rw [hadd]
    have hw9 := hw
    clear hw
    have hw := Below.refl W.heap.size W
    have hz0 := hw0.size
    have hz9' := hw9.size
    obtain ⟨a2, c2, rfl, HX2, hbs2⟩ := Own.slR encN_len q8
    have hne2 := own_ne_pt q8 q5 (by decide)
    have hne3 := own_ne_pt q8 q6 (by decide)
    repeat' (first | (refine is_cw ?_; first | (refine cw_seq ?_) | (refine cw_region ?_)) | ((refine is_load ?_; first | (refine lw_pure rfl (pv_load (t1 rfl) rfl (by first | exact PT.ld0 (q7.mono hw) rfl | exact PT.ld (q7.mono hw) rfl)) ?_))))
    refine lw_store q5 (tZ rfl) rfl rfl rfl (by simp) ?_; intro wa Ha hga hza
    have Hb := pt_kept q6 hga (by omega)
    refine lw_store Hb (tZ rfl) rfl rfl rfl (by simp) ?_; intro wb Hc hgb hzb
    have Hd := pt_kept Ha hgb (by omega)
    have hO2 := Own.kept (Own.kept q8 hga (Or.inr hne2)) hgb (Or.inr hne3)
    have hB2 := ((hw0.trans (q1.mono hz0)).grown hga (by omega) (fun q e => by injection e with e; omega)).grown hgb (by omega) (fun q e => by injection e with e; omega)
    have hWb : wb.heap[D]? = some (.deferred (some [])) := (hgb.block D (by rw [hza]; exact (Array.getElem?_eq_some_iff.1 hW).1) (fun e => by injection e with e; omega)).trans ((hga.block D (Array.getElem?_eq_some_iff.1 hW).1 (fun e => by injection e with e; omega)).trans hW)
    refine lw_nil ?_
    refine qw_then ?_
    refine cw_ret ?_
    obtain ⟨k1, k2⟩ := put_keep (by omega) hWb hB2 (by omega : N10 ≠ D) Hd
    obtain ⟨-, k3⟩ := put_keep (by omega) hWb hB2 (by omega : N11 ≠ D) Hc
    have hO3 := own_from (B := 0) hO2 (grownBy_putObj' wb D (.deferred none)) (by intro r e; injection e with e; subst e; exact ⟨Nat.zero_le _, _, hWb, rfl⟩)
    exact qw_retM1 hWb (qw_retcc rfl rfl rfl (one_ld (t1 rfl) (k2.ld rfl)) (one_ld (t1 rfl) (k3.ld rfl)) ⟨⟨_, rfl, hO3.weaken hz0⟩, k1⟩)
  · rintro D cc pre W hD hS' ⟨rfl, q2, q3, q4, q5⟩ hW
    refine cw_ret ?_
    refine qw_in_ret ?_
    refine qw_then_ret ?_
    have hadd : addsL seq e.kind l (rowsL p t e).2 = none := by
      obtain ⟨r, hr⟩ := hS'
      rw [← adds_notZ, ← hr, adds_app, q2]; rfl
    rw [hadd]
    have hz0 := hw0.size
    have hz9' := hw.size
    obtain ⟨k1, k2⟩ := put_keep (by omega) hW q3 (by omega : N10 ≠ D) q4
    obtain ⟨-, k3⟩ := put_keep (by omega) hW q3 (by omega : N11 ≠ D) q5
    exact qw_retM1 hW (qw_retcc rfl rfl rfl (one_ld (t1 rfl) (k2.ld rfl)) (one_ld (t1 rfl) (k3.ld rfl)) ⟨⟨_, rfl, Own.nil _⟩, k1⟩)
end Go.Proofs.YtnffmbfdfhokeaaGreatDoor.R
namespace Go.Proofs.YtnffmbfdfhokeaaGreatDoor
open Go.RowKit Go.PlainAid

theorem neq_N (x y : Ln) (w : World) : (binOp .neq 37 (.agg (encN x).toArray) (.agg (encN y).toArray)).run Tryz.prog w = .ok (.bool (!decide (x = y))) w := by
  have hS : (Tryz.prog).underlying 37 = some (.struct ((Tryz.prog).fieldsOf 37)) := by kernel_rfl
  have hp : (Tryz.prog).stoodInHeld 37 = false := by kernel_rfl
  unfold encN
  rw [run_neq_struct, show (10000 : Nat) = 9999 + 1 from rfl, run_equalIn_agg w 9999 37 _ _ hS hp]
  have h : (decide (x = y)) = (x.acct == y.acct && (x.seq == y.seq && (x.kind == y.kind && (x.delta == y.delta && x.bal == y.bal)))) := by
    rw [Bool.eq_iff_iff]
    cases x; cases y; simp
  rw [h]
  simp only [Program.fieldsOf, Tryz.underlying37]
  go_simp
  by_cases h1 : x.acct = y.acct <;> by_cases h2 : x.seq = y.seq <;> by_cases h3 : x.kind = y.kind <;> by_cases h4 : x.delta = y.delta <;> by_cases h5 : x.bal = y.bal <;> simp [*]
theorem eql_N (x y : Ln) (w : World) : (binOp .eql 37 (.agg (encN x).toArray) (.agg (encN y).toArray)).run Tryz.prog w = .ok (.bool (decide (x = y))) w := by
  have hS : (Tryz.prog).underlying 37 = some (.struct ((Tryz.prog).fieldsOf 37)) := by kernel_rfl
  have hp : (Tryz.prog).stoodInHeld 37 = false := by kernel_rfl
  unfold encN
  rw [run_eql_struct, show (10000 : Nat) = 9999 + 1 from rfl, run_equalIn_agg w 9999 37 _ _ hS hp]
  have h : (decide (x = y)) = (x.acct == y.acct && (x.seq == y.seq && (x.kind == y.kind && (x.delta == y.delta && x.bal == y.bal)))) := by
    rw [Bool.eq_iff_iff]
    cases x; cases y; simp
  rw [h]
  simp only [Program.fieldsOf, Tryz.underlying37]
  go_simp
  by_cases h1 : x.acct = y.acct <;> by_cases h2 : x.seq = y.seq <;> by_cases h3 : x.kind = y.kind <;> by_cases h4 : x.delta = y.delta <;> by_cases h5 : x.bal = y.bal <;> simp [*]
theorem pv_neqN {n : Nat} {l : Fr} {w : World} {d : Option Nat} {t' ty : TypeId} {x y : Operand} {pos : String} {af : Array Edge} {g : Option (Nat × Bool)} (a b : Ln) (hx : ev l x = some (.agg (encN a).toArray)) (hy : ev l y = some (.agg (encN b).toArray)) : Pv Tryz.prog n l ⟨d, .binOp .neq 37 x y t', ty, pos, af, g⟩ (.bool (!decide (a = b))) w := ⟨fun A hA => by
  have h1 : (eqGuard .neq 37 x y (.agg (encN a).toArray) (.agg (encN b).toArray)).run Tryz.prog w = .ok () w := run_eqGuard_agg w .neq 37 x y _ _ (by kernel_rfl)
  have h2 := neq_N a b w
  simp [execOp, hA.ev hx, hA.ev hy, h1, h2]⟩
theorem pv_eqlN {n : Nat} {l : Fr} {w : World} {d : Option Nat} {t' ty : TypeId} {x y : Operand} {pos : String} {af : Array Edge} {g : Option (Nat × Bool)} (a b : Ln) (hx : ev l x = some (.agg (encN a).toArray)) (hy : ev l y = some (.agg (encN b).toArray)) : Pv Tryz.prog n l ⟨d, .binOp .eql 37 x y t', ty, pos, af, g⟩ (.bool (decide (a = b))) w := ⟨fun A hA => by
  have h1 : (eqGuard .eql 37 x y (.agg (encN a).toArray) (.agg (encN b).toArray)).run Tryz.prog w = .ok () w := run_eqGuard_agg w .eql 37 x y _ _ (by kernel_rfl)
  have h2 := eql_N a b w
  simp [execOp, hA.ev hx, hA.ev hy, h1, h2]⟩

set_option maxRecDepth 20000 in
theorem rsame_N {p q : List Ln} {m n : Nat} {a b : Option Addr} {ca cb : Nat} {w : World} (hm : p.length = m) (hn : q.length = n) (HP : SlR encN 5 w a ca p) (HQ : SlR encN 5 w b cb q) : Calls Tryz.prog 11 #[.slice a m ca, .slice b n cb] w fun e w' => e = .returned (.bool (decide (p = q))) ∧ Below w.heap.size w w' := by
  subst hm hn
  have hw := Below.refl w.heap.size w
  have hca := HP.le
  have hcm := HP.max
  refine fn_enter 26 Tryz.func11 rfl rfl rfl ?_
  by_cases hl : p.length = q.length
  · repeat' ((fail_if_success (refine is_seqb ?_)); (fail_if_success (refine is_blk ?_)); first | (refine lw_pure rfl (pv_move rfl) ?_) | (refine lw_pure rfl (pv_assign rfl) ?_) | (refine is_cw ?_; first | (refine cw_seq ?_) | (refine cw_region ?_) | (refine cw_true rfl rfl ?_) | (refine cw_false rfl rfl ?_) | (refine cw_true rfl (by first | assumption | exact decide_eq_true (by omega) | exact dec_notT (by omega)) ?_) | (refine cw_false rfl (by first | assumption | exact decide_eq_false (by omega) | exact dec_notF (by omega)) ?_) | (refine cw_skip ?_) | (refine cw_block ?_) | (refine cw_exit ?_) | (refine cw_ret ?_)) | (refine is_qw ?_; first | (with_reducible refine qw_then ?_) | (with_reducible refine qw_in ?_) | (with_reducible refine qw_in_hit ?_) | (refine qw_in_miss rfl ?_) | (with_reducible refine qw_then_exit ?_) | (with_reducible refine qw_then_ret ?_) | (with_reducible refine qw_in_ret ?_)) | (refine lw_nil ?_) | ((refine is_bin ?_; first | (refine lw_pure rfl (pv_lss rfl rfl) ?_) | (refine lw_pure rfl (pv_neq rfl rfl) ?_) | (refine lw_pure rfl (pv_inc rfl rfl (by omega)) ?_) | (refine lw_pure rfl (pv_add rfl rfl (by omega)) ?_))) | ((refine is_load ?_; first | (refine lw_pure rfl (pv_load (t1 rfl) rfl (by first | fail)) ?_) | (refine lw_pure rfl (pv_loada (tA rfl) rfl (by first | fail) (by rfl)) ?_))) | ((refine is_ia ?_; first | (refine lw_pure rfl (pv_ian (tS rfl) rfl rfl (by omega)) ?_) | (refine lw_pure rfl (pv_ia (tS rfl) rfl rfl (by omega)) ?_))) | ((refine is_bi ?_; first | (refine lw_pure rfl (pv_lenl (tS rfl) rfl) ?_) | (refine lw_pure rfl (pv_lens (tStr rfl) rfl) ?_))) | (refine is_cw ?_; refine cw_split rfl (fun hc => ?_) (fun hc => ?_) <;> (first | replace hc := of_decide_eq_true hc | replace hc := of_decide_eq_false hc | replace hc := dec_nT hc | replace hc := dec_nF hc | skip) <;> (try (exfalso; omega))))
    repeat' (first | (refine lw_pure rfl (pv_move rfl) ?_) | (refine lw_pure rfl (pv_assign rfl) ?_) | (refine is_cw ?_; first | (refine cw_seq ?_) | (refine cw_region ?_) | (refine cw_true rfl rfl ?_) | (refine cw_false rfl rfl ?_) | (refine cw_true rfl (by first | assumption | exact decide_eq_true (by omega) | exact dec_notT (by omega)) ?_) | (refine cw_false rfl (by first | assumption | exact decide_eq_false (by omega) | exact dec_notF (by omega)) ?_) | (refine cw_skip ?_) | (refine cw_block ?_) | (refine cw_exit ?_) | (refine cw_ret ?_)) | (refine is_qw ?_; first | (with_reducible refine qw_then ?_) | (with_reducible refine qw_in ?_) | (with_reducible refine qw_in_hit ?_) | (refine qw_in_miss rfl ?_) | (with_reducible refine qw_then_exit ?_) | (with_reducible refine qw_then_ret ?_) | (with_reducible refine qw_in_ret ?_)) | (refine lw_nil ?_) | ((refine is_bin ?_; first | (refine lw_pure rfl (pv_lss rfl rfl) ?_) | (refine lw_pure rfl (pv_neq rfl rfl) ?_) | (refine lw_pure rfl (pv_inc rfl rfl (by omega)) ?_) | (refine lw_pure rfl (pv_add rfl rfl (by omega)) ?_))) | ((refine is_load ?_; first | (refine lw_pure rfl (pv_load (t1 rfl) rfl (by first | fail)) ?_) | (refine lw_pure rfl (pv_loada (tA rfl) rfl (by first | fail) (by rfl)) ?_))) | ((refine is_ia ?_; first | (refine lw_pure rfl (pv_ian (tS rfl) rfl rfl (by omega)) ?_) | (refine lw_pure rfl (pv_ia (tS rfl) rfl rfl (by omega)) ?_))) | ((refine is_bi ?_; first | (refine lw_pure rfl (pv_lenl (tS rfl) rfl) ?_) | (refine lw_pure rfl (pv_lens (tStr rfl) rfl) ?_))))
    refine cw_loop (σ := Nat) (fun k => [(0, .slice a p.length ca), (1, .slice b q.length cb), (5, .int .i64 (k : Nat))]) (fun k wr => k ≤ p.length ∧ Below w.heap.size w wr ∧ ∀ j, j < k → p[j]? = q[j]?) (fun k => p.length - k) 0 (by repeat' (first | exact trivial | refine ⟨rfl, ?_⟩)) ⟨Nat.zero_le _, hw, by omega⟩ ?_
    clear hw
    rintro k wr ⟨hk, hw, hn⟩
    by_cases hlt : k < p.length
    · have hxk : p[k]? = some p[k] := List.getElem?_eq_getElem hlt
      have hyk : q[k]? = some (q[k]'(by omega)) := List.getElem?_eq_getElem _
      obtain ⟨ab, ao, rfl, -, -⟩ := HP.at (by intro h; rw [h] at hlt; simp at hlt)
      obtain ⟨bb, bo, rfl, -, -⟩ := HQ.at (by intro h; rw [h] at hl; rw [hl] at hlt; simp at hlt)
      generalize p[k] = x at hxk
      generalize q[k] = y at hyk
      repeat' (first | (refine lw_pure rfl (pv_move rfl) ?_) | (refine lw_pure rfl (pv_assign rfl) ?_) | (refine is_cw ?_; first | (refine cw_seq ?_) | (refine cw_region ?_) | (refine cw_true rfl rfl ?_) | (refine cw_false rfl rfl ?_) | (refine cw_true rfl (by first | assumption | exact decide_eq_true (by omega) | exact dec_notT (by omega)) ?_) | (refine cw_false rfl (by first | assumption | exact decide_eq_false (by omega) | exact dec_notF (by omega)) ?_) | (refine cw_skip ?_) | (refine cw_block ?_) | (refine cw_exit ?_) | (refine cw_ret ?_)) | (refine is_qw ?_; first | (with_reducible refine qw_then ?_) | (with_reducible refine qw_in ?_) | (with_reducible refine qw_in_hit ?_) | (refine qw_in_miss rfl ?_) | (with_reducible refine qw_then_exit ?_) | (with_reducible refine qw_then_ret ?_) | (with_reducible refine qw_in_ret ?_)) | (refine lw_nil ?_) | ((refine is_bin ?_; first | (refine lw_pure rfl (pv_lss rfl rfl) ?_) | (refine lw_pure rfl (pv_neq rfl rfl) ?_) | (refine lw_pure rfl (pv_inc rfl rfl (by omega)) ?_) | (refine lw_pure rfl (pv_add rfl rfl (by omega)) ?_))) | ((refine is_load ?_; first | (refine lw_pure rfl (pv_load (t1 rfl) rfl (by first | fail)) ?_) | (refine lw_pure rfl (pv_loada (tA rfl) rfl (by first | fail) (by rfl)) ?_))) | ((refine is_ia ?_; first | (refine lw_pure rfl (pv_ian (tS rfl) rfl rfl (by omega)) ?_) | (refine lw_pure rfl (pv_ia (tS rfl) rfl rfl (by omega)) ?_))) | ((refine is_bi ?_; first | (refine lw_pure rfl (pv_lenl (tS rfl) rfl) ?_) | (refine lw_pure rfl (pv_lens (tStr rfl) rfl) ?_))))
      refine cw_drawn (fun w' => Below w.heap.size w w') (by kernel_rfl) (by repeat (first | exact NoPanic.body | with_reducible refine NoPanic.then ?_ | with_reducible refine NoPanic.inBlock ?_)) (fun hNP => ?_)
      have hS := hw.drew
      (refine at0 0 rfl (fun w' hq => pv_move rfl) ?_)
      (refine at0 1 rfl (fun w' hq => pv_move rfl) ?_)
      first | (refine at0 2 rfl (fun w' hq => pv_ian (tS rfl) rfl rfl (by omega)) ?_) | (refine at0 2 rfl (fun w' hq => pv_ia (tS rfl) rfl rfl (by omega)) ?_)
      first | (refine at0 3 rfl (fun w' hq => pv_load (t1 rfl) rfl (by first | exact SlR.ld (HP.mono hq) hxk rfl | exact SlR.ld1 (HP.mono hq) hxk rfl | exact SlR.ld (HQ.mono hq) hyk rfl | exact SlR.ld1 (HQ.mono hq) hyk rfl)) ?_) | (refine at0 3 rfl (fun w' hq => pv_loada (tA rfl) rfl (by first | exact SlR.lda (HP.mono hq) hxk | exact SlR.lda (HQ.mono hq) hyk) (by rfl)) ?_)
      (refine at0 4 rfl (fun w' hq => pv_move rfl) ?_)
      (refine at0 5 rfl (fun w' hq => pv_move rfl) ?_)
      first | (refine at0 6 rfl (fun w' hq => pv_ian (tS rfl) rfl rfl (by omega)) ?_) | (refine at0 6 rfl (fun w' hq => pv_ia (tS rfl) rfl rfl (by omega)) ?_)
      first | (refine at0 7 rfl (fun w' hq => pv_load (t1 rfl) rfl (by first | exact SlR.ld (HP.mono hq) hxk rfl | exact SlR.ld1 (HP.mono hq) hxk rfl | exact SlR.ld (HQ.mono hq) hyk rfl | exact SlR.ld1 (HQ.mono hq) hyk rfl)) ?_) | (refine at0 7 rfl (fun w' hq => pv_loada (tA rfl) rfl (by first | exact SlR.lda (HP.mono hq) hxk | exact SlR.lda (HQ.mono hq) hyk) (by rfl)) ?_)
      first | (refine at0 8 rfl (fun w' hq => pv_neqN _ _ rfl rfl) ?_) | (refine at0 8 rfl (fun w' hq => pv_lss rfl rfl) ?_) | (refine at0 8 rfl (fun w' hq => pv_neq rfl rfl) ?_) | (refine at0 8 rfl (fun w' hq => pv_inc rfl rfl (by omega)) ?_) | (refine at0 8 rfl (fun w' hq => pv_add rfl rfl (by omega)) ?_)
      refine aw_done (by kernel_rfl) ?_
      replace hw := hS; clear hS hNP
      by_cases hxy : x = y
      · repeat' (first | (refine lw_pure rfl (pv_move rfl) ?_) | (refine lw_pure rfl (pv_assign rfl) ?_) | (refine is_cw ?_; first | (refine cw_seq ?_) | (refine cw_region ?_) | (refine cw_true rfl rfl ?_) | (refine cw_false rfl rfl ?_) | (refine cw_true rfl (by first | assumption | exact decide_eq_true (by omega) | exact dec_notT (by omega)) ?_) | (refine cw_false rfl (by first | assumption | exact decide_eq_false (by omega) | exact dec_notF (by omega)) ?_) | (refine cw_skip ?_) | (refine cw_block ?_) | (refine cw_exit ?_) | (refine cw_ret ?_)) | (refine is_qw ?_; first | (with_reducible refine qw_then ?_) | (with_reducible refine qw_in ?_) | (with_reducible refine qw_in_hit ?_) | (refine qw_in_miss rfl ?_) | (with_reducible refine qw_then_exit ?_) | (with_reducible refine qw_then_ret ?_) | (with_reducible refine qw_in_ret ?_)) | (refine lw_nil ?_) | ((refine is_bin ?_; first | (refine lw_pure rfl (pv_lss rfl rfl) ?_) | (refine lw_pure rfl (pv_neq rfl rfl) ?_) | (refine lw_pure rfl (pv_inc rfl rfl (by omega)) ?_) | (refine lw_pure rfl (pv_add rfl rfl (by omega)) ?_))) | ((refine is_load ?_; first | (refine lw_pure rfl (pv_load (t1 rfl) rfl (by first | fail)) ?_) | (refine lw_pure rfl (pv_loada (tA rfl) rfl (by first | fail) (by rfl)) ?_))) | ((refine is_ia ?_; first | (refine lw_pure rfl (pv_ian (tS rfl) rfl rfl (by omega)) ?_) | (refine lw_pure rfl (pv_ia (tS rfl) rfl rfl (by omega)) ?_))) | ((refine is_bi ?_; first | (refine lw_pure rfl (pv_lenl (tS rfl) rfl) ?_) | (refine lw_pure rfl (pv_lens (tStr rfl) rfl) ?_))) | (refine is_cw ?_; refine cw_split rfl (fun hc => ?_) (fun hc => ?_) <;> (first | replace hc := of_decide_eq_true hc | replace hc := of_decide_eq_false hc | replace hc := dec_nT hc | replace hc := dec_nF hc | skip) <;> (try (exfalso; omega))))
        refine qw_round (k + 1) (by repeat' (first | exact trivial | refine ⟨rfl, ?_⟩)) ⟨by omega, hw, ?_⟩ (by omega)
        intro j hj
        by_cases hjk : j = k
        · subst hjk; rw [hxk, hyk, hxy]
        · exact hn j (by omega)
      · repeat' (first | (refine lw_pure rfl (pv_move rfl) ?_) | (refine lw_pure rfl (pv_assign rfl) ?_) | (refine is_cw ?_; first | (refine cw_seq ?_) | (refine cw_region ?_) | (refine cw_true rfl rfl ?_) | (refine cw_false rfl rfl ?_) | (refine cw_true rfl (by first | assumption | exact decide_eq_true (by omega) | exact dec_notT (by omega)) ?_) | (refine cw_false rfl (by first | assumption | exact decide_eq_false (by omega) | exact dec_notF (by omega)) ?_) | (refine cw_skip ?_) | (refine cw_block ?_) | (refine cw_exit ?_) | (refine cw_ret ?_)) | (refine is_qw ?_; first | (with_reducible refine qw_then ?_) | (with_reducible refine qw_in ?_) | (with_reducible refine qw_in_hit ?_) | (refine qw_in_miss rfl ?_) | (with_reducible refine qw_then_exit ?_) | (with_reducible refine qw_then_ret ?_) | (with_reducible refine qw_in_ret ?_)) | (refine lw_nil ?_) | ((refine is_bin ?_; first | (refine lw_pure rfl (pv_lss rfl rfl) ?_) | (refine lw_pure rfl (pv_neq rfl rfl) ?_) | (refine lw_pure rfl (pv_inc rfl rfl (by omega)) ?_) | (refine lw_pure rfl (pv_add rfl rfl (by omega)) ?_))) | ((refine is_load ?_; first | (refine lw_pure rfl (pv_load (t1 rfl) rfl (by first | fail)) ?_) | (refine lw_pure rfl (pv_loada (tA rfl) rfl (by first | fail) (by rfl)) ?_))) | ((refine is_ia ?_; first | (refine lw_pure rfl (pv_ian (tS rfl) rfl rfl (by omega)) ?_) | (refine lw_pure rfl (pv_ia (tS rfl) rfl rfl (by omega)) ?_))) | ((refine is_bi ?_; first | (refine lw_pure rfl (pv_lenl (tS rfl) rfl) ?_) | (refine lw_pure rfl (pv_lens (tStr rfl) rfl) ?_))) | (refine is_cw ?_; refine cw_split rfl (fun hc => ?_) (fun hc => ?_) <;> (first | replace hc := of_decide_eq_true hc | replace hc := of_decide_eq_false hc | replace hc := dec_nT hc | replace hc := dec_nF hc | skip) <;> (try (exfalso; omega))))
        refine qw_ret1 rfl rfl ⟨ret_bool ?_, hw⟩
        symm; rw [decide_eq_false_iff_not]; rintro rfl
        rw [hxk] at hyk; injection hyk with hyk; exact hxy hyk
    · have hkl : k = p.length := by omega
      subst hkl
      have he : p = q := List.ext_getElem? fun j => by
        by_cases hj : j < p.length
        · exact hn j hj
        · rw [List.getElem?_eq_none (by omega), List.getElem?_eq_none (by omega)]
      repeat' (first | (refine lw_pure rfl (pv_move rfl) ?_) | (refine lw_pure rfl (pv_assign rfl) ?_) | (refine is_cw ?_; first | (refine cw_seq ?_) | (refine cw_region ?_) | (refine cw_true rfl rfl ?_) | (refine cw_false rfl rfl ?_) | (refine cw_true rfl (by first | assumption | exact decide_eq_true (by omega) | exact dec_notT (by omega)) ?_) | (refine cw_false rfl (by first | assumption | exact decide_eq_false (by omega) | exact dec_notF (by omega)) ?_) | (refine cw_skip ?_) | (refine cw_block ?_) | (refine cw_exit ?_) | (refine cw_ret ?_)) | (refine is_qw ?_; first | (with_reducible refine qw_then ?_) | (with_reducible refine qw_in ?_) | (with_reducible refine qw_in_hit ?_) | (refine qw_in_miss rfl ?_) | (with_reducible refine qw_then_exit ?_) | (with_reducible refine qw_then_ret ?_) | (with_reducible refine qw_in_ret ?_)) | (refine lw_nil ?_) | ((refine is_bin ?_; first | (refine lw_pure rfl (pv_lss rfl rfl) ?_) | (refine lw_pure rfl (pv_neq rfl rfl) ?_) | (refine lw_pure rfl (pv_inc rfl rfl (by omega)) ?_) | (refine lw_pure rfl (pv_add rfl rfl (by omega)) ?_))) | ((refine is_load ?_; first | (refine lw_pure rfl (pv_load (t1 rfl) rfl (by first | fail)) ?_) | (refine lw_pure rfl (pv_loada (tA rfl) rfl (by first | fail) (by rfl)) ?_))) | ((refine is_ia ?_; first | (refine lw_pure rfl (pv_ian (tS rfl) rfl rfl (by omega)) ?_) | (refine lw_pure rfl (pv_ia (tS rfl) rfl rfl (by omega)) ?_))) | ((refine is_bi ?_; first | (refine lw_pure rfl (pv_lenl (tS rfl) rfl) ?_) | (refine lw_pure rfl (pv_lens (tStr rfl) rfl) ?_))))
      exact qw_ret1 rfl rfl ⟨ret_bool (by simp [he]), hw⟩
  · repeat' (first | (refine lw_pure rfl (pv_move rfl) ?_) | (refine lw_pure rfl (pv_assign rfl) ?_) | (refine is_cw ?_; first | (refine cw_seq ?_) | (refine cw_region ?_) | (refine cw_true rfl rfl ?_) | (refine cw_false rfl rfl ?_) | (refine cw_true rfl (by first | assumption | exact decide_eq_true (by omega) | exact dec_notT (by omega)) ?_) | (refine cw_false rfl (by first | assumption | exact decide_eq_false (by omega) | exact dec_notF (by omega)) ?_) | (refine cw_skip ?_) | (refine cw_block ?_) | (refine cw_exit ?_) | (refine cw_ret ?_)) | (refine is_qw ?_; first | (with_reducible refine qw_then ?_) | (with_reducible refine qw_in ?_) | (with_reducible refine qw_in_hit ?_) | (refine qw_in_miss rfl ?_) | (with_reducible refine qw_then_exit ?_) | (with_reducible refine qw_then_ret ?_) | (with_reducible refine qw_in_ret ?_)) | (refine lw_nil ?_) | ((refine is_bin ?_; first | (refine lw_pure rfl (pv_lss rfl rfl) ?_) | (refine lw_pure rfl (pv_neq rfl rfl) ?_) | (refine lw_pure rfl (pv_inc rfl rfl (by omega)) ?_) | (refine lw_pure rfl (pv_add rfl rfl (by omega)) ?_))) | ((refine is_load ?_; first | (refine lw_pure rfl (pv_load (t1 rfl) rfl (by first | fail)) ?_) | (refine lw_pure rfl (pv_loada (tA rfl) rfl (by first | fail) (by rfl)) ?_))) | ((refine is_ia ?_; first | (refine lw_pure rfl (pv_ian (tS rfl) rfl rfl (by omega)) ?_) | (refine lw_pure rfl (pv_ia (tS rfl) rfl rfl (by omega)) ?_))) | ((refine is_bi ?_; first | (refine lw_pure rfl (pv_lenl (tS rfl) rfl) ?_) | (refine lw_pure rfl (pv_lens (tStr rfl) rfl) ?_))) | (refine is_cw ?_; refine cw_split rfl (fun hc => ?_) (fun hc => ?_) <;> (first | replace hc := of_decide_eq_true hc | replace hc := of_decide_eq_false hc | replace hc := dec_nT hc | replace hc := dec_nF hc | skip) <;> (try (exfalso; omega))))
    exact qw_ret1 rfl rfl ⟨ret_bool (by symm; rw [decide_eq_false_iff_not]; rintro rfl; exact hl rfl), hw⟩

end Go.Proofs.YtnffmbfdfhokeaaGreatDoor
