/-
  Open orders and lots compared; contracts of the document's Find, Lot, Same, SameLots, between. Conditions: the slices read as lists.
-/
import Derived.Test.YtemngicaoacfaaaGreatDoorOf
import Derived.Laws.StructEq
namespace Go.Proofs.YtemngicaoacfaaaGreatDoor
open Go.RowKit Go.PlainAid

theorem neq_P (x y : Opn) (w : World) : (binOp .neq 49 (.agg (encP x).toArray) (.agg (encP y).toArray)).run Tryz.prog w = .ok (.bool (!decide (x = y))) w := by
  have hS : (Tryz.prog).underlying 49 = some (.struct ((Tryz.prog).fieldsOf 49)) := by kernel_rfl
  have hp : (Tryz.prog).stoodInHeld 49 = false := by kernel_rfl
  unfold encP
  rw [run_neq_struct, show (10000 : Nat) = 9999 + 1 from rfl, run_equalIn_agg w 9999 49 _ _ hS hp]
  have h : (decide (x = y)) = (x.acct == y.acct && (x.id == y.id && (x.inst == y.inst && (x.side == y.side && (x.price == y.price && x.left == y.left))))) := by
    rw [Bool.eq_iff_iff]
    cases x; cases y; simp
  rw [h]
  simp only [Program.fieldsOf, Tryz.underlying49]
  go_simp
  by_cases h1 : x.acct = y.acct <;> by_cases h2 : x.id = y.id <;> by_cases h3 : x.inst = y.inst <;> by_cases h4 : x.side = y.side <;> by_cases h5 : x.price = y.price <;> by_cases h6 : x.left = y.left <;> simp [*]
theorem eql_P (x y : Opn) (w : World) : (binOp .eql 49 (.agg (encP x).toArray) (.agg (encP y).toArray)).run Tryz.prog w = .ok (.bool (decide (x = y))) w := by
  have hS : (Tryz.prog).underlying 49 = some (.struct ((Tryz.prog).fieldsOf 49)) := by kernel_rfl
  have hp : (Tryz.prog).stoodInHeld 49 = false := by kernel_rfl
  unfold encP
  rw [run_eql_struct, show (10000 : Nat) = 9999 + 1 from rfl, run_equalIn_agg w 9999 49 _ _ hS hp]
  have h : (decide (x = y)) = (x.acct == y.acct && (x.id == y.id && (x.inst == y.inst && (x.side == y.side && (x.price == y.price && x.left == y.left))))) := by
    rw [Bool.eq_iff_iff]
    cases x; cases y; simp
  rw [h]
  simp only [Program.fieldsOf, Tryz.underlying49]
  go_simp
  by_cases h1 : x.acct = y.acct <;> by_cases h2 : x.id = y.id <;> by_cases h3 : x.inst = y.inst <;> by_cases h4 : x.side = y.side <;> by_cases h5 : x.price = y.price <;> by_cases h6 : x.left = y.left <;> simp [*]
theorem pv_neqP {n : Nat} {l : Fr} {w : World} {d : Option Nat} {t' ty : TypeId} {x y : Operand} {pos : String} {af : Array Edge} {g : Option (Nat × Bool)} (a b : Opn) (hx : ev l x = some (.agg (encP a).toArray)) (hy : ev l y = some (.agg (encP b).toArray)) : Pv Tryz.prog n l ⟨d, .binOp .neq 49 x y t', ty, pos, af, g⟩ (.bool (!decide (a = b))) w := ⟨fun A hA => by
  have h1 : (eqGuard .neq 49 x y (.agg (encP a).toArray) (.agg (encP b).toArray)).run Tryz.prog w = .ok () w := run_eqGuard_agg w .neq 49 x y _ _ (by kernel_rfl)
  have h2 := neq_P a b w
  simp [execOp, hA.ev hx, hA.ev hy, h1, h2]⟩
theorem pv_eqlP {n : Nat} {l : Fr} {w : World} {d : Option Nat} {t' ty : TypeId} {x y : Operand} {pos : String} {af : Array Edge} {g : Option (Nat × Bool)} (a b : Opn) (hx : ev l x = some (.agg (encP a).toArray)) (hy : ev l y = some (.agg (encP b).toArray)) : Pv Tryz.prog n l ⟨d, .binOp .eql 49 x y t', ty, pos, af, g⟩ (.bool (decide (a = b))) w := ⟨fun A hA => by
  have h1 : (eqGuard .eql 49 x y (.agg (encP a).toArray) (.agg (encP b).toArray)).run Tryz.prog w = .ok () w := run_eqGuard_agg w .eql 49 x y _ _ (by kernel_rfl)
  have h2 := eql_P a b w
  simp [execOp, hA.ev hx, hA.ev hy, h1, h2]⟩

theorem neq_L (x y : Lt) (w : World) : (binOp .neq 53 (.agg (encL x).toArray) (.agg (encL y).toArray)).run Tryz.prog w = .ok (.bool (!decide (x = y))) w := by
  have hS : (Tryz.prog).underlying 53 = some (.struct ((Tryz.prog).fieldsOf 53)) := by kernel_rfl
  have hp : (Tryz.prog).stoodInHeld 53 = false := by kernel_rfl
  unfold encL
  rw [run_neq_struct, show (10000 : Nat) = 9999 + 1 from rfl, run_equalIn_agg w 9999 53 _ _ hS hp]
  have h : (decide (x = y)) = (x.id == y.id && (x.seller == y.seller && (x.inst == y.inst && x.qty == y.qty))) := by
    rw [Bool.eq_iff_iff]
    cases x; cases y; simp
  rw [h]
  simp only [Program.fieldsOf, Tryz.underlying53]
  go_simp
  by_cases h1 : x.id = y.id <;> by_cases h2 : x.seller = y.seller <;> by_cases h3 : x.inst = y.inst <;> by_cases h4 : x.qty = y.qty <;> simp [*]
theorem eql_L (x y : Lt) (w : World) : (binOp .eql 53 (.agg (encL x).toArray) (.agg (encL y).toArray)).run Tryz.prog w = .ok (.bool (decide (x = y))) w := by
  have hS : (Tryz.prog).underlying 53 = some (.struct ((Tryz.prog).fieldsOf 53)) := by kernel_rfl
  have hp : (Tryz.prog).stoodInHeld 53 = false := by kernel_rfl
  unfold encL
  rw [run_eql_struct, show (10000 : Nat) = 9999 + 1 from rfl, run_equalIn_agg w 9999 53 _ _ hS hp]
  have h : (decide (x = y)) = (x.id == y.id && (x.seller == y.seller && (x.inst == y.inst && x.qty == y.qty))) := by
    rw [Bool.eq_iff_iff]
    cases x; cases y; simp
  rw [h]
  simp only [Program.fieldsOf, Tryz.underlying53]
  go_simp
  by_cases h1 : x.id = y.id <;> by_cases h2 : x.seller = y.seller <;> by_cases h3 : x.inst = y.inst <;> by_cases h4 : x.qty = y.qty <;> simp [*]
theorem pv_neqL {n : Nat} {l : Fr} {w : World} {d : Option Nat} {t' ty : TypeId} {x y : Operand} {pos : String} {af : Array Edge} {g : Option (Nat × Bool)} (a b : Lt) (hx : ev l x = some (.agg (encL a).toArray)) (hy : ev l y = some (.agg (encL b).toArray)) : Pv Tryz.prog n l ⟨d, .binOp .neq 53 x y t', ty, pos, af, g⟩ (.bool (!decide (a = b))) w := ⟨fun A hA => by
  have h1 : (eqGuard .neq 53 x y (.agg (encL a).toArray) (.agg (encL b).toArray)).run Tryz.prog w = .ok () w := run_eqGuard_agg w .neq 53 x y _ _ (by kernel_rfl)
  have h2 := neq_L a b w
  simp [execOp, hA.ev hx, hA.ev hy, h1, h2]⟩
theorem pv_eqlL {n : Nat} {l : Fr} {w : World} {d : Option Nat} {t' ty : TypeId} {x y : Operand} {pos : String} {af : Array Edge} {g : Option (Nat × Bool)} (a b : Lt) (hx : ev l x = some (.agg (encL a).toArray)) (hy : ev l y = some (.agg (encL b).toArray)) : Pv Tryz.prog n l ⟨d, .binOp .eql 53 x y t', ty, pos, af, g⟩ (.bool (decide (a = b))) w := ⟨fun A hA => by
  have h1 : (eqGuard .eql 53 x y (.agg (encL a).toArray) (.agg (encL b).toArray)).run Tryz.prog w = .ok () w := run_eqGuard_agg w .eql 53 x y _ _ (by kernel_rfl)
  have h2 := eql_L a b w
  simp [execOp, hA.ev hx, hA.ev hy, h1, h2]⟩

set_option maxRecDepth 20000 in
theorem rfind_P {p : List Opn} {m : Nat} {a : Option Addr} {ca : Nat} {w : World} (id : Int) (hm : p.length = m) (HP : SlR encP 6 w a ca p) : Calls Tryz.prog 41 #[.slice a m ca, .int .i64 id] w fun e w' => e = .returned (.tuple #[.agg (encP ((findP p id).getD oZ)).toArray, .bool (findP p id).isSome]) ∧ Below w.heap.size w w' := by
  subst hm
  have hE := Ext.refl w
  have hw := Below.refl w.heap.size w
  have hca := HP.le
  have hcm := HP.max
  refine fn_enter 25 Tryz.func41 rfl rfl rfl ?_
  repeat' (first | (refine is_cw ?_; first | (refine cw_seq ?_) | (refine cw_region ?_)))
  refine lw_allocN rfl (by first | exact tyv_27 | exact tyv_28 | exact tyv_38 | exact tyv_39 | exact tyv_48 | exact tyv_49 | exact tyv_52 | exact tyv_53 | exact tyv_68 | exact tyv_69 | exact tyv_79 | exact tyv_80 | exact tyv_94 | exact tyv_95 | exact tyv_131 | exact tyv_132) rfl ?_; intro N w1 hN H hb
  replace hE := hE.mono hb
  replace HP := HP.mono hb
  clear hb hw
  have hw := Below.refl w1.heap.size w1
  repeat' (first | (refine lw_pure rfl (pv_assign rfl) ?_) | (refine is_cw ?_; first | (refine cw_seq ?_) | (refine cw_region ?_) | (refine cw_block ?_)) | (refine is_qw ?_; first | (with_reducible refine qw_then ?_)) | (refine lw_nil ?_))
  refine cw_loop (σ := Nat) (fun k => [(0, .slice a p.length ca), (1, .int .i64 id), (4, .pointer (some ⟨N, 0, none⟩)), (6, .int .i64 (k : Nat))]) (fun k wr => k ≤ p.length ∧ Below w1.heap.size w1 wr ∧ ∀ x ∈ p.take k, (x.id == id) = false) (fun k => p.length - k) 0 (by repeat' (first | exact trivial | refine ⟨rfl, ?_⟩)) ⟨Nat.zero_le _, hw, by simp⟩ ?_
  clear hw
  rintro k wr ⟨hk, hw, hn⟩
  by_cases hlt : k < p.length
  · have hxk : p[k]? = some p[k] := List.getElem?_eq_getElem hlt
    obtain ⟨ab, ao, rfl, -, -⟩ := HP.at (by intro h; rw [h] at hlt; simp at hlt)
    generalize p[k] = x at hxk
    by_cases hx : x.id = id
    · have hf : findP p id = some x := find_at hxk (by simp [hx]) hn
      rw [hf]
      repeat' (first | (refine lw_pure rfl (pv_move rfl) ?_) | (refine is_cw ?_; first | (refine cw_seq ?_) | (refine cw_region ?_) | (refine cw_true rfl (by first | assumption | exact decide_eq_true (by omega) | exact dec_notT (by omega)) ?_) | (refine cw_skip ?_) | (refine cw_block ?_)) | (refine is_qw ?_; first | (with_reducible refine qw_then ?_)) | (refine lw_nil ?_) | ((refine is_bin ?_; first | (refine lw_pure rfl (pv_lss rfl rfl) ?_) | (refine lw_pure rfl (pv_eql rfl rfl) ?_))) | ((refine is_load ?_; first | (refine lw_pure rfl (pv_load (t1 rfl) rfl (by first | exact SlR.ld (HP.mono hw) hxk rfl | exact SlR.ld1 (HP.mono hw) hxk rfl)) ?_) | (refine lw_pure rfl (pv_loada (tA rfl) rfl (by first | exact SlR.lda (HP.mono hw) hxk) (by rfl)) ?_))) | ((refine is_fa ?_; first | (refine lw_pure rfl (pv_fa (tF rfl) rfl) ?_))) | ((refine is_ia ?_; first | (refine lw_pure rfl (pv_ian (tS rfl) rfl rfl (by omega)) ?_))) | ((refine is_bi ?_; first | (refine lw_pure rfl (pv_lenl (tS rfl) rfl) ?_))))
      refine lw_storea (vs := encP x) (H.mono hw) (tZ rfl) rfl rfl rfl rfl (encP_one _) ?_; intro w3 H2 hg hz
      replace hE := (hE.mono hw).grown hg (by intro q hq; injection hq with hq; omega)
      clear hw
      have hw := Below.refl w3.heap.size w3
      repeat' (first | (refine lw_pure rfl (pv_assign rfl) ?_) | (refine is_cw ?_; first | (refine cw_ret ?_)) | (refine is_qw ?_; first | (with_reducible refine qw_then ?_) | (with_reducible refine qw_then_ret ?_) | (with_reducible refine qw_in_ret ?_)) | (refine lw_nil ?_))
      exact qw_retct rfl rfl rfl (agg_ld (tA rfl) rfl (fun i u hu => H2.ld0 hu)) ⟨rfl, hE.b⟩
    · repeat' (first | (refine lw_pure rfl (pv_move rfl) ?_) | (refine lw_pure rfl (pv_assign rfl) ?_) | (refine is_cw ?_; first | (refine cw_seq ?_) | (refine cw_region ?_) | (refine cw_true rfl (by first | assumption | exact decide_eq_true (by omega) | exact dec_notT (by omega)) ?_) | (refine cw_false rfl (by first | assumption | exact decide_eq_false (by omega) | exact dec_notF (by omega)) ?_) | (refine cw_skip ?_) | (refine cw_block ?_)) | (refine is_qw ?_; first | (with_reducible refine qw_then ?_) | (with_reducible refine qw_in ?_)) | (refine lw_nil ?_) | ((refine is_bin ?_; first | (refine lw_pure rfl (pv_lss rfl rfl) ?_) | (refine lw_pure rfl (pv_eql rfl rfl) ?_) | (refine lw_pure rfl (pv_inc rfl rfl (by omega)) ?_))) | ((refine is_load ?_; first | (refine lw_pure rfl (pv_load (t1 rfl) rfl (by first | exact SlR.ld (HP.mono hw) hxk rfl | exact SlR.ld1 (HP.mono hw) hxk rfl)) ?_))) | ((refine is_fa ?_; first | (refine lw_pure rfl (pv_fa (tF rfl) rfl) ?_))) | ((refine is_ia ?_; first | (refine lw_pure rfl (pv_ian (tS rfl) rfl rfl (by omega)) ?_))) | ((refine is_bi ?_; first | (refine lw_pure rfl (pv_lenl (tS rfl) rfl) ?_))))
      refine qw_round (k + 1) (by repeat' (first | exact trivial | refine ⟨rfl, ?_⟩)) ⟨by omega, hw, ?_⟩ (by omega)
      intro y hy
      rw [List.take_add_one, hxk] at hy
      rcases List.mem_append.1 hy with hy | hy
      · exact hn y hy
      · simp at hy; subst hy; simp [hx]
  · have hkl : k = p.length := by omega
    subst hkl
    rw [List.take_length] at hn
    have hf : findP p id = none := find_none hn
    rw [hf]
    repeat' (first | (refine lw_pure rfl (pv_move rfl) ?_) | (refine is_cw ?_; first | (refine cw_seq ?_) | (refine cw_region ?_) | (refine cw_false rfl (by first | assumption | exact decide_eq_false (by omega) | exact dec_notF (by omega)) ?_) | (refine cw_exit ?_)) | (refine is_qw ?_; first | (with_reducible refine qw_then ?_) | (with_reducible refine qw_in_hit ?_) | (with_reducible refine qw_then_exit ?_)) | (refine lw_nil ?_) | ((refine is_bin ?_; first | (refine lw_pure rfl (pv_lss rfl rfl) ?_))) | ((refine is_bi ?_; first | (refine lw_pure rfl (pv_lenl (tS rfl) rfl) ?_))) | ((refine is_bd ?_; first | (refine lw_pure rfl (tyB_49 rfl rfl rfl) ?_))))
    refine lw_storea (vs := encP oZ) (H.mono hw) (tZ rfl) rfl rfl rfl rfl (encP_one _) ?_; intro w3 H2 hg hz
    replace hE := (hE.mono hw).grown hg (by intro q hq; injection hq with hq; omega)
    clear hw
    have hw := Below.refl w3.heap.size w3
    repeat' (first | (refine lw_pure rfl (pv_assign rfl) ?_) | (refine is_cw ?_; first | (refine cw_ret ?_)) | (refine is_qw ?_; first | (with_reducible refine qw_then ?_)) | (refine lw_nil ?_))
    exact qw_retct rfl rfl rfl (agg_ld (tA rfl) rfl (fun i u hu => H2.ld0 hu)) ⟨rfl, hE.b⟩

set_option maxRecDepth 20000 in
theorem rfind_L {p : List Lt} {m : Nat} {a : Option Addr} {ca : Nat} {w : World} (id : Int) (hm : p.length = m) (HP : SlR encL 4 w a ca p) : Calls Tryz.prog 43 #[.slice a m ca, .int .i64 id] w fun e w' => e = .returned (.tuple #[.agg (encL ((findT p id).getD lZ)).toArray, .bool (findT p id).isSome]) ∧ Below w.heap.size w w' := by
  subst hm
  have hE := Ext.refl w
  have hw := Below.refl w.heap.size w
  have hca := HP.le
  have hcm := HP.max
  refine fn_enter 25 Tryz.func43 rfl rfl rfl ?_
  repeat' (first | (refine is_cw ?_; first | (refine cw_seq ?_) | (refine cw_region ?_)))
  refine lw_allocN rfl (by first | exact tyv_27 | exact tyv_28 | exact tyv_38 | exact tyv_39 | exact tyv_48 | exact tyv_49 | exact tyv_52 | exact tyv_53 | exact tyv_68 | exact tyv_69 | exact tyv_79 | exact tyv_80 | exact tyv_94 | exact tyv_95 | exact tyv_131 | exact tyv_132) rfl ?_; intro N w1 hN H hb
  replace hE := hE.mono hb
  replace HP := HP.mono hb
  clear hb hw
  have hw := Below.refl w1.heap.size w1
  repeat' (first | (refine lw_pure rfl (pv_assign rfl) ?_) | (refine is_cw ?_; first | (refine cw_seq ?_) | (refine cw_region ?_) | (refine cw_block ?_)) | (refine is_qw ?_; first | (with_reducible refine qw_then ?_)) | (refine lw_nil ?_))
  refine cw_loop (σ := Nat) (fun k => [(0, .slice a p.length ca), (1, .int .i64 id), (4, .pointer (some ⟨N, 0, none⟩)), (6, .int .i64 (k : Nat))]) (fun k wr => k ≤ p.length ∧ Below w1.heap.size w1 wr ∧ ∀ x ∈ p.take k, (x.id == id) = false) (fun k => p.length - k) 0 (by repeat' (first | exact trivial | refine ⟨rfl, ?_⟩)) ⟨Nat.zero_le _, hw, by simp⟩ ?_
  clear hw
  rintro k wr ⟨hk, hw, hn⟩
  by_cases hlt : k < p.length
  · have hxk : p[k]? = some p[k] := List.getElem?_eq_getElem hlt
    obtain ⟨ab, ao, rfl, -, -⟩ := HP.at (by intro h; rw [h] at hlt; simp at hlt)
    generalize p[k] = x at hxk
    by_cases hx : x.id = id
    · have hf : findT p id = some x := find_at hxk (by simp [hx]) hn
      rw [hf]
      repeat' (first | (refine lw_pure rfl (pv_move rfl) ?_) | (refine is_cw ?_; first | (refine cw_seq ?_) | (refine cw_region ?_) | (refine cw_true rfl (by first | assumption | exact decide_eq_true (by omega) | exact dec_notT (by omega)) ?_) | (refine cw_skip ?_) | (refine cw_block ?_)) | (refine is_qw ?_; first | (with_reducible refine qw_then ?_)) | (refine lw_nil ?_) | ((refine is_bin ?_; first | (refine lw_pure rfl (pv_lss rfl rfl) ?_) | (refine lw_pure rfl (pv_eql rfl rfl) ?_))) | ((refine is_load ?_; first | (refine lw_pure rfl (pv_load (t1 rfl) rfl (by first | exact SlR.ld (HP.mono hw) hxk rfl | exact SlR.ld1 (HP.mono hw) hxk rfl)) ?_) | (refine lw_pure rfl (pv_loada (tA rfl) rfl (by first | exact SlR.lda (HP.mono hw) hxk) (by rfl)) ?_))) | ((refine is_fa ?_; first | (refine lw_pure rfl (pv_fa (tF rfl) rfl) ?_))) | ((refine is_ia ?_; first | (refine lw_pure rfl (pv_ian (tS rfl) rfl rfl (by omega)) ?_))) | ((refine is_bi ?_; first | (refine lw_pure rfl (pv_lenl (tS rfl) rfl) ?_))))
      refine lw_storea (vs := encL x) (H.mono hw) (tZ rfl) rfl rfl rfl rfl (encL_one _) ?_; intro w3 H2 hg hz
      replace hE := (hE.mono hw).grown hg (by intro q hq; injection hq with hq; omega)
      clear hw
      have hw := Below.refl w3.heap.size w3
      repeat' (first | (refine lw_pure rfl (pv_assign rfl) ?_) | (refine is_cw ?_; first | (refine cw_ret ?_)) | (refine is_qw ?_; first | (with_reducible refine qw_then ?_) | (with_reducible refine qw_then_ret ?_) | (with_reducible refine qw_in_ret ?_)) | (refine lw_nil ?_))
      exact qw_retct rfl rfl rfl (agg_ld (tA rfl) rfl (fun i u hu => H2.ld0 hu)) ⟨rfl, hE.b⟩
    · repeat' (first | (refine lw_pure rfl (pv_move rfl) ?_) | (refine lw_pure rfl (pv_assign rfl) ?_) | (refine is_cw ?_; first | (refine cw_seq ?_) | (refine cw_region ?_) | (refine cw_true rfl (by first | assumption | exact decide_eq_true (by omega) | exact dec_notT (by omega)) ?_) | (refine cw_false rfl (by first | assumption | exact decide_eq_false (by omega) | exact dec_notF (by omega)) ?_) | (refine cw_skip ?_) | (refine cw_block ?_)) | (refine is_qw ?_; first | (with_reducible refine qw_then ?_) | (with_reducible refine qw_in ?_)) | (refine lw_nil ?_) | ((refine is_bin ?_; first | (refine lw_pure rfl (pv_lss rfl rfl) ?_) | (refine lw_pure rfl (pv_eql rfl rfl) ?_) | (refine lw_pure rfl (pv_inc rfl rfl (by omega)) ?_))) | ((refine is_load ?_; first | (refine lw_pure rfl (pv_load (t1 rfl) rfl (by first | exact SlR.ld (HP.mono hw) hxk rfl | exact SlR.ld1 (HP.mono hw) hxk rfl)) ?_))) | ((refine is_fa ?_; first | (refine lw_pure rfl (pv_fa (tF rfl) rfl) ?_))) | ((refine is_ia ?_; first | (refine lw_pure rfl (pv_ian (tS rfl) rfl rfl (by omega)) ?_))) | ((refine is_bi ?_; first | (refine lw_pure rfl (pv_lenl (tS rfl) rfl) ?_))))
      refine qw_round (k + 1) (by repeat' (first | exact trivial | refine ⟨rfl, ?_⟩)) ⟨by omega, hw, ?_⟩ (by omega)
      intro y hy
      rw [List.take_add_one, hxk] at hy
      rcases List.mem_append.1 hy with hy | hy
      · exact hn y hy
      · simp at hy; subst hy; simp [hx]
  · have hkl : k = p.length := by omega
    subst hkl
    rw [List.take_length] at hn
    have hf : findT p id = none := find_none hn
    rw [hf]
    repeat' (first | (refine lw_pure rfl (pv_move rfl) ?_) | (refine is_cw ?_; first | (refine cw_seq ?_) | (refine cw_region ?_) | (refine cw_false rfl (by first | assumption | exact decide_eq_false (by omega) | exact dec_notF (by omega)) ?_) | (refine cw_exit ?_)) | (refine is_qw ?_; first | (with_reducible refine qw_then ?_) | (with_reducible refine qw_in_hit ?_) | (with_reducible refine qw_then_exit ?_)) | (refine lw_nil ?_) | ((refine is_bin ?_; first | (refine lw_pure rfl (pv_lss rfl rfl) ?_))) | ((refine is_bi ?_; first | (refine lw_pure rfl (pv_lenl (tS rfl) rfl) ?_))) | ((refine is_bd ?_; first | (refine lw_pure rfl (tyB_53 rfl rfl rfl) ?_))))
    refine lw_storea (vs := encL lZ) (H.mono hw) (tZ rfl) rfl rfl rfl rfl (encL_one _) ?_; intro w3 H2 hg hz
    replace hE := (hE.mono hw).grown hg (by intro q hq; injection hq with hq; omega)
    clear hw
    have hw := Below.refl w3.heap.size w3
    repeat' (first | (refine lw_pure rfl (pv_assign rfl) ?_) | (refine is_cw ?_; first | (refine cw_ret ?_)) | (refine is_qw ?_; first | (with_reducible refine qw_then ?_)) | (refine lw_nil ?_))
    exact qw_retct rfl rfl rfl (agg_ld (tA rfl) rfl (fun i u hu => H2.ld0 hu)) ⟨rfl, hE.b⟩

set_option maxRecDepth 20000 in
theorem rsame_P {p q : List Opn} {m n : Nat} {a b : Option Addr} {ca cb : Nat} {w : World} (hm : p.length = m) (hn : q.length = n) (HP : SlR encP 6 w a ca p) (HQ : SlR encP 6 w b cb q) : Calls Tryz.prog 15 #[.slice a m ca, .slice b n cb] w fun e w' => e = .returned (.bool (decide (p = q))) ∧ Below w.heap.size w w' := by
  subst hm hn
  have hw := Below.refl w.heap.size w
  have hca := HP.le
  have hcm := HP.max
  refine fn_enter 26 Tryz.func15 rfl rfl rfl ?_
  by_cases hl : p.length = q.length
  · repeat' ((fail_if_success (refine is_seqb ?_)); (fail_if_success (refine is_blk ?_)); first | (refine lw_pure rfl (pv_move rfl) ?_) | (refine lw_pure rfl (pv_assign rfl) ?_) | (refine is_cw ?_; first | (refine cw_seq ?_) | (refine cw_region ?_) | (refine cw_false rfl (by first | assumption | exact decide_eq_false (by omega) | exact dec_notF (by omega)) ?_) | (refine cw_skip ?_)) | (refine is_qw ?_; first | (with_reducible refine qw_then ?_)) | (refine lw_nil ?_) | ((refine is_bin ?_; first | (refine lw_pure rfl (pv_neq rfl rfl) ?_))) | ((refine is_bi ?_; first | (refine lw_pure rfl (pv_lenl (tS rfl) rfl) ?_))))
    repeat' (first | (refine is_cw ?_; first | (refine cw_block ?_)))
    refine cw_loop (σ := Nat) (fun k => [(0, .slice a p.length ca), (1, .slice b q.length cb), (5, .int .i64 (k : Nat))]) (fun k wr => k ≤ p.length ∧ Below w.heap.size w wr ∧ ∀ j, j < k → p[j]? = q[j]?) (fun k => p.length - k) 0 (by repeat' (first | exact trivial | refine ⟨rfl, ?_⟩)) ⟨Nat.zero_le _, hw, by omega⟩ ?_
    clear hw
    rintro k wr ⟨hk, hw, hn⟩
    by_cases hlt : k < p.length
    · have hxk : p[k]? = some p[k] := List.getElem?_eq_getElem hlt
      have hyk : q[k]? = some (q[k]'(by omega)) := List.getElem?_eq_getElem _
      obtain ⟨ab, ao, rfl, -, -⟩ := HP.at (by intro h; rw [h] at hlt; simp at hlt)
      obtain ⟨bb, bo, rfl, -, -⟩ := HQ.at (by intro h; rw [h] at hl; rw [hl] at hlt; simp at hlt)
      generalize p[k] = x at hxk
      generalize q[k] = y at hyk
      repeat' (first | (refine lw_pure rfl (pv_move rfl) ?_) | (refine is_cw ?_; first | (refine cw_seq ?_) | (refine cw_region ?_) | (refine cw_true rfl (by first | assumption | exact decide_eq_true (by omega) | exact dec_notT (by omega)) ?_) | (refine cw_skip ?_) | (refine cw_block ?_)) | (refine is_qw ?_; first | (with_reducible refine qw_then ?_)) | (refine lw_nil ?_) | ((refine is_bin ?_; first | (refine lw_pure rfl (pv_lss rfl rfl) ?_))) | ((refine is_bi ?_; first | (refine lw_pure rfl (pv_lenl (tS rfl) rfl) ?_))))
      refine cw_drawn (fun w' => Below w.heap.size w w') (by kernel_rfl) (by repeat (first | exact NoPanic.body | with_reducible refine NoPanic.then ?_ | with_reducible refine NoPanic.inBlock ?_)) (fun hNP => ?_)
      have hS := hw.drew
      (refine aw_take 0 rfl (by kernel_rfl) (by kernel_rfl) (by kernel_rfl) hNP hS rfl (fun w' hq => pv_move rfl) ?_)
      (refine aw_take 1 rfl (by kernel_rfl) (by kernel_rfl) (by kernel_rfl) hNP hS rfl (fun w' hq => pv_move rfl) ?_)
      (refine aw_take 2 rfl (by kernel_rfl) (by kernel_rfl) (by kernel_rfl) hNP hS rfl (fun w' hq => pv_ian (tS rfl) rfl rfl (by omega)) ?_)
      (refine aw_take 3 rfl (by kernel_rfl) (by kernel_rfl) (by kernel_rfl) hNP hS rfl (fun w' hq => pv_loada (tA rfl) rfl (by first | exact SlR.lda (HP.mono hq) hxk | exact SlR.lda (HQ.mono hq) hyk) (by rfl)) ?_)
      (refine aw_take 4 rfl (by kernel_rfl) (by kernel_rfl) (by kernel_rfl) hNP hS rfl (fun w' hq => pv_move rfl) ?_)
      (refine aw_take 5 rfl (by kernel_rfl) (by kernel_rfl) (by kernel_rfl) hNP hS rfl (fun w' hq => pv_move rfl) ?_)
      (refine aw_take 6 rfl (by kernel_rfl) (by kernel_rfl) (by kernel_rfl) hNP hS rfl (fun w' hq => pv_ian (tS rfl) rfl rfl (by omega)) ?_)
      (refine aw_take 7 rfl (by kernel_rfl) (by kernel_rfl) (by kernel_rfl) hNP hS rfl (fun w' hq => pv_loada (tA rfl) rfl (by first | exact SlR.lda (HP.mono hq) hxk | exact SlR.lda (HQ.mono hq) hyk) (by rfl)) ?_)
      (refine aw_take 8 rfl (by kernel_rfl) (by kernel_rfl) (by kernel_rfl) hNP hS rfl (fun w' hq => pv_neqP _ _ rfl rfl) ?_)
      refine aw_done (by kernel_rfl) ?_
      replace hw := hS; clear hS hNP
      by_cases hxy : x = y
      · repeat' (first | (refine lw_pure rfl (pv_move rfl) ?_) | (refine lw_pure rfl (pv_assign rfl) ?_) | (refine is_cw ?_; first | (refine cw_region ?_) | (refine cw_false rfl (by first | assumption | exact decide_eq_false (by omega) | exact dec_notF (by omega)) ?_) | (refine cw_skip ?_)) | (refine is_qw ?_; first | (with_reducible refine qw_then ?_) | (with_reducible refine qw_in ?_)) | (refine lw_nil ?_) | ((refine is_bin ?_; first | (refine lw_pure rfl (pv_inc rfl rfl (by omega)) ?_))))
        refine qw_round (k + 1) (by repeat' (first | exact trivial | refine ⟨rfl, ?_⟩)) ⟨by omega, hw, ?_⟩ (by omega)
        intro j hj
        by_cases hjk : j = k
        · subst hjk; rw [hxk, hyk, hxy]
        · exact hn j (by omega)
      · repeat' (first | (refine lw_pure rfl (pv_assign rfl) ?_) | (refine is_cw ?_; first | (refine cw_seq ?_) | (refine cw_region ?_) | (refine cw_true rfl (by first | assumption | exact decide_eq_true (by omega) | exact dec_notT (by omega)) ?_) | (refine cw_ret ?_)) | (refine is_qw ?_; first | (with_reducible refine qw_then ?_) | (with_reducible refine qw_then_ret ?_) | (with_reducible refine qw_in_ret ?_)) | (refine lw_nil ?_))
        refine qw_ret1 rfl rfl ⟨ret_bool ?_, hw⟩
        symm; rw [decide_eq_false_iff_not]; rintro rfl
        rw [hxk] at hyk; injection hyk with hyk; exact hxy hyk
    · have hkl : k = p.length := by omega
      subst hkl
      have he : p = q := List.ext_getElem? fun j => by
        by_cases hj : j < p.length
        · exact hn j hj
        · rw [List.getElem?_eq_none (by omega), List.getElem?_eq_none (by omega)]
      repeat' (first | (refine lw_pure rfl (pv_move rfl) ?_) | (refine lw_pure rfl (pv_assign rfl) ?_) | (refine is_cw ?_; first | (refine cw_seq ?_) | (refine cw_region ?_) | (refine cw_false rfl (by first | assumption | exact decide_eq_false (by omega) | exact dec_notF (by omega)) ?_) | (refine cw_exit ?_) | (refine cw_ret ?_)) | (refine is_qw ?_; first | (with_reducible refine qw_then ?_) | (with_reducible refine qw_in_hit ?_) | (with_reducible refine qw_then_exit ?_)) | (refine lw_nil ?_) | ((refine is_bin ?_; first | (refine lw_pure rfl (pv_lss rfl rfl) ?_))) | ((refine is_bi ?_; first | (refine lw_pure rfl (pv_lenl (tS rfl) rfl) ?_))))
      exact qw_ret1 rfl rfl ⟨ret_bool (by simp [he]), hw⟩
  · repeat' (first | (refine lw_pure rfl (pv_move rfl) ?_) | (refine lw_pure rfl (pv_assign rfl) ?_) | (refine is_cw ?_; first | (refine cw_seq ?_) | (refine cw_region ?_) | (refine cw_true rfl (by first | assumption | exact decide_eq_true (by omega) | exact dec_notT (by omega)) ?_) | (refine cw_ret ?_)) | (refine is_qw ?_; first | (with_reducible refine qw_then ?_) | (with_reducible refine qw_then_ret ?_)) | (refine lw_nil ?_) | ((refine is_bin ?_; first | (refine lw_pure rfl (pv_neq rfl rfl) ?_))) | ((refine is_bi ?_; first | (refine lw_pure rfl (pv_lenl (tS rfl) rfl) ?_))))
    exact qw_ret1 rfl rfl ⟨ret_bool (by symm; rw [decide_eq_false_iff_not]; rintro rfl; exact hl rfl), hw⟩

set_option maxRecDepth 20000 in
theorem rsame_L {p q : List Lt} {m n : Nat} {a b : Option Addr} {ca cb : Nat} {w : World} (hm : p.length = m) (hn : q.length = n) (HP : SlR encL 4 w a ca p) (HQ : SlR encL 4 w b cb q) : Calls Tryz.prog 16 #[.slice a m ca, .slice b n cb] w fun e w' => e = .returned (.bool (decide (p = q))) ∧ Below w.heap.size w w' := by
  subst hm hn
  have hw := Below.refl w.heap.size w
  have hca := HP.le
  have hcm := HP.max
  refine fn_enter 26 Tryz.func16 rfl rfl rfl ?_
  by_cases hl : p.length = q.length
  · repeat' ((fail_if_success (refine is_seqb ?_)); (fail_if_success (refine is_blk ?_)); first | (refine lw_pure rfl (pv_move rfl) ?_) | (refine lw_pure rfl (pv_assign rfl) ?_) | (refine is_cw ?_; first | (refine cw_seq ?_) | (refine cw_region ?_) | (refine cw_false rfl (by first | assumption | exact decide_eq_false (by omega) | exact dec_notF (by omega)) ?_) | (refine cw_skip ?_)) | (refine is_qw ?_; first | (with_reducible refine qw_then ?_)) | (refine lw_nil ?_) | ((refine is_bin ?_; first | (refine lw_pure rfl (pv_neq rfl rfl) ?_))) | ((refine is_bi ?_; first | (refine lw_pure rfl (pv_lenl (tS rfl) rfl) ?_))))
    repeat' (first | (refine is_cw ?_; first | (refine cw_block ?_)))
    refine cw_loop (σ := Nat) (fun k => [(0, .slice a p.length ca), (1, .slice b q.length cb), (5, .int .i64 (k : Nat))]) (fun k wr => k ≤ p.length ∧ Below w.heap.size w wr ∧ ∀ j, j < k → p[j]? = q[j]?) (fun k => p.length - k) 0 (by repeat' (first | exact trivial | refine ⟨rfl, ?_⟩)) ⟨Nat.zero_le _, hw, by omega⟩ ?_
    clear hw
    rintro k wr ⟨hk, hw, hn⟩
    by_cases hlt : k < p.length
    · have hxk : p[k]? = some p[k] := List.getElem?_eq_getElem hlt
      have hyk : q[k]? = some (q[k]'(by omega)) := List.getElem?_eq_getElem _
      obtain ⟨ab, ao, rfl, -, -⟩ := HP.at (by intro h; rw [h] at hlt; simp at hlt)
      obtain ⟨bb, bo, rfl, -, -⟩ := HQ.at (by intro h; rw [h] at hl; rw [hl] at hlt; simp at hlt)
      generalize p[k] = x at hxk
      generalize q[k] = y at hyk
      repeat' (first | (refine lw_pure rfl (pv_move rfl) ?_) | (refine is_cw ?_; first | (refine cw_seq ?_) | (refine cw_region ?_) | (refine cw_true rfl (by first | assumption | exact decide_eq_true (by omega) | exact dec_notT (by omega)) ?_) | (refine cw_skip ?_) | (refine cw_block ?_)) | (refine is_qw ?_; first | (with_reducible refine qw_then ?_)) | (refine lw_nil ?_) | ((refine is_bin ?_; first | (refine lw_pure rfl (pv_lss rfl rfl) ?_))) | ((refine is_bi ?_; first | (refine lw_pure rfl (pv_lenl (tS rfl) rfl) ?_))))
      refine cw_drawn (fun w' => Below w.heap.size w w') (by kernel_rfl) (by repeat (first | exact NoPanic.body | with_reducible refine NoPanic.then ?_ | with_reducible refine NoPanic.inBlock ?_)) (fun hNP => ?_)
      have hS := hw.drew
      (refine aw_take 0 rfl (by kernel_rfl) (by kernel_rfl) (by kernel_rfl) hNP hS rfl (fun w' hq => pv_move rfl) ?_)
      (refine aw_take 1 rfl (by kernel_rfl) (by kernel_rfl) (by kernel_rfl) hNP hS rfl (fun w' hq => pv_move rfl) ?_)
      (refine aw_take 2 rfl (by kernel_rfl) (by kernel_rfl) (by kernel_rfl) hNP hS rfl (fun w' hq => pv_ian (tS rfl) rfl rfl (by omega)) ?_)
      (refine aw_take 3 rfl (by kernel_rfl) (by kernel_rfl) (by kernel_rfl) hNP hS rfl (fun w' hq => pv_loada (tA rfl) rfl (by first | exact SlR.lda (HP.mono hq) hxk | exact SlR.lda (HQ.mono hq) hyk) (by rfl)) ?_)
      (refine aw_take 4 rfl (by kernel_rfl) (by kernel_rfl) (by kernel_rfl) hNP hS rfl (fun w' hq => pv_move rfl) ?_)
      (refine aw_take 5 rfl (by kernel_rfl) (by kernel_rfl) (by kernel_rfl) hNP hS rfl (fun w' hq => pv_move rfl) ?_)
      (refine aw_take 6 rfl (by kernel_rfl) (by kernel_rfl) (by kernel_rfl) hNP hS rfl (fun w' hq => pv_ian (tS rfl) rfl rfl (by omega)) ?_)
      (refine aw_take 7 rfl (by kernel_rfl) (by kernel_rfl) (by kernel_rfl) hNP hS rfl (fun w' hq => pv_loada (tA rfl) rfl (by first | exact SlR.lda (HP.mono hq) hxk | exact SlR.lda (HQ.mono hq) hyk) (by rfl)) ?_)
      (refine aw_take 8 rfl (by kernel_rfl) (by kernel_rfl) (by kernel_rfl) hNP hS rfl (fun w' hq => pv_neqL _ _ rfl rfl) ?_)
      refine aw_done (by kernel_rfl) ?_
      replace hw := hS; clear hS hNP
      by_cases hxy : x = y
      · repeat' (first | (refine lw_pure rfl (pv_move rfl) ?_) | (refine lw_pure rfl (pv_assign rfl) ?_) | (refine is_cw ?_; first | (refine cw_region ?_) | (refine cw_false rfl (by first | assumption | exact decide_eq_false (by omega) | exact dec_notF (by omega)) ?_) | (refine cw_skip ?_)) | (refine is_qw ?_; first | (with_reducible refine qw_then ?_) | (with_reducible refine qw_in ?_)) | (refine lw_nil ?_) | ((refine is_bin ?_; first | (refine lw_pure rfl (pv_inc rfl rfl (by omega)) ?_))))
        refine qw_round (k + 1) (by repeat' (first | exact trivial | refine ⟨rfl, ?_⟩)) ⟨by omega, hw, ?_⟩ (by omega)
        intro j hj
        by_cases hjk : j = k
        · subst hjk; rw [hxk, hyk, hxy]
        · exact hn j (by omega)
      · repeat' (first | (refine lw_pure rfl (pv_assign rfl) ?_) | (refine is_cw ?_; first | (refine cw_seq ?_) | (refine cw_region ?_) | (refine cw_true rfl (by first | assumption | exact decide_eq_true (by omega) | exact dec_notT (by omega)) ?_) | (refine cw_ret ?_)) | (refine is_qw ?_; first | (with_reducible refine qw_then ?_) | (with_reducible refine qw_then_ret ?_) | (with_reducible refine qw_in_ret ?_)) | (refine lw_nil ?_))
        refine qw_ret1 rfl rfl ⟨ret_bool ?_, hw⟩
        symm; rw [decide_eq_false_iff_not]; rintro rfl
        rw [hxk] at hyk; injection hyk with hyk; exact hxy hyk
    · have hkl : k = p.length := by omega
      subst hkl
      have he : p = q := List.ext_getElem? fun j => by
        by_cases hj : j < p.length
        · exact hn j hj
        · rw [List.getElem?_eq_none (by omega), List.getElem?_eq_none (by omega)]
      repeat' (first | (refine lw_pure rfl (pv_move rfl) ?_) | (refine lw_pure rfl (pv_assign rfl) ?_) | (refine is_cw ?_; first | (refine cw_seq ?_) | (refine cw_region ?_) | (refine cw_false rfl (by first | assumption | exact decide_eq_false (by omega) | exact dec_notF (by omega)) ?_) | (refine cw_exit ?_) | (refine cw_ret ?_)) | (refine is_qw ?_; first | (with_reducible refine qw_then ?_) | (with_reducible refine qw_in_hit ?_) | (with_reducible refine qw_then_exit ?_)) | (refine lw_nil ?_) | ((refine is_bin ?_; first | (refine lw_pure rfl (pv_lss rfl rfl) ?_))) | ((refine is_bi ?_; first | (refine lw_pure rfl (pv_lenl (tS rfl) rfl) ?_))))
      exact qw_ret1 rfl rfl ⟨ret_bool (by simp [he]), hw⟩
  · repeat' (first | (refine lw_pure rfl (pv_move rfl) ?_) | (refine lw_pure rfl (pv_assign rfl) ?_) | (refine is_cw ?_; first | (refine cw_seq ?_) | (refine cw_region ?_) | (refine cw_true rfl (by first | assumption | exact decide_eq_true (by omega) | exact dec_notT (by omega)) ?_) | (refine cw_ret ?_)) | (refine is_qw ?_; first | (with_reducible refine qw_then ?_) | (with_reducible refine qw_then_ret ?_)) | (refine lw_nil ?_) | ((refine is_bin ?_; first | (refine lw_pure rfl (pv_neq rfl rfl) ?_))) | ((refine is_bi ?_; first | (refine lw_pure rfl (pv_lenl (tS rfl) rfl) ?_))))
    exact qw_ret1 rfl rfl ⟨ret_bool (by symm; rw [decide_eq_false_iff_not]; rintro rfl; exact hl rfl), hw⟩

set_option maxRecDepth 20000 in
theorem rbtw_c (n m : Int) (w : World) : Calls Tryz.prog 93 #[.int .i64 n, .int .i64 m] w fun e w' => e = .returned (.bool (btw n m)) ∧ Below w.heap.size w w' := by
  have hw := Below.refl w.heap.size w
  refine fn_enter 12 Tryz.func93 rfl rfl rfl ?_
  repeat' (first | (refine lw_pure rfl (pv_move rfl) ?_) | (refine lw_pure rfl (pv_assign rfl) ?_) | (refine is_cw ?_; first | (refine cw_seq ?_) | (refine cw_region ?_) | (refine cw_ret ?_)) | (refine is_qw ?_; first | (with_reducible refine qw_then ?_)) | (refine lw_nil ?_) | (refine is_guarded ?_; first | (refine lw_on rfl rfl (by first | assumption | exact decide_eq_true (by omega) | exact decide_eq_false (by omega) | exact dec_notT (by omega) | exact dec_notF (by omega)) ?_) | (refine lw_not rfl rfl rfl (by first | assumption | exact decide_eq_true (by omega) | exact decide_eq_false (by omega) | exact dec_notT (by omega) | exact dec_notF (by omega)) ?_) | (refine lw_gs_t rfl rfl rfl (fun hc => ?_) (fun hc => ?_) <;> (first | replace hc := of_decide_eq_true hc | replace hc := of_decide_eq_false hc | replace hc := dec_nT hc | replace hc := dec_nF hc | skip) <;> (try (exfalso; omega)))) | ((refine is_bin ?_; first | (refine lw_pure rfl (pv_leq rfl rfl) ?_) | (refine lw_pure rfl (pv_geq rfl rfl) ?_))) | (refine lw_pure rfl (pv_pick_t rfl (by first | assumption | exact decide_eq_true (by omega) | exact dec_notT (by omega)) rfl) ?_) | (refine lw_pure rfl (pv_pick_f rfl (by first | assumption | exact decide_eq_false (by omega) | exact dec_notF (by omega)) rfl) ?_))
  all_goals (refine qw_ret1 rfl rfl ⟨ret_bool ?_, hw⟩; unfold btw; first | (rw [decide_eq_decide]; omega) | (symm; rw [decide_eq_true_eq]; omega) | (symm; rw [decide_eq_false_iff_not]; omega))
end Go.Proofs.YtemngicaoacfaaaGreatDoor
