/-
  Contracts of layer 23's small functions: positions in memory, total, compare, Same, Get; library functions at positions. Conditions: the slices read as lists.
-/
import Derived.Test.YtemngicaoacfaaaGreatDoorUa
import Derived.Test.YtemngicaoacfaaaGreatDoorOr
import Derived.Test.YtemngicaoacfaaaGreatDoorVa
namespace Go.Proofs.YtemngicaoacfaaaGreatDoor
open Go.RowKit Go.PlainAid

theorem elemS : ElemT Tryz.prog 22 39 6 48 := elem_of Tryz.underlying22 (by kernel_rfl) (by omega)
set_option maxRecDepth 20000 in
theorem indexf_S {xs : List Pos} {m : Nat} {ad : Option Addr} {cap : Nat} {w : World} (base : Nat) (p : Pos → Bool) (F : FuncId) (caps : Array Value) (he : entersB Tryz.prog F = true) (hbw : base ≤ w.heap.size) (hF : ∀ x, x ∈ xs → ∀ w', Below base w w' → Calls Tryz.prog F (#[] ++ [Value.agg (encS x).toArray].toArray ++ caps) w' fun e w'' => e = .returned (.bool (p x)) ∧ Below w'.heap.size w' w'') (hm : xs.length = m) (HS : SlR encS 6 w ad cap xs) : Calls Tryz.prog 48 #[.slice ad m cap, .func (.func F) #[] caps] w fun e w' => (∃ i, e = .returned (.int .i64 i) ∧ ((i = -1 ∧ ∀ x ∈ xs, p x = false) ∨ ∃ (k : Nat) (r : Pos), i = k ∧ xs[k]? = some r ∧ p r = true ∧ ∀ x ∈ xs.take k, p x = false)) ∧ Below w.heap.size w w' := by
  subst hm
  have hw := Below.refl w.heap.size w
  have hla := HS.le
  have hma := HS.max
  refine fn_enter 19 Tryz.func48 rfl rfl rfl ?_
  repeat' (first | (refine lw_pure rfl (pv_move rfl) ?_) | (refine lw_pure rfl (pv_assign rfl) ?_) | (refine is_cw ?_; first | (refine cw_seq ?_) | (refine cw_region ?_) | (refine cw_block ?_)) | (refine is_qw ?_; first | (with_reducible refine qw_then ?_)) | (refine lw_nil ?_) | ((refine is_bi ?_; first | (refine lw_pure rfl (pv_lenl (tS rfl) rfl) ?_))))
  refine cw_loop (σ := Nat) (fun k => [(0, .slice ad xs.length cap), (1, .func (.func F) #[] caps), (7, .int .i64 (xs.length : Nat)), (8, .int .i64 (k : Nat))]) (fun k wr => k ≤ xs.length ∧ Below w.heap.size w wr ∧ ∀ x ∈ xs.take k, p x = false) (fun k => xs.length - k) 0 (by repeat' (first | exact trivial | refine ⟨rfl, ?_⟩)) ⟨Nat.zero_le _, hw, by simp⟩ ?_
  clear hw
  rintro k wr ⟨hk, hw, hn⟩
  by_cases hlt : k < xs.length
  · have hxk : xs[k]? = some xs[k] := List.getElem?_eq_getElem hlt
    have hmem := List.getElem_mem hlt
    obtain ⟨ab, ao, rfl, -, -⟩ := HS.at (by intro h; rw [h] at hlt; simp at hlt)
    generalize xs[k] = x at hxk hmem
    repeat' (first | (refine lw_pure rfl (pv_move rfl) ?_) | (refine lw_pure rfl (pv_assign rfl) ?_) | (refine is_cw ?_; first | (refine cw_seq ?_) | (refine cw_region ?_) | (refine cw_true rfl (by first | assumption | exact decide_eq_true (by omega) | exact dec_notT (by omega)) ?_) | (refine cw_skip ?_) | (refine cw_block ?_)) | (refine is_qw ?_; first | (with_reducible refine qw_then ?_)) | (refine lw_nil ?_) | ((refine is_bin ?_; first | (refine lw_pure rfl (pv_lss rfl rfl) ?_))) | ((refine is_load ?_; first | (refine lw_pure rfl (pv_loada (tA rfl) rfl (by first | exact SlR.lda (HS.mono hw) hxk) (by rfl)) ?_))) | ((refine is_ia ?_; first | (refine lw_pure rfl (pv_ian (tS rfl) rfl rfl (by omega)) ?_))))
    refine lw_callv (f := F) rfl he rfl rfl (hF x hmem _ (hw.mono hbw)) ?_; rintro e w1 ⟨rfl, hb⟩; refine ⟨_, rfl, ?_⟩; replace hw := grow_trans hw hb; clear hb
    cases hp : p x with
    | true =>
      repeat' (first | (refine lw_pure rfl (pv_move rfl) ?_) | (refine lw_pure rfl (pv_assign rfl) ?_) | (refine is_cw ?_; first | (refine cw_seq ?_) | (refine cw_region ?_) | (refine cw_true rfl rfl ?_) | (refine cw_ret ?_)) | (refine is_qw ?_; first | (with_reducible refine qw_then ?_) | (with_reducible refine qw_then_ret ?_) | (with_reducible refine qw_in_ret ?_)) | (refine lw_nil ?_))
      exact qw_ret1 rfl rfl ⟨⟨_, rfl, Or.inr ⟨k, x, rfl, hxk, hp, hn⟩⟩, hw⟩
    | false =>
      repeat' (first | (refine lw_pure rfl (pv_move rfl) ?_) | (refine is_cw ?_; first | (refine cw_region ?_) | (refine cw_false rfl rfl ?_) | (refine cw_skip ?_)) | (refine is_qw ?_; first | (with_reducible refine qw_then ?_) | (with_reducible refine qw_in ?_)) | (refine lw_nil ?_) | ((refine is_bin ?_; first | (refine lw_pure rfl (pv_inc rfl rfl (by omega)) ?_))))
      refine qw_round (k + 1) (by repeat' (first | exact trivial | refine ⟨rfl, ?_⟩)) ⟨by omega, hw, ?_⟩ (by omega)
      intro y hy
      rw [List.take_add_one, hxk] at hy
      rcases List.mem_append.1 hy with hy | hy
      · exact hn y hy
      · simp at hy; subst hy; exact hp
  · have hkl : k = xs.length := by omega
    subst hkl
    rw [List.take_length] at hn
    repeat' (first | (refine lw_pure rfl (pv_assign rfl) ?_) | (refine is_cw ?_; first | (refine cw_seq ?_) | (refine cw_region ?_) | (refine cw_false rfl (by first | assumption | exact decide_eq_false (by omega) | exact dec_notF (by omega)) ?_) | (refine cw_exit ?_) | (refine cw_ret ?_)) | (refine is_qw ?_; first | (with_reducible refine qw_then ?_) | (with_reducible refine qw_in_hit ?_) | (with_reducible refine qw_then_exit ?_)) | (refine lw_nil ?_) | ((refine is_bin ?_; first | (refine lw_pure rfl (pv_lss rfl rfl) ?_))))
    exact qw_ret1 rfl rfl ⟨⟨_, rfl, Or.inl ⟨rfl, hn⟩⟩, hw⟩

set_option maxRecDepth 20000 in
theorem clone_S {xs : List Pos} {m : Nat} {ad : Option Addr} {cap : Nat} {w : World} (hm : xs.length = m) (HS : SlR encS 6 w ad cap xs) (hl : xs.length ≤ 1048576) : Calls Tryz.prog 44 #[.slice ad m cap] w fun e w' => (∃ v, e = .returned v ∧ Own encS 6 39 w.heap.size w' v xs) ∧ Below w.heap.size w w' := by
  subst hm
  have hw := Below.refl w.heap.size w
  refine fn_enter 8 Tryz.func44 rfl rfl rfl ?_
  cases ad with
  | none =>
    obtain ⟨rfl, rfl⟩ := HS.ofNone rfl
    repeat' (first | (refine lw_pure rfl (pv_move rfl) ?_) | (refine lw_pure rfl (pv_assign rfl) ?_) | (refine lw_pure rfl (pv_slnil (tS rfl) rfl rfl) ?_) | (refine is_cw ?_; first | (refine cw_seq ?_) | (refine cw_region ?_) | (refine cw_true rfl rfl ?_) | (refine cw_ret ?_)) | (refine is_qw ?_; first | (with_reducible refine qw_then ?_) | (with_reducible refine qw_then_ret ?_)) | (refine lw_nil ?_))
    exact qw_ret1 rfl rfl ⟨⟨_, rfl, Own.nil _⟩, hw⟩
  | some ad =>
    repeat' (first | (refine lw_pure rfl (pv_move rfl) ?_) | (refine lw_pure rfl (pv_assign rfl) ?_) | (refine lw_pure rfl (pv_slnil (tS rfl) rfl rfl) ?_) | (refine is_cw ?_; first | (refine cw_seq ?_) | (refine cw_region ?_) | (refine cw_false rfl rfl ?_) | (refine cw_skip ?_)) | (refine is_qw ?_; first | (with_reducible refine qw_then ?_)) | (refine lw_nil ?_))
    refine lw_bs0 (enc := encS) elemS rfl ?_; intro wn hO hb hz
    repeat' (first | (refine lw_pure rfl (pv_move rfl) ?_))
    refine lw_app elemS encS_len encS_one rfl rfl rfl hO (HS.mono (grow_trans hw hb)) rfl (by omega) (by simp; omega) (by simp [maxLen]; omega) ?_; intro vm wn hOm hg hb9
    replace hb := hb.trans hb9
    repeat' (first | (refine lw_pure rfl (pv_assign rfl) ?_) | (refine is_cw ?_; first | (refine cw_ret ?_)) | (refine is_qw ?_; first | (with_reducible refine qw_then ?_)) | (refine lw_nil ?_))
    exact qw_ret1 rfl rfl ⟨⟨_, rfl, hOm⟩, hb⟩

theorem neq_S (x y : Pos) (w : World) : (binOp .neq 39 (.agg (encS x).toArray) (.agg (encS y).toArray)).run Tryz.prog w = .ok (.bool (!decide (x = y))) w := by
  have hS : (Tryz.prog).underlying 39 = some (.struct ((Tryz.prog).fieldsOf 39)) := by kernel_rfl
  have hp : (Tryz.prog).stoodInHeld 39 = false := by kernel_rfl
  unfold encS
  rw [run_neq_struct, show (10000 : Nat) = 9999 + 1 from rfl, run_equalIn_agg w 9999 39 _ _ hS hp]
  have h : (decide (x = y)) = (x.acct == y.acct && (x.inst == y.inst && (x.bought == y.bought && (x.sold == y.sold && (x.spent == y.spent && x.got == y.got))))) := by
    rw [Bool.eq_iff_iff]
    cases x; cases y; simp
  rw [h]
  simp only [Program.fieldsOf, Tryz.underlying39]
  go_simp
  by_cases h1 : x.acct = y.acct <;> by_cases h2 : x.inst = y.inst <;> by_cases h3 : x.bought = y.bought <;> by_cases h4 : x.sold = y.sold <;> by_cases h5 : x.spent = y.spent <;> by_cases h6 : x.got = y.got <;> simp [*]
theorem eql_S (x y : Pos) (w : World) : (binOp .eql 39 (.agg (encS x).toArray) (.agg (encS y).toArray)).run Tryz.prog w = .ok (.bool (decide (x = y))) w := by
  have hS : (Tryz.prog).underlying 39 = some (.struct ((Tryz.prog).fieldsOf 39)) := by kernel_rfl
  have hp : (Tryz.prog).stoodInHeld 39 = false := by kernel_rfl
  unfold encS
  rw [run_eql_struct, show (10000 : Nat) = 9999 + 1 from rfl, run_equalIn_agg w 9999 39 _ _ hS hp]
  have h : (decide (x = y)) = (x.acct == y.acct && (x.inst == y.inst && (x.bought == y.bought && (x.sold == y.sold && (x.spent == y.spent && x.got == y.got))))) := by
    rw [Bool.eq_iff_iff]
    cases x; cases y; simp
  rw [h]
  simp only [Program.fieldsOf, Tryz.underlying39]
  go_simp
  by_cases h1 : x.acct = y.acct <;> by_cases h2 : x.inst = y.inst <;> by_cases h3 : x.bought = y.bought <;> by_cases h4 : x.sold = y.sold <;> by_cases h5 : x.spent = y.spent <;> by_cases h6 : x.got = y.got <;> simp [*]
theorem pv_neqS {n : Nat} {l : Fr} {w : World} {d : Option Nat} {t' ty : TypeId} {x y : Operand} {pos : String} {af : Array Edge} {g : Option (Nat × Bool)} (a b : Pos) (hx : ev l x = some (.agg (encS a).toArray)) (hy : ev l y = some (.agg (encS b).toArray)) : Pv Tryz.prog n l ⟨d, .binOp .neq 39 x y t', ty, pos, af, g⟩ (.bool (!decide (a = b))) w := ⟨fun A hA => by
  have h1 : (eqGuard .neq 39 x y (.agg (encS a).toArray) (.agg (encS b).toArray)).run Tryz.prog w = .ok () w := run_eqGuard_agg w .neq 39 x y _ _ (by kernel_rfl)
  have h2 := neq_S a b w
  simp [execOp, hA.ev hx, hA.ev hy, h1, h2]⟩
theorem pv_eqlS {n : Nat} {l : Fr} {w : World} {d : Option Nat} {t' ty : TypeId} {x y : Operand} {pos : String} {af : Array Edge} {g : Option (Nat × Bool)} (a b : Pos) (hx : ev l x = some (.agg (encS a).toArray)) (hy : ev l y = some (.agg (encS b).toArray)) : Pv Tryz.prog n l ⟨d, .binOp .eql 39 x y t', ty, pos, af, g⟩ (.bool (decide (a = b))) w := ⟨fun A hA => by
  have h1 : (eqGuard .eql 39 x y (.agg (encS a).toArray) (.agg (encS b).toArray)).run Tryz.prog w = .ok () w := run_eqGuard_agg w .eql 39 x y _ _ (by kernel_rfl)
  have h2 := eql_S a b w
  simp [execOp, hA.ev hx, hA.ev hy, h1, h2]⟩

set_option maxRecDepth 20000 in
theorem total_c (n : Int) (w : World) : Calls Tryz.prog 57 #[.int .i64 n] w fun e w' => e = .returned (.bool (decide (NumS n))) ∧ w = w' := by
  refine fn_enter 9 Tryz.func57 rfl rfl rfl ?_
  repeat' (first | (refine lw_pure rfl (pv_move rfl) ?_) | (refine lw_pure rfl (pv_assign rfl) ?_) | (refine is_cw ?_; first | (refine cw_seq ?_) | (refine cw_region ?_) | (refine cw_ret ?_)) | (refine is_qw ?_; first | (with_reducible refine qw_then ?_)) | (refine lw_nil ?_) | (refine is_guarded ?_; first | (refine lw_on rfl rfl (by first | assumption | exact decide_eq_true (by omega) | exact decide_eq_false (by omega) | exact dec_notT (by omega) | exact dec_notF (by omega)) ?_) | (refine lw_not rfl rfl rfl (by first | assumption | exact decide_eq_true (by omega) | exact decide_eq_false (by omega) | exact dec_notT (by omega) | exact dec_notF (by omega)) ?_) | (refine lw_gs_t rfl rfl rfl (fun hc => ?_) (fun hc => ?_) <;> (first | replace hc := of_decide_eq_true hc | replace hc := of_decide_eq_false hc | replace hc := dec_nT hc | replace hc := dec_nF hc | skip) <;> (try (exfalso; omega)))) | ((refine is_bin ?_; first | (refine lw_pure rfl (pv_leq rfl rfl) ?_) | (refine lw_pure rfl (pv_geq rfl rfl) ?_))) | (refine lw_pure rfl (pv_pick_t rfl (by first | assumption | exact decide_eq_true (by omega) | exact dec_notT (by omega)) rfl) ?_) | (refine lw_pure rfl (pv_pick_f rfl (by first | assumption | exact decide_eq_false (by omega) | exact dec_notF (by omega)) rfl) ?_))
  all_goals (refine qw_ret1 rfl rfl ⟨ret_bool ?_, rfl⟩; first | (rw [decide_eq_decide]; unfold NumS farS; omega) | (symm; rw [decide_eq_true_eq]; unfold NumS farS; omega) | (symm; rw [decide_eq_false_iff_not]; unfold NumS farS; omega))
theorem rowS_or (x y : Pos) : orI (cmpI x.acct y.acct) (cmpI x.inst y.inst) = rowS x y := rfl
set_option maxRecDepth 20000 in
theorem comp_d (x y : Pos) (w : World) : Calls Tryz.prog 58 #[.agg (encS x).toArray, .agg (encS y).toArray] w fun e w' => e = .returned (.int .i64 (rowS x y)) ∧ BelowD w w' := by
  have hE := BelowD.refl w
  refine fn_enter 17 Tryz.func58 rfl rfl rfl ?_
  refine cw_seq (cw_region ?_)
  refine lw_boxD rfl rfl (cs := encS x) rfl ?_; intro N1 wn hN1 HA hb
  replace hE := hE.trans hb
  refine lw_boxD rfl rfl (cs := encS y) rfl ?_; intro N2 wm hN2 HB hb2
  replace HA := HA.mono hb2.b
  replace hE := hE.trans hb2
  have hd := BelowD.refl wm
  have hw := hd.b
  repeat' (first | (refine lw_pure rfl (pv_assign rfl) ?_) | (refine is_cw ?_; first | (refine cw_seq ?_)) | (refine is_qw ?_; first | (with_reducible refine qw_then ?_)) | (refine lw_nil ?_))
  refine cw_drawn (fun w' => BelowD wm w') (by kernel_rfl) (by repeat (first | exact NoPanic.body | with_reducible refine NoPanic.then ?_ | with_reducible refine NoPanic.inBlock ?_)) (fun hNP => ?_)
  have hS := hd.drew
  (refine aw_take 0 rfl (by kernel_rfl) (by kernel_rfl) (by kernel_rfl) hNP hS rfl (fun w' hq => pv_fa (tF rfl) rfl) ?_)
  (refine aw_take 1 rfl (by kernel_rfl) (by kernel_rfl) (by kernel_rfl) hNP hS rfl (fun w' hq => pv_load (t1 rfl) rfl (by first | exact PT.ld0 (HA.mono hq.b) rfl | exact PT.ld (HA.mono hq.b) rfl | exact PT.ld0 (HB.mono hq.b) rfl | exact PT.ld (HB.mono hq.b) rfl)) ?_)
  (refine aw_take 2 rfl (by kernel_rfl) (by kernel_rfl) (by kernel_rfl) hNP hS rfl (fun w' hq => pv_fa (tF rfl) rfl) ?_)
  (refine aw_take 3 rfl (by kernel_rfl) (by kernel_rfl) (by kernel_rfl) hNP hS rfl (fun w' hq => pv_load (t1 rfl) rfl (by first | exact PT.ld0 (HA.mono hq.b) rfl | exact PT.ld (HA.mono hq.b) rfl | exact PT.ld0 (HB.mono hq.b) rfl | exact PT.ld (HB.mono hq.b) rfl)) ?_)
  (refine aw_take 5 rfl (by kernel_rfl) (by kernel_rfl) (by kernel_rfl) hNP hS rfl (fun w' hq => pv_fa (tF rfl) rfl) ?_)
  (refine aw_take 6 rfl (by kernel_rfl) (by kernel_rfl) (by kernel_rfl) hNP hS rfl (fun w' hq => pv_load (t1 rfl) rfl (by first | exact PT.ld0 (HA.mono hq.b) rfl | exact PT.ld (HA.mono hq.b) rfl | exact PT.ld0 (HB.mono hq.b) rfl | exact PT.ld (HB.mono hq.b) rfl)) ?_)
  (refine aw_take 7 rfl (by kernel_rfl) (by kernel_rfl) (by kernel_rfl) hNP hS rfl (fun w' hq => pv_fa (tF rfl) rfl) ?_)
  (refine aw_take 8 rfl (by kernel_rfl) (by kernel_rfl) (by kernel_rfl) hNP hS rfl (fun w' hq => pv_load (t1 rfl) rfl (by first | exact PT.ld0 (HA.mono hq.b) rfl | exact PT.ld (HA.mono hq.b) rfl | exact PT.ld0 (HB.mono hq.b) rfl | exact PT.ld (HB.mono hq.b) rfl)) ?_)
  refine aw_act 4 (by kernel_rfl) rfl rfl rfl ?_
  refine act_call (f := 92) (by kernel_rfl) rfl (cmp_c _ _ _) ?_; rintro e w1 ⟨rfl, rfl⟩; refine ⟨_, rfl, hS, fun hS => ?_⟩
  refine aw_act 9 (by kernel_rfl) rfl rfl rfl ?_
  refine act_call (f := 92) (by kernel_rfl) rfl (cmp_c _ _ _) ?_; rintro e w1 ⟨rfl, rfl⟩; refine ⟨_, rfl, hS, fun hS => ?_⟩
  refine aw_act 10 (by kernel_rfl) rfl rfl rfl ?_
  refine act_bsD (vs := [.int .i64 (cmpI x.acct y.acct), .int .i64 (cmpI x.inst y.inst)]) (cs := [.int .i64 (cmpI x.acct y.acct), .int .i64 (cmpI x.inst y.inst)]) elemN rfl rfl (by omega) (by omega) rfl (by simp [Value.cells]) rfl ?_; intro wb HC hb; refine ⟨hS.trans hb, fun hS => ?_⟩
  refine aw_act 11 (by kernel_rfl) rfl rfl rfl ?_
  refine act_call (f := 91) (by kernel_rfl) rfl (or_c _ _ _ _ HC) ?_; rintro e w1 ⟨rfl, rfl⟩; refine ⟨_, rfl, hS, fun hS => ?_⟩
  (refine aw_take 12 rfl (by kernel_rfl) (by kernel_rfl) (by kernel_rfl) hNP hS rfl (fun w' hq => pv_assign rfl) ?_)
  refine aw_done (by kernel_rfl) ?_
  replace hd := hS; have hw := hd.b; clear hS hNP
  repeat' (first | (refine is_cw ?_; first | (refine cw_ret ?_)) | (refine is_qw ?_; first | (with_reducible refine qw_then ?_)))
  exact qw_ret1 rfl rfl ⟨rfl, hE.trans hd⟩
theorem comp_c (x y : Pos) (w : World) : Calls Tryz.prog 58 #[.agg (encS x).toArray, .agg (encS y).toArray] w fun e w' => e = .returned (.int .i64 (rowS x y)) ∧ Below w.heap.size w w' := (comp_d x y w).mono fun _ _ h => ⟨h.1, h.2.b⟩
theorem comp_e {x y : Pos} {r : Int} (h : rowS x y = r) (w : World) : Calls Tryz.prog 58 #[.agg (encS x).toArray, .agg (encS y).toArray] w fun e w' => e = .returned (.int .i64 r) ∧ Below w.heap.size w w' := by subst h; exact comp_c x y w
set_option maxRecDepth 20000 in
theorem equal_S {p q : List Pos} {m n : Nat} {a b : Option Addr} {ca cb : Nat} {w : World} (hm : p.length = m) (hn : q.length = n) (HP : SlR encS 6 w a ca p) (HQ : SlR encS 6 w b cb q) : Calls Tryz.prog 59 #[.slice a m ca, .slice b n cb] w fun e w' => e = .returned (.bool (decide (p = q))) ∧ Below w.heap.size w w' := by
  subst hm hn
  have hw := Below.refl w.heap.size w
  have hca := HP.le
  have hcm := HP.max
  refine fn_enter 26 Tryz.func59 rfl rfl rfl ?_
  by_cases hl : p.length = q.length
  · repeat' ((fail_if_success (refine is_seqb ?_)); (fail_if_success (refine is_blk ?_)); first | (refine lw_pure rfl (pv_move rfl) ?_) | (refine lw_pure rfl (pv_assign rfl) ?_) | (refine is_cw ?_; first | (refine cw_seq ?_) | (refine cw_region ?_) | (refine cw_false rfl (by first | assumption | exact decide_eq_false (by omega) | exact dec_notF (by omega)) ?_) | (refine cw_skip ?_)) | (refine is_qw ?_; first | (with_reducible refine qw_then ?_)) | (refine lw_nil ?_) | ((refine is_bin ?_; first | (refine lw_pure rfl (pv_neq rfl rfl) ?_))) | ((refine is_bi ?_; first | (refine lw_pure rfl (pv_lenl (tS rfl) rfl) ?_))))
    repeat' (first | (refine is_cw ?_; first | (refine cw_block ?_)))
    refine cw_loop (σ := Nat) (fun k => [(0, .slice a p.length ca), (1, .slice b q.length cb), (12, .int .i64 (p.length : Nat)), (13, .int .i64 (k : Nat))]) (fun k wr => k ≤ p.length ∧ Below w.heap.size w wr ∧ ∀ j, j < k → p[j]? = q[j]?) (fun k => p.length - k) 0 (by repeat' (first | exact trivial | refine ⟨rfl, ?_⟩)) ⟨Nat.zero_le _, hw, by omega⟩ ?_
    clear hw
    rintro k wr ⟨hk, hw, hn⟩
    by_cases hlt : k < p.length
    · have hxk : p[k]? = some p[k] := List.getElem?_eq_getElem hlt
      have hyk : q[k]? = some (q[k]'(by omega)) := List.getElem?_eq_getElem _
      obtain ⟨ab, ao, rfl, -, -⟩ := HP.at (by intro h; rw [h] at hlt; simp at hlt)
      obtain ⟨bb, bo, rfl, -, -⟩ := HQ.at (by intro h; rw [h] at hl; rw [hl] at hlt; simp at hlt)
      generalize p[k] = x at hxk
      generalize q[k] = y at hyk
      repeat' (first | (refine lw_pure rfl (pv_move rfl) ?_) | (refine lw_pure rfl (pv_assign rfl) ?_) | (refine is_cw ?_; first | (refine cw_seq ?_) | (refine cw_region ?_) | (refine cw_true rfl (by first | assumption | exact decide_eq_true (by omega) | exact dec_notT (by omega)) ?_) | (refine cw_skip ?_) | (refine cw_block ?_)) | (refine is_qw ?_; first | (with_reducible refine qw_then ?_)) | (refine lw_nil ?_) | ((refine is_bin ?_; first | (refine lw_pure rfl (pv_lss rfl rfl) ?_))))
      refine cw_drawn (fun w' => Below w.heap.size w w') (by kernel_rfl) (by repeat (first | exact NoPanic.body | with_reducible refine NoPanic.then ?_ | with_reducible refine NoPanic.inBlock ?_)) (fun hNP => ?_)
      have hS := hw.drew
      (refine aw_take 0 rfl (by kernel_rfl) (by kernel_rfl) (by kernel_rfl) hNP hS rfl (fun w' hq => pv_move rfl) ?_)
      (refine aw_take 1 rfl (by kernel_rfl) (by kernel_rfl) (by kernel_rfl) hNP hS rfl (fun w' hq => pv_move rfl) ?_)
      (refine aw_take 2 rfl (by kernel_rfl) (by kernel_rfl) (by kernel_rfl) hNP hS rfl (fun w' hq => pv_ian (tS rfl) rfl rfl (by omega)) ?_)
      (refine aw_take 3 rfl (by kernel_rfl) (by kernel_rfl) (by kernel_rfl) hNP hS rfl (fun w' hq => pv_loada (tA rfl) rfl (by first | exact SlR.lda (HP.mono hq) hxk | exact SlR.lda (HQ.mono hq) hyk) (by rfl)) ?_)
      (refine aw_take 4 rfl (by kernel_rfl) (by kernel_rfl) (by kernel_rfl) hNP hS rfl (fun w' hq => pv_move rfl) ?_)
      (refine aw_take 5 rfl (by kernel_rfl) (by kernel_rfl) (by kernel_rfl) hNP hS rfl (fun w' hq => pv_move rfl) ?_)
      (refine aw_take 6 rfl (by kernel_rfl) (by kernel_rfl) (by kernel_rfl) hNP hS rfl (fun w' hq => pv_ian (tS rfl) rfl rfl (by omega)) ?_)
      (refine aw_take 7 rfl (by kernel_rfl) (by kernel_rfl) (by kernel_rfl) hNP hS rfl (fun w' hq => pv_loada (tA rfl) rfl (by first | exact SlR.lda (HP.mono hq) hxk | exact SlR.lda (HQ.mono hq) hyk) (by rfl)) ?_)
      (refine aw_take 8 rfl (by kernel_rfl) (by kernel_rfl) (by kernel_rfl) hNP hS rfl (fun w' hq => pv_neqS _ _ rfl rfl) ?_)
      refine aw_done (by kernel_rfl) ?_
      replace hw := hS; clear hS hNP
      by_cases hxy : x = y
      · repeat' (first | (refine lw_pure rfl (pv_move rfl) ?_) | (refine is_cw ?_; first | (refine cw_region ?_) | (refine cw_false rfl (by first | assumption | exact decide_eq_false (by omega) | exact dec_notF (by omega)) ?_) | (refine cw_skip ?_)) | (refine is_qw ?_; first | (with_reducible refine qw_then ?_) | (with_reducible refine qw_in ?_)) | (refine lw_nil ?_) | ((refine is_bin ?_; first | (refine lw_pure rfl (pv_inc rfl rfl (by omega)) ?_))))
        refine qw_round (k + 1) (by repeat' (first | exact trivial | refine ⟨rfl, ?_⟩)) ⟨by omega, hw, ?_⟩ (by omega)
        intro j hj
        by_cases hjk : j = k
        · subst hjk; rw [hxk, hyk, hxy]
        · exact hn j (by omega)
      · repeat' (first | (refine lw_pure rfl (pv_assign rfl) ?_) | (refine is_cw ?_; first | (refine cw_seq ?_) | (refine cw_region ?_) | (refine cw_true rfl (by first | assumption | exact decide_eq_true (by omega) | exact dec_notT (by omega)) ?_) | (refine cw_ret ?_)) | (refine is_qw ?_; first | (with_reducible refine qw_then ?_) | (with_reducible refine qw_then_ret ?_) | (with_reducible refine qw_in_ret ?_)) | (refine lw_nil ?_))
        refine qw_ret1 rfl rfl ⟨ret_bool ?_, hw⟩
        symm; rw [decide_eq_false_iff_not]; rintro rfl
        rw [hxk] at hyk; injection hyk with hyk; exact hxy hyk
    · have hkl : k = p.length := by omega
      subst hkl
      have he : p = q := List.ext_getElem? fun j => by
        by_cases hj : j < p.length
        · exact hn j hj
        · rw [List.getElem?_eq_none (by omega), List.getElem?_eq_none (by omega)]
      repeat' (first | (refine lw_pure rfl (pv_assign rfl) ?_) | (refine is_cw ?_; first | (refine cw_seq ?_) | (refine cw_region ?_) | (refine cw_false rfl (by first | assumption | exact decide_eq_false (by omega) | exact dec_notF (by omega)) ?_) | (refine cw_exit ?_) | (refine cw_ret ?_)) | (refine is_qw ?_; first | (with_reducible refine qw_then ?_) | (with_reducible refine qw_in_hit ?_) | (with_reducible refine qw_then_exit ?_)) | (refine lw_nil ?_) | ((refine is_bin ?_; first | (refine lw_pure rfl (pv_lss rfl rfl) ?_))))
      exact qw_ret1 rfl rfl ⟨ret_bool (by simp [he]), hw⟩
  · repeat' (first | (refine lw_pure rfl (pv_move rfl) ?_) | (refine lw_pure rfl (pv_assign rfl) ?_) | (refine is_cw ?_; first | (refine cw_seq ?_) | (refine cw_region ?_) | (refine cw_true rfl (by first | assumption | exact decide_eq_true (by omega) | exact dec_notT (by omega)) ?_) | (refine cw_ret ?_)) | (refine is_qw ?_; first | (with_reducible refine qw_then ?_) | (with_reducible refine qw_then_ret ?_)) | (refine lw_nil ?_) | ((refine is_bin ?_; first | (refine lw_pure rfl (pv_neq rfl rfl) ?_))) | ((refine is_bi ?_; first | (refine lw_pure rfl (pv_lenl (tS rfl) rfl) ?_))))
    exact qw_ret1 rfl rfl ⟨ret_bool (by symm; rw [decide_eq_false_iff_not]; rintro rfl; exact hl rfl), hw⟩
set_option maxRecDepth 20000 in
theorem same_S {p q : List Pos} {m n : Nat} {a b : Option Addr} {ca cb : Nat} {w : World} (hm : p.length = m) (hn : q.length = n) (HP : SlR encS 6 w a ca p) (HQ : SlR encS 6 w b cb q) : Calls Tryz.prog 38 #[.slice a m ca, .slice b n cb] w fun e w' => e = .returned (.bool (decide (p = q))) ∧ Below w.heap.size w w' := by
  have hw := Below.refl w.heap.size w
  refine fn_enter 8 Tryz.func38 rfl rfl rfl ?_
  repeat' (first | (refine lw_pure rfl (pv_move rfl) ?_) | (refine lw_pure rfl (pv_assign rfl) ?_) | (refine lw_call (f := 59) (by kernel_rfl) rfl rfl (equal_S hm hn (HP.mono hw) (HQ.mono hw)) ?_; rintro e w1 ⟨rfl, hb⟩; refine ⟨_, rfl, ?_⟩; replace hw := grow_trans hw hb; clear hb) | (refine is_cw ?_; first | (refine cw_seq ?_) | (refine cw_region ?_) | (refine cw_ret ?_)) | (refine is_qw ?_; first | (with_reducible refine qw_then ?_)) | (refine lw_nil ?_))
  exact qw_ret1 rfl rfl ⟨rfl, hw⟩
theorem same_t {p : List Pos} {m n : Nat} {a b : Option Addr} {ca cb : Nat} {w : World} (hm : p.length = m) (hn : p.length = n) (HP : SlR encS 6 w a ca p) (HQ : SlR encS 6 w b cb p) : Calls Tryz.prog 38 #[.slice a m ca, .slice b n cb] w fun e w' => e = .returned (.bool true) ∧ Below w.heap.size w w' := (same_S hm hn HP HQ).mono fun _ _ h => ⟨by rw [h.1]; simp, h.2⟩
set_option maxRecDepth 20000 in
theorem getF_c (o : Pos) (a i : Int) (N M : Nat) (w : World) (h : PT w N 3 [.int .i64 a]) (h2 : PT w M 3 [.int .i64 i]) : Calls Tryz.prog 49 #[.agg (encS o).toArray, .pointer (some ⟨N, 0, none⟩), .pointer (some ⟨M, 0, none⟩)] w fun e w' => e = .returned (.bool (hasS a i o)) ∧ Below w.heap.size w w' := by
  have hE := Ext.refl w
  have hw := Below.refl w.heap.size w
  refine fn_enter 15 Tryz.func49 rfl rfl rfl ?_
  repeat' (first | (refine is_cw ?_; first | (refine cw_seq ?_) | (refine cw_region ?_)))
  refine lw_boxN rfl rfl (cs := encS o) rfl ?_; intro N1 wn hN HA hb
  replace hw := grow_trans hw hb
  clear hb
  replace hE := hE.mono hw; replace h := h.mono hw; replace h2 := h2.mono hw; clear hw; have hw := Below.refl wn.heap.size wn
  repeat' (first | (refine lw_pure rfl (pv_move rfl) ?_) | (refine lw_pure rfl (pv_assign rfl) ?_) | (refine is_cw ?_; first | (refine cw_seq ?_) | (refine cw_region ?_) | (refine cw_ret ?_)) | (refine is_qw ?_; first | (with_reducible refine qw_then ?_)) | (refine lw_nil ?_) | (refine is_guarded ?_; first | (refine lw_on rfl rfl (by first | assumption | exact decide_eq_true (by omega) | exact decide_eq_false (by omega) | exact dec_notT (by omega) | exact dec_notF (by omega)) ?_) | (refine lw_not rfl rfl rfl (by first | assumption | exact decide_eq_true (by omega) | exact decide_eq_false (by omega) | exact dec_notT (by omega) | exact dec_notF (by omega)) ?_) | (refine lw_gs_t rfl rfl rfl (fun hc => ?_) (fun hc => ?_) <;> (first | replace hc := of_decide_eq_true hc | replace hc := of_decide_eq_false hc | replace hc := dec_nT hc | replace hc := dec_nF hc | skip) <;> (try (exfalso; omega)))) | ((refine is_bin ?_; first | (refine lw_pure rfl (pv_eql rfl rfl) ?_))) | ((refine is_load ?_; first | (refine lw_pure rfl (pv_load (t1 rfl) rfl (by first | exact PT.ld0 (HA.mono hw) rfl | exact PT.ld (HA.mono hw) rfl | exact PT.ld0 (h.mono hw) rfl | exact PT.ld (h.mono hw) rfl | exact PT.ld0 (h2.mono hw) rfl | exact PT.ld (h2.mono hw) rfl)) ?_))) | ((refine is_fa ?_; first | (refine lw_pure rfl (pv_fa (tF rfl) rfl) ?_))) | (refine lw_pure rfl (pv_pick_t rfl (by first | assumption | exact decide_eq_true (by omega) | exact dec_notT (by omega)) rfl) ?_) | (refine lw_pure rfl (pv_pick_f rfl (by first | assumption | exact decide_eq_false (by omega) | exact dec_notF (by omega)) rfl) ?_))
  all_goals (refine qw_ret1 rfl rfl ⟨ret_bool ?_, (hE.mono hw).b⟩; unfold hasS; first | (rw [decide_eq_decide]; omega) | (symm; rw [decide_eq_true_eq]; omega) | (symm; rw [decide_eq_false_iff_not]; omega))
set_option maxRecDepth 20000 in
theorem get_c {l : List Pos} {m : Nat} {a : Option Addr} {ca : Nat} {w : World} (ac i : Int) (hm : l.length = m) (HP : SlR encS 6 w a ca l) : Calls Tryz.prog 18 #[.slice a m ca, .int .i64 ac, .int .i64 i] w fun e w' => e = .returned (.agg (encS (getS l ac i)).toArray) ∧ Below w.heap.size w w' := by
  subst hm
  have hE := Ext.refl w
  have hw := Below.refl w.heap.size w
  have hca := HP.le
  have hcm := HP.max
  refine fn_enter 20 Tryz.func18 rfl rfl rfl ?_
  repeat' (first | (refine is_cw ?_; first | (refine cw_seq ?_) | (refine cw_region ?_)))
  refine lw_boxN rfl rfl (cs := [.int .i64 ac]) rfl ?_; intro N1 w1 hN1 HA hb
  replace hw := grow_trans hw hb
  clear hb
  refine lw_boxN rfl rfl (cs := [.int .i64 i]) rfl ?_; intro N2 w2 hN2 HB hb
  replace HA := HA.mono hb
  replace hw := grow_trans hw hb
  clear hb
  refine lw_allocN rfl (by first | exact tyv_27 | exact tyv_28 | exact tyv_38 | exact tyv_39 | exact tyv_48 | exact tyv_49 | exact tyv_52 | exact tyv_53 | exact tyv_68 | exact tyv_69 | exact tyv_79 | exact tyv_80 | exact tyv_94 | exact tyv_95 | exact tyv_131 | exact tyv_132) rfl ?_; intro N3 w3 hN3 H hb
  replace hN3 : w.heap.size ≤ N3 := Nat.le_trans hw.size hN3
  replace HA := HA.mono hb
  replace HB := HB.mono hb
  replace hw := grow_trans hw hb
  clear hb
  replace hE := hE.mono hw; replace HP := HP.mono hw; clear hw; have hw := Below.refl w3.heap.size w3
  repeat' (first | (refine lw_pure rfl (pv_move rfl) ?_) | (refine is_cw ?_; first | (refine cw_seq ?_) | (refine cw_region ?_)) | (refine is_qw ?_; first | (with_reducible refine qw_then ?_)) | (refine lw_nil ?_) | (refine lw_pure rfl (pv_makeFunc rfl rfl) ?_))
  refine lw_call (f := 48) (by kernel_rfl) rfl rfl (indexf_S w3.heap.size (hasS ac i) 49 #[.pointer (some ⟨N1, 0, none⟩), .pointer (some ⟨N2, 0, none⟩)] (by kernel_rfl) (Nat.le_refl _) (fun x _ w' hb => by simpa using getF_c x ac i N1 N2 w' (HA.mono hb) (HB.mono hb)) rfl HP) ?_; rintro e w4 ⟨⟨j, rfl, hi⟩, hb⟩; refine ⟨_, rfl, ?_⟩
  replace hE := hE.mono hb
  replace HP := HP.mono hb
  replace HA := HA.mono hb
  replace HB := HB.mono hb
  replace H := H.mono hb
  clear hb hw
  have hw := Below.refl w4.heap.size w4
  rcases hi with ⟨rfl, hn⟩ | ⟨k, r, rfl, hxk, hr, hn⟩
  · have hf : getS l ac i = zS ac i := by unfold getS findS; rw [find_none hn]; rfl
    rw [hf]
    repeat' (first | (refine lw_pure rfl (pv_move rfl) ?_) | (refine lw_pure rfl (pv_assign rfl) ?_) | (refine is_cw ?_; first | (refine cw_seq ?_) | (refine cw_region ?_) | (refine cw_true rfl rfl ?_)) | (refine is_qw ?_; first | (with_reducible refine qw_then ?_)) | (refine lw_nil ?_) | ((refine is_bin ?_; first | (refine lw_pure rfl (pv_lss rfl rfl) ?_))) | ((refine is_load ?_; first | (refine lw_pure rfl (pv_load (t1 rfl) rfl (by first | exact PT.ld0 (HA.mono hw) rfl | exact PT.ld (HA.mono hw) rfl | exact PT.ld0 (HB.mono hw) rfl | exact PT.ld (HB.mono hw) rfl)) ?_))) | ((refine is_bd ?_; first | (refine lw_pure rfl (tyB_39 rfl rfl rfl) ?_))))
    refine lw_storea (vs := encS (zS ac i)) H (tZ rfl) rfl rfl rfl rfl (encS_one _) ?_; intro w5 H2 hg hz
    replace hE := hE.grown hg (by intro q hq; injection hq with hq; omega)
    have hw := Below.refl w5.heap.size w5
    repeat' (first | (refine is_cw ?_; first | (refine cw_ret ?_)) | (refine is_qw ?_; first | (with_reducible refine qw_then ?_) | (with_reducible refine qw_then_ret ?_)) | (refine lw_nil ?_))
    exact qw_retc rfl rfl (agg_ld (tA rfl) rfl (fun i u hu => H2.ld0 hu)) ⟨rfl, hE.b⟩
  · have hf : getS l ac i = r := by unfold getS findS; rw [find_at hxk hr hn]; rfl
    have hlt : k < l.length := (List.getElem?_eq_some_iff.1 hxk).1
    obtain ⟨ab, ao, rfl, -, -⟩ := HP.at (by intro h; rw [h] at hlt; simp at hlt)
    rw [hf]
    repeat' (first | (refine lw_pure rfl (pv_move rfl) ?_) | (refine lw_pure rfl (pv_assign rfl) ?_) | (refine is_cw ?_; first | (refine cw_seq ?_) | (refine cw_region ?_) | (refine cw_false rfl rfl ?_) | (refine cw_skip ?_)) | (refine is_qw ?_; first | (with_reducible refine qw_then ?_)) | (refine lw_nil ?_) | ((refine is_bin ?_; first | (refine lw_pure rfl (pv_lss rfl rfl) ?_))) | ((refine is_load ?_; first | (refine lw_pure rfl (pv_loada (tA rfl) rfl (by first | exact SlR.lda (HP.mono hw) hxk) (by rfl)) ?_))) | ((refine is_ia ?_; first | (refine lw_pure rfl (pv_ian (tS rfl) rfl rfl (by omega)) ?_))))
    refine lw_storea (vs := encS r) (H.mono hw) (tZ rfl) rfl rfl rfl rfl (encS_one _) ?_; intro w5 H2 hg hz
    replace hE := (hE.mono hw).grown hg (by intro q hq; injection hq with hq; omega)
    clear hw
    have hw := Below.refl w5.heap.size w5
    repeat' (first | (refine is_cw ?_; first | (refine cw_ret ?_)) | (refine is_qw ?_; first | (with_reducible refine qw_then ?_)) | (refine lw_nil ?_))
    exact qw_retc rfl rfl (agg_ld (tA rfl) rfl (fun i u hu => H2.ld0 hu)) ⟨rfl, hE.b⟩
theorem total_e {n : Int} {b : Bool} (h : decide (NumS n) = b) (w : World) : Calls Tryz.prog 57 #[.int .i64 n] w fun e w' => e = .returned (.bool b) ∧ w = w' := by subst h; exact total_c n w
end Go.Proofs.YtemngicaoacfaaaGreatDoor
