/-
  Contract of layer 22's Event. Conditions: the slices read as lists; the table of kinds lies in memory (KnW).
-/
import Derived.Test.YtkehmbgcglbffaaDoorOj
namespace Go.Proofs.YtkehmbgcglbffaaDoor
open Go.RowKit Go.PlainAid Go.ChangeShapes Go.WideShapes Go.Maps

theorem err_empty (p : List Opn) (t : List Lt) (e : Evt) : (doneR p t e).2.2 = 0 ∨ ((doneR p t e).1 = [] ∧ (doneR p t e).2.1 = []) := by
  unfold doneR placedR cancelR tradedR openedR goneR
  (repeat' split) <;> first | exact Or.inl rfl | exact Or.inr ⟨rfl, rfl⟩
theorem event_no {p : List Opn} {t : List Lt} {e : Evt} (h : ¬ (mayV p t = true ∧ e.v = 3 ∧ mayE e = true)) : eventR p t e = ([], [], 4) := by unfold eventR; rw [if_neg h]
theorem event_yes {p : List Opn} {t : List Lt} {e : Evt} (h : mayV p t = true ∧ e.v = 3 ∧ mayE e = true) : eventR p t e = doneR p t e := by unfold eventR; rw [if_pos h]
theorem mayV_e {p : List Opn} {t : List Lt} {m n : Nat} {a b : Option Addr} {ca cb : Nat} {r : Bool} {w : World} (h : mayV p t = r) (hm : p.length = m) (hn : t.length = n) (HP : SlR encP 6 w a ca p) (HL : SlR encL 4 w b cb t) : Calls Tryd.prog 11 #[.slice a m ca, .slice b n cb] w fun e w' => e = .returned (.bool r) ∧ Below w.heap.size w w' := by
  subst h; exact mayV_c hm hn HP HL
theorem mayE_e {e : Evt} {m n : Nat} {a b : Option Addr} {ca cb : Nat} {r : Bool} {w : World} (h : mayE e = r) (h8 : 0 ≤ e.kind ∧ e.kind ≤ 255) (hm : e.nums.length = m) (hn : e.texts.length = n) (HN : SlR encI 1 w a ca e.nums) (HT : SlR encT 1 w b cb e.texts) (hT : TxtIn e.texts) (hK : KnW w) : Calls Tryd.prog 13 #[.agg #[.int .u8 e.v, .int .u8 e.kind, .slice a m ca, .slice b n cb]] w fun e1 w' => e1 = .returned (.bool r) ∧ Below w.heap.size w w' := by
  subst h; exact mayE_c h8 hm hn HN HT hT hK
def keyOf8 (k : Int) (h : 0 ≤ k ∧ k ≤ 255) : Fin 256 := ⟨k.toNat, by omega⟩
theorem kU_of (k : Int) (h : 0 ≤ k ∧ k ≤ 255) : kU (keyOf8 k h) = .int .u8 k := by unfold kU keyOf8; congr 1; simp; omega
set_option maxRecDepth 20000 in
theorem does_at : (List.range 256).all (fun k => decide ((getM doesM (Fin.ofNat 256 k)) = (methR (k : Nat)).map some)) = true := by kernel_rfl
theorem does_get (k : Int) (h : 0 ≤ k ∧ k ≤ 255) : getM doesM (keyOf8 k h) = (methR k).map some := by
  have h1 := List.all_eq_true.1 does_at k.toNat (List.mem_range.2 (by omega))
  have h2 := of_decide_eq_true h1
  rw [show ((k.toNat : Nat) : Int) = k by omega] at h2
  rw [← h2]
  congr 1
  apply Fin.ext
  show k.toNat = k.toNat % 256
  omega
set_option maxRecDepth 20000 in
theorem meth_enters {k : Int} {F : Nat} (h : methR k = some F) : entersB Tryd.prog F = true := by
  unfold methR at h
  (repeat' split at h) <;> first | (injection h with h; subst h; kernel_rfl) | (cases h; done)
theorem done_none {p : List Opn} {t : List Lt} {e : Evt} (h : methR e.kind = none) : doneR p t e = (p, t, 0) := by
  unfold methR at h
  unfold doneR
  by_cases k1 : e.kind = 11
  · rw [if_pos k1] at h; cases h
  rw [if_neg k1] at h ⊢
  by_cases k2 : e.kind = 12
  · rw [if_pos k2] at h; cases h
  rw [if_neg k2] at h ⊢
  by_cases k3 : e.kind = 13
  · rw [if_pos k3] at h; cases h
  rw [if_neg k3] at h ⊢
  by_cases k4 : e.kind = 14 ∨ e.kind = 16
  · rw [if_pos k4] at h; cases h
  rw [if_neg k4] at h ⊢
  by_cases k5 : e.kind = 18 ∨ e.kind = 19
  · rw [if_pos k5] at h; cases h
  rw [if_neg k5]
theorem look_e {P : Program} {n : Nat} {l : Fr} {w : World} {d : Option Nat} {ty : TypeId} {pos : String} {af : Array Edge} {g : Option (Nat × Bool)} {T K V : TypeId} {x y : Operand} {B : Nat} {κ ν : Type} [DecidableEq κ] {eK : κ → Value} {eV : ν → Value} (ht : P.underlying T = some (.map K V)) (E : KeyE P K eK) {zv : ν} (hz : ∀ w, (zeroValue V).run P w = .ok (eV zv) w) {m : List (κ × ν)} {k : κ} {o : Option ν} (ho : getM m k = o) (hx : ev l x = some (.map (some B))) (hy : ev l y = some (eK k)) (h : Mp eK eV w B m) :
    Pv P n l ⟨d, .lookup T x y true, ty, pos, af, g⟩ (.tuple #[eV (o.getD zv), .bool o.isSome]) w := by subst ho; exact pv_lookupM_ok ht E hz hx hy h
set_option maxRecDepth 20000 in
set_option maxHeartbeats 8000000 in
theorem ev_c {p : List Opn} {t : List Lt} {e : Evt} {mp mt mn mx : Nat} {ap at_ an ax : Option Addr} {cp ct cn cx : Nat} {w : World} (h8 : 0 ≤ e.kind ∧ e.kind ≤ 255) (hmp : p.length = mp) (hmt : t.length = mt) (hmn : e.nums.length = mn) (hmx : e.texts.length = mx) (HP : SlR encP 6 w ap cp p) (HL : SlR encL 4 w at_ ct t) (HN : SlR encI 1 w an cn e.nums) (HX : SlR encT 1 w ax cx e.texts) (hT : TxtIn e.texts) (hK : KnW w) :
    Calls Tryd.prog 8 #[.slice ap mp cp, .slice at_ mt ct, .agg #[.int .u8 e.v, .int .u8 e.kind, .slice an mn cn, .slice ax mx cx]] w fun e1 w' => (∃ vo vt, e1 = .returned (.tuple #[vo, vt, .int .i64 (eventR p t e).2.2]) ∧ Own encP 6 34 w.heap.size w' vo (eventR p t e).1 ∧ Own encL 4 36 w.heap.size w' vt (eventR p t e).2.1) ∧ Below w.heap.size w w' := by
  subst hmp hmt hmn hmx
  have hw := Below.refl w.heap.size w
  refine fn_enter 57 Tryd.func8 rfl rfl rfl ?_
  repeat' (first | (refine is_cw ?_; first | (refine cw_seq ?_) | (refine cw_region ?_)))
  refine lw_boxN rfl rfl (cs := [.int .u8 e.v, .int .u8 e.kind, .slice an e.nums.length cn, .slice ax e.texts.length cx]) rfl ?_; intro NE w1 hNE H hb
  replace hw := grow_trans hw hb
  clear hb
  have hE := Ext.mk hw
  replace HP := HP.mono hw
  replace HL := HL.mono hw
  have HN1 := HN.mono hw
  replace HX := HX.mono hw
  replace hK := hK.mono hw
  have hw0 := hw
  clear hw
  have hw := Below.refl w1.heap.size w1
  by_cases hgood : mayV p t = true ∧ e.v = 3 ∧ mayE e = true
  · rw [event_yes hgood]
    obtain ⟨hg1, hg2, hg3⟩ := hgood
    have hM := mayV_iff.1 hg1
    have hl1 := hM.1
    repeat' (first | (refine lw_pure rfl (pv_move rfl) ?_) | (refine lw_pure rfl (pv_assign rfl) ?_) | (refine lw_call (f := 11) (by kernel_rfl) rfl rfl (mayV_e hg1 rfl rfl HP HL) ?_; rintro e w1 ⟨rfl, hb⟩; refine ⟨_, rfl, ?_⟩; replace hw := grow_trans hw hb; clear hb) | (refine lw_call (f := 13) (by kernel_rfl) rfl rfl (mayE_e hg3 h8 rfl rfl (HN1.mono hw) (HX.mono hw) hT (hK.mono hw)) ?_; rintro e w1 ⟨rfl, hb⟩; refine ⟨_, rfl, ?_⟩; replace hw := grow_trans hw hb; clear hb) | (refine is_cw ?_; first | (refine cw_seq ?_) | (refine cw_region ?_) | (refine cw_false rfl rfl ?_) | (refine cw_skip ?_)) | (refine is_qw ?_; first | (with_reducible refine qw_then ?_)) | (refine lw_nil ?_) | (refine is_guarded ?_; first | (refine lw_on rfl rfl rfl ?_) | (refine lw_on rfl rfl (by first | assumption | exact decide_eq_true (by omega) | exact decide_eq_false (by omega) | exact dec_notT (by omega) | exact dec_notF (by omega)) ?_)) | ((refine is_bin ?_; first | (refine lw_pure rfl (pv_neq rfl rfl) ?_))) | ((refine is_load ?_; first | (refine lw_pure rfl (pv_load (t1 rfl) rfl (by first | exact PT.ld0 (H.mono hw) rfl | exact PT.ld (H.mono hw) rfl)) ?_) | (refine lw_pure rfl (pv_loada (tA rfl) rfl (by first | exact PT.lda (H.mono hw)) (by rfl)) ?_))) | ((refine is_fa ?_; first | (refine lw_pure rfl (pv_fa (tF rfl) rfl) ?_))) | ((refine is_un ?_; first | (refine lw_pure rfl (pv_not rfl) ?_))) | (refine lw_pure rfl (pv_pick_f rfl rfl rfl) ?_) | (refine lw_pure rfl (pv_pick_f rfl (by first | assumption | exact decide_eq_false (by omega) | exact dec_notF (by omega)) rfl) ?_))
    refine lw_call (f := 14) (by kernel_rfl) rfl rfl (clone_P rfl (HP.mono hw) (by omega)) ?_; rintro e1 w2 ⟨⟨vo, rfl, hO⟩, hb⟩; refine ⟨_, rfl, ?_⟩
    have hz1 := hw.size
    have hze := hE.le
    replace hw := grow_trans hw hb
    replace hO := hO.weaken (Nat.le_trans hze hz1)
    obtain ⟨oa, oc, rfl, -, -⟩ := Own.slR encP_len hO
    clear hb
    repeat' (first | (refine lw_pure rfl (pv_move rfl) ?_))
    refine lw_call (f := 15) (by kernel_rfl) rfl rfl (clone_L rfl (HL.mono hw) (by omega)) ?_; rintro e1 w3 ⟨⟨vt, rfl, hTt⟩, hb⟩; refine ⟨_, rfl, ?_⟩
    have hz2 := hw.size
    replace hw := grow_trans hw hb
    replace hO := hO.mono hb
    replace hTt := hTt.weaken (Nat.le_trans hze hz2)
    obtain ⟨ta, tc, rfl, -, -⟩ := Own.slR encL_len hTt
    clear hb
    repeat' (first | ((refine is_bd ?_; first | (refine lw_pure rfl (tyB_51 rfl rfl rfl) ?_))))
    refine lw_boxN rfl rfl (cs := [.slice oa p.length oc, .slice ta t.length tc]) rfl ?_; intro NW w4 hNW HW hb
    have hz3 := hw.size
    replace hw := grow_trans hw hb
    replace hO := hO.mono hb
    replace hTt := hTt.mono hb
    clear hb
    have hb0 := grow_trans hw0 hw
    have hWk : WkO w.heap.size w4 NW p t (.slice oa p.length oc) (.slice ta t.length tc) := ⟨HW, hO, hTt, by omega⟩
    replace H := H.mono hw
    clear hw
    have hw := Below.refl w4.heap.size w4
    repeat' (first | (refine lw_pure rfl (pv_assign rfl) ?_) | (refine is_cw ?_; first | (refine cw_seq ?_)) | (refine is_qw ?_; first | (with_reducible refine qw_then ?_)) | (refine lw_nil ?_))
    cases hmr : methR e.kind with
    | none =>
      have hget : getM doesM (keyOf8 e.kind h8) = none := by rw [does_get, hmr]; rfl
      rw [done_none hmr]
      refine cw_drawn (fun w' => Below w4.heap.size w4 w') (by kernel_rfl) (by repeat (first | exact NoPanic.body | with_reducible refine NoPanic.then ?_ | with_reducible refine NoPanic.inBlock ?_)) (fun hNP => ?_)
      have hS := hw.drew
      (refine aw_take 1 rfl (by kernel_rfl) (by kernel_rfl) (by kernel_rfl) hNP hS rfl (fun w' hq => pv_fa (tF rfl) rfl) ?_)
      (refine aw_take 2 rfl (by kernel_rfl) (by kernel_rfl) (by kernel_rfl) hNP hS rfl (fun w' hq => pv_load (t1 rfl) rfl (by first | exact PT.ld0 (H.mono hq) rfl | exact PT.ld (H.mono hq) rfl)) ?_)
      refine aw_act 0 (by kernel_rfl) rfl rfl rfl ?_
      refine act_call (f := 16) (by kernel_rfl) rfl (does_c _) ?_; rintro e1 w5 ⟨⟨NM, rfl, HM, hNM⟩, hb5⟩; refine ⟨_, rfl, grow_trans hS hb5, fun hS => ?_⟩
      refine aw_act 3 (by kernel_rfl) rfl rfl rfl ?_
      refine act_pv (look_e (k := keyOf8 e.kind h8) Tryd.underlying54 keyU zF hget rfl (by rw [kU_of]; rfl) HM) ?_; refine ⟨hS, fun hS => ?_⟩
      (refine aw_take 4 rfl (by kernel_rfl) (by kernel_rfl) (by kernel_rfl) hNP hS rfl (fun w' hq => pv_move rfl) ?_)
      (refine aw_take 5 rfl (by kernel_rfl) (by kernel_rfl) (by kernel_rfl) hNP hS rfl (fun w' hq => pv_extract rfl rfl) ?_)
      (refine aw_take 6 rfl (by kernel_rfl) (by kernel_rfl) (by kernel_rfl) hNP hS rfl (fun w' hq => pv_extract rfl rfl) ?_)
      (refine aw_take 7 rfl (by kernel_rfl) (by kernel_rfl) (by kernel_rfl) hNP hS rfl (fun w' hq => pv_assign rfl) ?_)
      (refine aw_take 8 rfl (by kernel_rfl) (by kernel_rfl) (by kernel_rfl) hNP hS rfl (fun w' hq => pv_assign rfl) ?_)
      refine aw_done (by kernel_rfl) ?_
      replace hw := hS; clear hS hNP
      repeat' (first | (refine lw_pure rfl (pv_move rfl) ?_) | (refine is_cw ?_; first | (refine cw_seq ?_) | (refine cw_region ?_) | (refine cw_false rfl rfl ?_) | (refine cw_skip ?_)) | (refine is_qw ?_; first | (with_reducible refine qw_then ?_)) | (refine lw_nil ?_))
      refine cw_drawn (fun w' => Below w4.heap.size w4 w') (by kernel_rfl) (by repeat (first | exact NoPanic.body | with_reducible refine NoPanic.then ?_ | with_reducible refine NoPanic.inBlock ?_)) (fun hNP => ?_)
      have hS := hw.drew
      (refine aw_take 0 rfl (by kernel_rfl) (by kernel_rfl) (by kernel_rfl) hNP hS rfl (fun w' hq => pv_move rfl) ?_)
      (refine aw_take 1 rfl (by kernel_rfl) (by kernel_rfl) (by kernel_rfl) hNP hS rfl (fun w' hq => pv_nilp rfl) ?_)
      (refine aw_take 2 rfl (by kernel_rfl) (by kernel_rfl) (by kernel_rfl) hNP hS rfl (fun w' hq => pv_fa (tF rfl) rfl) ?_)
      (refine aw_take 3 rfl (by kernel_rfl) (by kernel_rfl) (by kernel_rfl) hNP hS rfl (fun w' hq => pv_load (t1 rfl) rfl (by first | exact PT.ld0 (HW.mono hq) rfl | exact PT.ld (HW.mono hq) rfl)) ?_)
      (refine aw_take 4 rfl (by kernel_rfl) (by kernel_rfl) (by kernel_rfl) hNP hS rfl (fun w' hq => pv_move rfl) ?_)
      (refine aw_take 5 rfl (by kernel_rfl) (by kernel_rfl) (by kernel_rfl) hNP hS rfl (fun w' hq => pv_nilp rfl) ?_)
      (refine aw_take 6 rfl (by kernel_rfl) (by kernel_rfl) (by kernel_rfl) hNP hS rfl (fun w' hq => pv_fa (tF rfl) rfl) ?_)
      (refine aw_take 7 rfl (by kernel_rfl) (by kernel_rfl) (by kernel_rfl) hNP hS rfl (fun w' hq => pv_load (t1 rfl) rfl (by first | exact PT.ld0 (HW.mono hq) rfl | exact PT.ld (HW.mono hq) rfl)) ?_)
      (refine aw_take 8 rfl (by kernel_rfl) (by kernel_rfl) (by kernel_rfl) hNP hS rfl (fun w' hq => pv_assign rfl) ?_)
      (refine aw_take 9 rfl (by kernel_rfl) (by kernel_rfl) (by kernel_rfl) hNP hS rfl (fun w' hq => pv_assign rfl) ?_)
      (refine aw_take 10 rfl (by kernel_rfl) (by kernel_rfl) (by kernel_rfl) hNP hS rfl (fun w' hq => pv_assign rfl) ?_)
      refine aw_done (by kernel_rfl) ?_
      replace hw := hS; clear hS hNP
      have hbz := grow_trans hb0 hw
      repeat' (first | (refine is_cw ?_; first | (refine cw_ret ?_)) | (refine is_qw ?_; first | (with_reducible refine qw_then ?_)))
      exact qw_ret3 rfl rfl rfl rfl ⟨⟨_, _, rfl, hO.mono hw, hTt.mono hw⟩, hbz⟩
    | some F =>
      have hget : getM doesM (keyOf8 e.kind h8) = some (some F) := by rw [does_get, hmr]; rfl
      refine cw_drawn (fun w' => Below w4.heap.size w4 w') (by kernel_rfl) (by repeat (first | exact NoPanic.body | with_reducible refine NoPanic.then ?_ | with_reducible refine NoPanic.inBlock ?_)) (fun hNP => ?_)
      have hS := hw.drew
      (refine aw_take 1 rfl (by kernel_rfl) (by kernel_rfl) (by kernel_rfl) hNP hS rfl (fun w' hq => pv_fa (tF rfl) rfl) ?_)
      (refine aw_take 2 rfl (by kernel_rfl) (by kernel_rfl) (by kernel_rfl) hNP hS rfl (fun w' hq => pv_load (t1 rfl) rfl (by first | exact PT.ld0 (H.mono hq) rfl | exact PT.ld (H.mono hq) rfl)) ?_)
      refine aw_act 0 (by kernel_rfl) rfl rfl rfl ?_
      refine act_call (f := 16) (by kernel_rfl) rfl (does_c _) ?_; rintro e1 w5 ⟨⟨NM, rfl, HM, hNM⟩, hb5⟩; refine ⟨_, rfl, grow_trans hS hb5, fun hS => ?_⟩
      refine aw_act 3 (by kernel_rfl) rfl rfl rfl ?_
      refine act_pv (look_e (k := keyOf8 e.kind h8) Tryd.underlying54 keyU zF hget rfl (by rw [kU_of]; rfl) HM) ?_; refine ⟨hS, fun hS => ?_⟩
      (refine aw_take 4 rfl (by kernel_rfl) (by kernel_rfl) (by kernel_rfl) hNP hS rfl (fun w' hq => pv_move rfl) ?_)
      (refine aw_take 5 rfl (by kernel_rfl) (by kernel_rfl) (by kernel_rfl) hNP hS rfl (fun w' hq => pv_extract rfl rfl) ?_)
      (refine aw_take 6 rfl (by kernel_rfl) (by kernel_rfl) (by kernel_rfl) hNP hS rfl (fun w' hq => pv_extract rfl rfl) ?_)
      (refine aw_take 7 rfl (by kernel_rfl) (by kernel_rfl) (by kernel_rfl) hNP hS rfl (fun w' hq => pv_assign rfl) ?_)
      (refine aw_take 8 rfl (by kernel_rfl) (by kernel_rfl) (by kernel_rfl) hNP hS rfl (fun w' hq => pv_assign rfl) ?_)
      refine aw_done (by kernel_rfl) ?_
      replace hw := hS; clear hS hNP
      repeat' (first | (refine lw_pure rfl (pv_move rfl) ?_) | (refine is_cw ?_; first | (refine cw_seq ?_) | (refine cw_region ?_) | (refine cw_true rfl rfl ?_)) | (refine is_qw ?_; first | (with_reducible refine qw_then ?_)) | (refine lw_nil ?_) | ((refine is_load ?_; first | (refine lw_pure rfl (pv_load (t1 rfl) rfl (by first | exact PT.ld0 (H.mono hw) rfl | exact PT.ld (H.mono hw) rfl)) ?_))) | ((refine is_fa ?_; first | (refine lw_pure rfl (pv_fa (tF rfl) rfl) ?_))))
      refine lw_callv (f := F) rfl (meth_enters hmr) rfl rfl (by simpa using meth_c hmr hM hg3 hg2 rfl (grow_trans hb0 hw) (hWk.mono hw) HN) ?_; rintro e1 w6 ⟨rfl, hpost, hb6⟩; refine ⟨_, rfl, ?_⟩
      clear hw
      have hw := Below.refl w6.heap.size w6
      by_cases h0 : (doneR p t e).2.2 = 0
      · obtain ⟨vo2, vt2, HW6, hO6, hT6, -⟩ := hpost h0
        repeat' (first | (refine lw_pure rfl (pv_move rfl) ?_) | (refine lw_pure rfl (pv_assign rfl) ?_) | (refine is_cw ?_; first | (refine cw_seq ?_) | (refine cw_region ?_) | (refine cw_false rfl (by first | assumption | exact decide_eq_false (by omega) | exact dec_notF (by omega)) ?_) | (refine cw_skip ?_)) | (refine is_qw ?_; first | (with_reducible refine qw_then ?_)) | (refine lw_nil ?_) | ((refine is_bin ?_; first | (refine lw_pure rfl (pv_neq rfl rfl) ?_))))
        refine cw_drawn (fun w' => Below w6.heap.size w6 w') (by kernel_rfl) (by repeat (first | exact NoPanic.body | with_reducible refine NoPanic.then ?_ | with_reducible refine NoPanic.inBlock ?_)) (fun hNP => ?_)
        have hS := hw.drew
        (refine aw_take 0 rfl (by kernel_rfl) (by kernel_rfl) (by kernel_rfl) hNP hS rfl (fun w' hq => pv_move rfl) ?_)
        (refine aw_take 1 rfl (by kernel_rfl) (by kernel_rfl) (by kernel_rfl) hNP hS rfl (fun w' hq => pv_nilp rfl) ?_)
        (refine aw_take 2 rfl (by kernel_rfl) (by kernel_rfl) (by kernel_rfl) hNP hS rfl (fun w' hq => pv_fa (tF rfl) rfl) ?_)
        (refine aw_take 3 rfl (by kernel_rfl) (by kernel_rfl) (by kernel_rfl) hNP hS rfl (fun w' hq => pv_load (t1 rfl) rfl (by first | exact PT.ld0 (HW6.mono hq) rfl | exact PT.ld (HW6.mono hq) rfl)) ?_)
        (refine aw_take 4 rfl (by kernel_rfl) (by kernel_rfl) (by kernel_rfl) hNP hS rfl (fun w' hq => pv_move rfl) ?_)
        (refine aw_take 5 rfl (by kernel_rfl) (by kernel_rfl) (by kernel_rfl) hNP hS rfl (fun w' hq => pv_nilp rfl) ?_)
        (refine aw_take 6 rfl (by kernel_rfl) (by kernel_rfl) (by kernel_rfl) hNP hS rfl (fun w' hq => pv_fa (tF rfl) rfl) ?_)
        (refine aw_take 7 rfl (by kernel_rfl) (by kernel_rfl) (by kernel_rfl) hNP hS rfl (fun w' hq => pv_load (t1 rfl) rfl (by first | exact PT.ld0 (HW6.mono hq) rfl | exact PT.ld (HW6.mono hq) rfl)) ?_)
        (refine aw_take 8 rfl (by kernel_rfl) (by kernel_rfl) (by kernel_rfl) hNP hS rfl (fun w' hq => pv_assign rfl) ?_)
        (refine aw_take 9 rfl (by kernel_rfl) (by kernel_rfl) (by kernel_rfl) hNP hS rfl (fun w' hq => pv_assign rfl) ?_)
        (refine aw_take 10 rfl (by kernel_rfl) (by kernel_rfl) (by kernel_rfl) hNP hS rfl (fun w' hq => pv_assign rfl) ?_)
        refine aw_done (by kernel_rfl) ?_
        replace hw := hS; clear hS hNP
        have hbz := grow_trans hb6 hw
        repeat' (first | (refine is_cw ?_; first | (refine cw_ret ?_)) | (refine is_qw ?_; first | (with_reducible refine qw_then ?_)))
        exact qw_ret3 rfl rfl rfl rfl ⟨⟨_, _, by rw [h0], hO6.mono hw, hT6.mono hw⟩, hbz⟩
      · obtain ⟨he1, he2⟩ := (err_empty p t e).resolve_left h0
        repeat' (first | (refine lw_pure rfl (pv_move rfl) ?_) | (refine lw_pure rfl (pv_assign rfl) ?_) | (refine is_cw ?_; first | (refine cw_seq ?_) | (refine cw_region ?_) | (refine cw_true rfl (by first | assumption | exact decide_eq_true (by omega) | exact dec_notT (by omega)) ?_) | (refine cw_ret ?_)) | (refine is_qw ?_; first | (with_reducible refine qw_then ?_) | (with_reducible refine qw_then_ret ?_)) | (refine lw_nil ?_) | ((refine is_bin ?_; first | (refine lw_pure rfl (pv_neq rfl rfl) ?_))))
        refine qw_ret3 rfl rfl rfl rfl ⟨⟨_, _, rfl, ?_, ?_⟩, hb6⟩
        · rw [he1]; exact Own.nil _
        · rw [he2]; exact Own.nil _
  · rw [event_no hgood]
    cases hg1 : mayV p t with
    | false =>
      repeat' (first | (refine lw_pure rfl (pv_move rfl) ?_) | (refine lw_pure rfl (pv_assign rfl) ?_) | (refine lw_call (f := 11) (by kernel_rfl) rfl rfl (mayV_e hg1 rfl rfl HP HL) ?_; rintro e w1 ⟨rfl, hb⟩; refine ⟨_, rfl, ?_⟩; replace hw := grow_trans hw hb; clear hb) | (refine is_cw ?_; first | (refine cw_seq ?_) | (refine cw_region ?_) | (refine cw_true rfl rfl ?_) | (refine cw_ret ?_)) | (refine is_qw ?_; first | (with_reducible refine qw_then ?_) | (with_reducible refine qw_then_ret ?_)) | (refine lw_nil ?_) | (refine is_guarded ?_; first | (refine lw_not rfl rfl rfl rfl ?_)) | ((refine is_un ?_; first | (refine lw_pure rfl (pv_not rfl) ?_))) | (refine lw_pure rfl (pv_pick_t rfl rfl rfl) ?_))
      all_goals exact qw_ret3 rfl rfl rfl rfl ⟨⟨_, _, rfl, Own.nil _, Own.nil _⟩, grow_trans hw0 hw⟩
    | true =>
      by_cases hg2 : e.v = 3
      · have hg3 : mayE e = false := by rw [Bool.eq_false_iff]; exact fun h => hgood ⟨hg1, hg2, h⟩
        repeat' (first | (refine lw_pure rfl (pv_move rfl) ?_) | (refine lw_pure rfl (pv_assign rfl) ?_) | (refine lw_call (f := 11) (by kernel_rfl) rfl rfl (mayV_e hg1 rfl rfl HP HL) ?_; rintro e w1 ⟨rfl, hb⟩; refine ⟨_, rfl, ?_⟩; replace hw := grow_trans hw hb; clear hb) | (refine lw_call (f := 13) (by kernel_rfl) rfl rfl (mayE_e hg3 h8 rfl rfl (HN1.mono hw) (HX.mono hw) hT (hK.mono hw)) ?_; rintro e w1 ⟨rfl, hb⟩; refine ⟨_, rfl, ?_⟩; replace hw := grow_trans hw hb; clear hb) | (refine is_cw ?_; first | (refine cw_seq ?_) | (refine cw_region ?_) | (refine cw_true rfl rfl ?_) | (refine cw_ret ?_)) | (refine is_qw ?_; first | (with_reducible refine qw_then ?_) | (with_reducible refine qw_then_ret ?_)) | (refine lw_nil ?_) | (refine is_guarded ?_; first | (refine lw_on rfl rfl rfl ?_) | (refine lw_on rfl rfl (by first | assumption | exact decide_eq_true (by omega) | exact decide_eq_false (by omega) | exact dec_notT (by omega) | exact dec_notF (by omega)) ?_)) | ((refine is_bin ?_; first | (refine lw_pure rfl (pv_neq rfl rfl) ?_))) | ((refine is_load ?_; first | (refine lw_pure rfl (pv_load (t1 rfl) rfl (by first | exact PT.ld0 (H.mono hw) rfl | exact PT.ld (H.mono hw) rfl)) ?_) | (refine lw_pure rfl (pv_loada (tA rfl) rfl (by first | exact PT.lda (H.mono hw)) (by rfl)) ?_))) | ((refine is_fa ?_; first | (refine lw_pure rfl (pv_fa (tF rfl) rfl) ?_))) | ((refine is_un ?_; first | (refine lw_pure rfl (pv_not rfl) ?_))) | (refine lw_pure rfl (pv_pick_f rfl rfl rfl) ?_) | (refine lw_pure rfl (pv_pick_f rfl (by first | assumption | exact decide_eq_false (by omega) | exact dec_notF (by omega)) rfl) ?_))
        all_goals exact qw_ret3 rfl rfl rfl rfl ⟨⟨_, _, rfl, Own.nil _, Own.nil _⟩, grow_trans hw0 hw⟩
      · repeat' (first | (refine lw_pure rfl (pv_move rfl) ?_) | (refine lw_pure rfl (pv_assign rfl) ?_) | (refine lw_call (f := 11) (by kernel_rfl) rfl rfl (mayV_e hg1 rfl rfl HP HL) ?_; rintro e w1 ⟨rfl, hb⟩; refine ⟨_, rfl, ?_⟩; replace hw := grow_trans hw hb; clear hb) | (refine is_cw ?_; first | (refine cw_seq ?_) | (refine cw_region ?_) | (refine cw_true rfl rfl ?_) | (refine cw_ret ?_)) | (refine is_qw ?_; first | (with_reducible refine qw_then ?_) | (with_reducible refine qw_then_ret ?_)) | (refine lw_nil ?_) | (refine is_guarded ?_; first | (refine lw_on rfl rfl rfl ?_) | (refine lw_not rfl rfl rfl (by first | assumption | exact decide_eq_true (by omega) | exact decide_eq_false (by omega) | exact dec_notT (by omega) | exact dec_notF (by omega)) ?_)) | ((refine is_bin ?_; first | (refine lw_pure rfl (pv_neq rfl rfl) ?_))) | ((refine is_load ?_; first | (refine lw_pure rfl (pv_load (t1 rfl) rfl (by first | exact PT.ld0 (H.mono hw) rfl | exact PT.ld (H.mono hw) rfl)) ?_))) | ((refine is_fa ?_; first | (refine lw_pure rfl (pv_fa (tF rfl) rfl) ?_))) | ((refine is_un ?_; first | (refine lw_pure rfl (pv_not rfl) ?_))) | (refine lw_pure rfl (pv_pick_f rfl rfl rfl) ?_) | (refine lw_pure rfl (pv_pick_t rfl (by first | assumption | exact decide_eq_true (by omega) | exact dec_notT (by omega)) rfl) ?_))
        all_goals exact qw_ret3 rfl rfl rfl rfl ⟨⟨_, _, rfl, Own.nil _, Own.nil _⟩, grow_trans hw0 hw⟩
end Go.Proofs.YtkehmbgcglbffaaDoor
