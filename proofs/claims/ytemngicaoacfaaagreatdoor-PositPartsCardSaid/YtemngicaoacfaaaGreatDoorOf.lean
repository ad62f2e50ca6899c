/-
  Contracts of layer 22's at, lot, Find, Lot, Of. Conditions: the slices read as lists.
-/
import Derived.Test.YtemngicaoacfaaaGreatDoorOe
namespace Go.Proofs.YtemngicaoacfaaaGreatDoor
open Go.RowKit Go.PlainAid

set_option maxRecDepth 20000 in
theorem atF_c (o : Opn) (id : Int) (N : Nat) (w : World) (h : PT w N 2 [.int .i64 id]) : Calls Tryz.prog 88 #[.agg (encP o).toArray, .pointer (some ⟨N, 0, none⟩)] w fun e w' => e = .returned (.bool (o.id == id)) ∧ Below w.heap.size w w' := by
  have hE := Ext.refl w
  have hw := Below.refl w.heap.size w
  refine fn_enter 8 Tryz.func88 rfl rfl rfl ?_
  repeat' (first | (refine lw_pure rfl (pv_move rfl) ?_) | (refine lw_pure rfl (pv_assign rfl) ?_) | (refine is_cw ?_; first | (refine cw_seq ?_) | (refine cw_region ?_) | (refine cw_ret ?_)) | (refine is_qw ?_; first | (with_reducible refine qw_then ?_) | (with_reducible refine qw_then_ret ?_)) | (refine lw_nil ?_) | ((refine is_bin ?_; first | (refine lw_pure rfl (pv_eql rfl rfl) ?_))) | ((refine is_load ?_; first | (refine lw_pure rfl (pv_load (t1 rfl) rfl (by first | fail)) ?_) | (refine lw_pure rfl (pv_loada (tA rfl) rfl (by first | fail) (by rfl)) ?_))) | ((refine is_fa ?_; first | (refine lw_pure rfl (pv_fa (tF rfl) rfl) ?_))))
  refine lw_boxN rfl rfl (cs := encP o) rfl ?_; intro N1 wn hN HA hb
  replace hw := grow_trans hw hb
  clear hb
  replace hE := hE.mono hw; replace h := h.mono hw; clear hw; have hw := Below.refl wn.heap.size wn
  repeat' (first | (refine lw_pure rfl (pv_move rfl) ?_) | (refine lw_pure rfl (pv_assign rfl) ?_) | (refine is_cw ?_; first | (refine cw_seq ?_) | (refine cw_region ?_) | (refine cw_ret ?_)) | (refine is_qw ?_; first | (with_reducible refine qw_then ?_) | (with_reducible refine qw_then_ret ?_)) | (refine lw_nil ?_) | ((refine is_bin ?_; first | (refine lw_pure rfl (pv_eql rfl rfl) ?_))) | ((refine is_load ?_; first | (refine lw_pure rfl (pv_load (t1 rfl) rfl (by first | exact PT.ld0 (HA.mono hw) rfl | exact PT.ld (HA.mono hw) rfl | exact PT.ld0 (h.mono hw) rfl | exact PT.ld (h.mono hw) rfl)) ?_) | (refine lw_pure rfl (pv_loada (tA rfl) rfl (by first | exact PT.lda (HA.mono hw) | exact PT.lda (h.mono hw)) (by rfl)) ?_))) | ((refine is_fa ?_; first | (refine lw_pure rfl (pv_fa (tF rfl) rfl) ?_))))
  exact qw_ret1 rfl rfl ⟨ret_bool rfl, (hE.mono hw).b⟩
set_option maxRecDepth 20000 in
theorem lotF_c (o : Lt) (id : Int) (N : Nat) (w : World) (h : PT w N 2 [.int .i64 id]) : Calls Tryz.prog 90 #[.agg (encL o).toArray, .pointer (some ⟨N, 0, none⟩)] w fun e w' => e = .returned (.bool (o.id == id)) ∧ Below w.heap.size w w' := by
  have hE := Ext.refl w
  have hw := Below.refl w.heap.size w
  refine fn_enter 8 Tryz.func90 rfl rfl rfl ?_
  repeat' (first | (refine lw_pure rfl (pv_move rfl) ?_) | (refine lw_pure rfl (pv_assign rfl) ?_) | (refine is_cw ?_; first | (refine cw_seq ?_) | (refine cw_region ?_) | (refine cw_ret ?_)) | (refine is_qw ?_; first | (with_reducible refine qw_then ?_) | (with_reducible refine qw_then_ret ?_)) | (refine lw_nil ?_) | ((refine is_bin ?_; first | (refine lw_pure rfl (pv_eql rfl rfl) ?_))) | ((refine is_load ?_; first | (refine lw_pure rfl (pv_load (t1 rfl) rfl (by first | fail)) ?_) | (refine lw_pure rfl (pv_loada (tA rfl) rfl (by first | fail) (by rfl)) ?_))) | ((refine is_fa ?_; first | (refine lw_pure rfl (pv_fa (tF rfl) rfl) ?_))))
  refine lw_boxN rfl rfl (cs := encL o) rfl ?_; intro N1 wn hN HA hb
  replace hw := grow_trans hw hb
  clear hb
  replace hE := hE.mono hw; replace h := h.mono hw; clear hw; have hw := Below.refl wn.heap.size wn
  repeat' (first | (refine lw_pure rfl (pv_move rfl) ?_) | (refine lw_pure rfl (pv_assign rfl) ?_) | (refine is_cw ?_; first | (refine cw_seq ?_) | (refine cw_region ?_) | (refine cw_ret ?_)) | (refine is_qw ?_; first | (with_reducible refine qw_then ?_) | (with_reducible refine qw_then_ret ?_)) | (refine lw_nil ?_) | ((refine is_bin ?_; first | (refine lw_pure rfl (pv_eql rfl rfl) ?_))) | ((refine is_load ?_; first | (refine lw_pure rfl (pv_load (t1 rfl) rfl (by first | exact PT.ld0 (HA.mono hw) rfl | exact PT.ld (HA.mono hw) rfl | exact PT.ld0 (h.mono hw) rfl | exact PT.ld (h.mono hw) rfl)) ?_) | (refine lw_pure rfl (pv_loada (tA rfl) rfl (by first | exact PT.lda (HA.mono hw) | exact PT.lda (h.mono hw)) (by rfl)) ?_))) | ((refine is_fa ?_; first | (refine lw_pure rfl (pv_fa (tF rfl) rfl) ?_))))
  exact qw_ret1 rfl rfl ⟨ret_bool rfl, (hE.mono hw).b⟩
/-- the place of what is found first -/
def atR {α : Type} (l : List α) (q : α → Bool) (i : Int) : Prop := (i = -1 ∧ ∀ x ∈ l, q x = false) ∨ ∃ (k : Nat) (r : α), i = k ∧ l[k]? = some r ∧ q r = true ∧ ∀ x ∈ l.take k, q x = false
set_option maxRecDepth 20000 in
theorem at_c {p : List Opn} {m : Nat} {a : Option Addr} {ca : Nat} {w : World} (id : Int) (hm : p.length = m) (HP : SlR encP 6 w a ca p) : Calls Tryz.prog 55 #[.slice a m ca, .int .i64 id] w fun e w' => (∃ i, e = .returned (.int .i64 i) ∧ atR p (fun o => o.id == id) i) ∧ Below w.heap.size w w' := by
  have hE := Ext.refl w
  have hw := Below.refl w.heap.size w
  refine fn_enter 8 Tryz.func55 rfl rfl rfl ?_
  repeat' (first | (refine lw_pure rfl (pv_move rfl) ?_) | (refine lw_pure rfl (pv_assign rfl) ?_) | (refine is_cw ?_; first | (refine cw_seq ?_) | (refine cw_region ?_) | (refine cw_ret ?_)) | (refine is_qw ?_; first | (with_reducible refine qw_then ?_) | (with_reducible refine qw_then_ret ?_)) | (refine lw_nil ?_) | (refine lw_pure rfl (pv_makeFunc rfl rfl) ?_))
  refine lw_boxN rfl rfl (cs := [.int .i64 id]) rfl ?_; intro N wn hN HA hb
  replace hw := grow_trans hw hb
  clear hb
  replace hE := hE.mono hw; replace HP := HP.mono hw; clear hw; have hw := Below.refl wn.heap.size wn
  repeat' (first | (refine lw_pure rfl (pv_move rfl) ?_) | (refine lw_pure rfl (pv_assign rfl) ?_) | (refine is_cw ?_; first | (refine cw_seq ?_) | (refine cw_region ?_) | (refine cw_ret ?_)) | (refine is_qw ?_; first | (with_reducible refine qw_then ?_) | (with_reducible refine qw_then_ret ?_)) | (refine lw_nil ?_) | (refine lw_pure rfl (pv_makeFunc rfl rfl) ?_))
  refine lw_call (f := 87) (by kernel_rfl) rfl rfl (indexf_P wn.heap.size (fun o => o.id == id) 88 #[.pointer (some ⟨N, 0, none⟩)] (by kernel_rfl) (Nat.le_refl _) (fun x _ w' hb => by simpa using atF_c x id N w' (HA.mono hb)) hm HP) ?_; rintro e w1 ⟨⟨i, rfl, hi⟩, hb⟩; refine ⟨_, rfl, ?_⟩; replace hw := grow_trans hw hb
  repeat' (first | (refine lw_pure rfl (pv_move rfl) ?_) | (refine lw_pure rfl (pv_assign rfl) ?_) | (refine is_cw ?_; first | (refine cw_seq ?_) | (refine cw_region ?_) | (refine cw_ret ?_)) | (refine is_qw ?_; first | (with_reducible refine qw_then ?_) | (with_reducible refine qw_then_ret ?_)) | (refine lw_nil ?_) | (refine lw_pure rfl (pv_makeFunc rfl rfl) ?_))
  exact qw_ret1 rfl rfl ⟨⟨i, rfl, hi⟩, (hE.mono hw).b⟩
set_option maxRecDepth 20000 in
theorem lot_c {p : List Lt} {m : Nat} {a : Option Addr} {ca : Nat} {w : World} (id : Int) (hm : p.length = m) (HP : SlR encL 4 w a ca p) : Calls Tryz.prog 56 #[.slice a m ca, .int .i64 id] w fun e w' => (∃ i, e = .returned (.int .i64 i) ∧ atR p (fun o => o.id == id) i) ∧ Below w.heap.size w w' := by
  have hE := Ext.refl w
  have hw := Below.refl w.heap.size w
  refine fn_enter 8 Tryz.func56 rfl rfl rfl ?_
  repeat' (first | (refine lw_pure rfl (pv_move rfl) ?_) | (refine lw_pure rfl (pv_assign rfl) ?_) | (refine is_cw ?_; first | (refine cw_seq ?_) | (refine cw_region ?_) | (refine cw_ret ?_)) | (refine is_qw ?_; first | (with_reducible refine qw_then ?_) | (with_reducible refine qw_then_ret ?_)) | (refine lw_nil ?_) | (refine lw_pure rfl (pv_makeFunc rfl rfl) ?_))
  refine lw_boxN rfl rfl (cs := [.int .i64 id]) rfl ?_; intro N wn hN HA hb
  replace hw := grow_trans hw hb
  clear hb
  replace hE := hE.mono hw; replace HP := HP.mono hw; clear hw; have hw := Below.refl wn.heap.size wn
  repeat' (first | (refine lw_pure rfl (pv_move rfl) ?_) | (refine lw_pure rfl (pv_assign rfl) ?_) | (refine is_cw ?_; first | (refine cw_seq ?_) | (refine cw_region ?_) | (refine cw_ret ?_)) | (refine is_qw ?_; first | (with_reducible refine qw_then ?_) | (with_reducible refine qw_then_ret ?_)) | (refine lw_nil ?_) | (refine lw_pure rfl (pv_makeFunc rfl rfl) ?_))
  refine lw_call (f := 89) (by kernel_rfl) rfl rfl (indexf_L wn.heap.size (fun o => o.id == id) 90 #[.pointer (some ⟨N, 0, none⟩)] (by kernel_rfl) (Nat.le_refl _) (fun x _ w' hb => by simpa using lotF_c x id N w' (HA.mono hb)) hm HP) ?_; rintro e w1 ⟨⟨i, rfl, hi⟩, hb⟩; refine ⟨_, rfl, ?_⟩; replace hw := grow_trans hw hb
  repeat' (first | (refine lw_pure rfl (pv_move rfl) ?_) | (refine lw_pure rfl (pv_assign rfl) ?_) | (refine is_cw ?_; first | (refine cw_seq ?_) | (refine cw_region ?_) | (refine cw_ret ?_)) | (refine is_qw ?_; first | (with_reducible refine qw_then ?_) | (with_reducible refine qw_then_ret ?_)) | (refine lw_nil ?_) | (refine lw_pure rfl (pv_makeFunc rfl rfl) ?_))
  exact qw_ret1 rfl rfl ⟨⟨i, rfl, hi⟩, (hE.mono hw).b⟩
theorem find_none {α : Type} {l : List α} {q : α → Bool} (h : ∀ x ∈ l, q x = false) : l.find? q = none := by
  rw [List.find?_eq_none]; intro x hx; simp [h x hx]
theorem find_at {α : Type} {q : α → Bool} : ∀ {l : List α} {k : Nat} {r : α}, l[k]? = some r → q r = true → (∀ x ∈ l.take k, q x = false) → l.find? q = some r
  | [], _, _, h, _, _ => by simp at h
  | y :: l, 0, r, h, hr, _ => by simp at h; subst h; simp [hr]
  | y :: l, k + 1, r, h, hr, hn => by
    rw [List.find?_cons, hn y (by simp)]
    exact find_at (by simpa using h) hr (fun x hx => hn x (by simp [hx]))
def oZ : Opn := ⟨0, 0, 0, 0, 0, 0⟩
def lZ : Lt := ⟨0, 0, 0, 0⟩
set_option maxRecDepth 20000 in
theorem find_c {p : List Opn} {m : Nat} {a : Option Addr} {ca : Nat} {w : World} (id : Int) (hm : p.length = m) (HP : SlR encP 6 w a ca p) : Calls Tryz.prog 21 #[.slice a m ca, .int .i64 id] w fun e w' => e = .returned (.tuple #[.agg (encP ((findP p id).getD oZ)).toArray, .bool (findP p id).isSome]) ∧ Below w.heap.size w w' := by
  subst hm
  have hE := Ext.refl w
  have hw := Below.refl w.heap.size w
  have hca := HP.le
  have hcm := HP.max
  refine fn_enter 17 Tryz.func21 rfl rfl rfl ?_
  repeat' (first | (refine lw_pure rfl (pv_move rfl) ?_) | (refine lw_pure rfl (pv_assign rfl) ?_) | (refine is_cw ?_; first | (refine cw_seq ?_) | (refine cw_region ?_) | (refine cw_true rfl rfl ?_) | (refine cw_false rfl rfl ?_) | (refine cw_true rfl (by first | assumption | exact decide_eq_true (by omega) | exact dec_notT (by omega)) ?_) | (refine cw_false rfl (by first | assumption | exact decide_eq_false (by omega) | exact dec_notF (by omega)) ?_) | (refine cw_skip ?_) | (refine cw_ret ?_)) | (refine is_qw ?_; first | (with_reducible refine qw_then ?_) | (with_reducible refine qw_then_ret ?_)) | (refine lw_nil ?_) | ((refine is_bin ?_; first | (refine lw_pure rfl (pv_lss rfl rfl) ?_))) | ((refine is_load ?_; first | (refine lw_pure rfl (pv_load (t1 rfl) rfl (by first | fail)) ?_) | (refine lw_pure rfl (pv_loada (tA rfl) rfl (by first | fail) (by rfl)) ?_))) | ((refine is_ia ?_; first | (refine lw_pure rfl (pv_ian (tS rfl) rfl rfl (by omega)) ?_) | (refine lw_pure rfl (pv_ia (tS rfl) rfl rfl (by omega)) ?_))) | ((refine is_bd ?_; first | (refine lw_pure rfl (tyB_49 rfl rfl rfl) ?_))))
  refine lw_allocN rfl (by first | exact tyv_27 | exact tyv_28 | exact tyv_38 | exact tyv_39 | exact tyv_48 | exact tyv_49 | exact tyv_52 | exact tyv_53 | exact tyv_68 | exact tyv_69 | exact tyv_79 | exact tyv_80 | exact tyv_94 | exact tyv_95 | exact tyv_131 | exact tyv_132) rfl ?_; intro N w1 hN H hb
  replace hE := hE.mono hb
  replace HP := HP.mono hb
  clear hb hw
  have hw := Below.refl w1.heap.size w1
  repeat' (first | (refine lw_pure rfl (pv_move rfl) ?_) | (refine lw_pure rfl (pv_assign rfl) ?_) | (refine is_cw ?_; first | (refine cw_seq ?_) | (refine cw_region ?_) | (refine cw_true rfl rfl ?_) | (refine cw_false rfl rfl ?_) | (refine cw_true rfl (by first | assumption | exact decide_eq_true (by omega) | exact dec_notT (by omega)) ?_) | (refine cw_false rfl (by first | assumption | exact decide_eq_false (by omega) | exact dec_notF (by omega)) ?_) | (refine cw_skip ?_) | (refine cw_ret ?_)) | (refine is_qw ?_; first | (with_reducible refine qw_then ?_) | (with_reducible refine qw_then_ret ?_)) | (refine lw_nil ?_) | ((refine is_bin ?_; first | (refine lw_pure rfl (pv_lss rfl rfl) ?_))) | ((refine is_load ?_; first | (refine lw_pure rfl (pv_load (t1 rfl) rfl (by first | fail)) ?_) | (refine lw_pure rfl (pv_loada (tA rfl) rfl (by first | fail) (by rfl)) ?_))) | ((refine is_ia ?_; first | (refine lw_pure rfl (pv_ian (tS rfl) rfl rfl (by omega)) ?_) | (refine lw_pure rfl (pv_ia (tS rfl) rfl rfl (by omega)) ?_))) | ((refine is_bd ?_; first | (refine lw_pure rfl (tyB_49 rfl rfl rfl) ?_))))
  refine lw_call (f := 55) (by kernel_rfl) rfl rfl (at_c id rfl HP) ?_; rintro e w2 ⟨⟨i, rfl, hi⟩, hb⟩; refine ⟨_, rfl, ?_⟩
  replace hE := hE.mono hb
  replace HP := HP.mono hb
  replace H := H.mono hb
  clear hb hw
  have hw := Below.refl w2.heap.size w2
  rcases hi with ⟨rfl, hn⟩ | ⟨k, r, rfl, hxk, hr, hn⟩
  · have hf : findP p id = none := find_none hn
    rw [hf]
    repeat' (first | (refine lw_pure rfl (pv_move rfl) ?_) | (refine lw_pure rfl (pv_assign rfl) ?_) | (refine is_cw ?_; first | (refine cw_seq ?_) | (refine cw_region ?_) | (refine cw_true rfl rfl ?_) | (refine cw_false rfl rfl ?_) | (refine cw_true rfl (by first | assumption | exact decide_eq_true (by omega) | exact dec_notT (by omega)) ?_) | (refine cw_false rfl (by first | assumption | exact decide_eq_false (by omega) | exact dec_notF (by omega)) ?_) | (refine cw_skip ?_) | (refine cw_ret ?_)) | (refine is_qw ?_; first | (with_reducible refine qw_then ?_) | (with_reducible refine qw_then_ret ?_)) | (refine lw_nil ?_) | ((refine is_bin ?_; first | (refine lw_pure rfl (pv_lss rfl rfl) ?_))) | ((refine is_load ?_; first | (refine lw_pure rfl (pv_load (t1 rfl) rfl (by first | fail)) ?_) | (refine lw_pure rfl (pv_loada (tA rfl) rfl (by first | fail) (by rfl)) ?_))) | ((refine is_ia ?_; first | (refine lw_pure rfl (pv_ian (tS rfl) rfl rfl (by omega)) ?_) | (refine lw_pure rfl (pv_ia (tS rfl) rfl rfl (by omega)) ?_))) | ((refine is_bd ?_; first | (refine lw_pure rfl (tyB_49 rfl rfl rfl) ?_))))
    refine lw_storea (vs := encP oZ) H (tZ rfl) rfl rfl rfl rfl (encP_one _) ?_; intro w3 H2 hg hz
    replace hE := hE.grown hg (by intro q hq; injection hq with hq; omega)
    have hw := Below.refl w3.heap.size w3
    repeat' (first | (refine lw_pure rfl (pv_move rfl) ?_) | (refine lw_pure rfl (pv_assign rfl) ?_) | (refine is_cw ?_; first | (refine cw_seq ?_) | (refine cw_region ?_) | (refine cw_true rfl rfl ?_) | (refine cw_false rfl rfl ?_) | (refine cw_true rfl (by first | assumption | exact decide_eq_true (by omega) | exact dec_notT (by omega)) ?_) | (refine cw_false rfl (by first | assumption | exact decide_eq_false (by omega) | exact dec_notF (by omega)) ?_) | (refine cw_skip ?_) | (refine cw_ret ?_)) | (refine is_qw ?_; first | (with_reducible refine qw_then ?_) | (with_reducible refine qw_then_ret ?_)) | (refine lw_nil ?_) | ((refine is_bin ?_; first | (refine lw_pure rfl (pv_lss rfl rfl) ?_))) | ((refine is_load ?_; first | (refine lw_pure rfl (pv_load (t1 rfl) rfl (by first | fail)) ?_) | (refine lw_pure rfl (pv_loada (tA rfl) rfl (by first | fail) (by rfl)) ?_))) | ((refine is_ia ?_; first | (refine lw_pure rfl (pv_ian (tS rfl) rfl rfl (by omega)) ?_) | (refine lw_pure rfl (pv_ia (tS rfl) rfl rfl (by omega)) ?_))) | ((refine is_bd ?_; first | (refine lw_pure rfl (tyB_49 rfl rfl rfl) ?_))))
    exact qw_retct rfl rfl rfl (agg_ld (tA rfl) rfl (fun i u hu => H2.ld0 hu)) ⟨rfl, hE.b⟩
  · have hf : findP p id = some r := find_at hxk hr hn
    have hlt : k < p.length := (List.getElem?_eq_some_iff.1 hxk).1
    obtain ⟨ab, ao, rfl, -, -⟩ := HP.at (by intro h; rw [h] at hlt; simp at hlt)
    rw [hf]
    repeat' (first | (refine lw_pure rfl (pv_move rfl) ?_) | (refine lw_pure rfl (pv_assign rfl) ?_) | (refine is_cw ?_; first | (refine cw_seq ?_) | (refine cw_region ?_) | (refine cw_true rfl rfl ?_) | (refine cw_false rfl rfl ?_) | (refine cw_true rfl (by first | assumption | exact decide_eq_true (by omega) | exact dec_notT (by omega)) ?_) | (refine cw_false rfl (by first | assumption | exact decide_eq_false (by omega) | exact dec_notF (by omega)) ?_) | (refine cw_skip ?_) | (refine cw_ret ?_)) | (refine is_qw ?_; first | (with_reducible refine qw_then ?_) | (with_reducible refine qw_then_ret ?_)) | (refine lw_nil ?_) | ((refine is_bin ?_; first | (refine lw_pure rfl (pv_lss rfl rfl) ?_))) | ((refine is_load ?_; first | (refine lw_pure rfl (pv_load (t1 rfl) rfl (by first | exact SlR.ld (HP.mono hw) hxk rfl | exact SlR.ld1 (HP.mono hw) hxk rfl)) ?_) | (refine lw_pure rfl (pv_loada (tA rfl) rfl (by first | exact SlR.lda (HP.mono hw) hxk) (by rfl)) ?_))) | ((refine is_ia ?_; first | (refine lw_pure rfl (pv_ian (tS rfl) rfl rfl (by omega)) ?_) | (refine lw_pure rfl (pv_ia (tS rfl) rfl rfl (by omega)) ?_))) | ((refine is_bd ?_; first | (refine lw_pure rfl (tyB_49 rfl rfl rfl) ?_))))
    refine lw_storea (vs := encP r) (H.mono hw) (tZ rfl) rfl rfl rfl rfl (encP_one _) ?_; intro w3 H2 hg hz
    replace hE := (hE.mono hw).grown hg (by intro q hq; injection hq with hq; omega)
    clear hw
    have hw := Below.refl w3.heap.size w3
    repeat' (first | (refine lw_pure rfl (pv_move rfl) ?_) | (refine lw_pure rfl (pv_assign rfl) ?_) | (refine is_cw ?_; first | (refine cw_seq ?_) | (refine cw_region ?_) | (refine cw_true rfl rfl ?_) | (refine cw_false rfl rfl ?_) | (refine cw_true rfl (by first | assumption | exact decide_eq_true (by omega) | exact dec_notT (by omega)) ?_) | (refine cw_false rfl (by first | assumption | exact decide_eq_false (by omega) | exact dec_notF (by omega)) ?_) | (refine cw_skip ?_) | (refine cw_ret ?_)) | (refine is_qw ?_; first | (with_reducible refine qw_then ?_) | (with_reducible refine qw_then_ret ?_)) | (refine lw_nil ?_) | ((refine is_bin ?_; first | (refine lw_pure rfl (pv_lss rfl rfl) ?_))) | ((refine is_load ?_; first | (refine lw_pure rfl (pv_load (t1 rfl) rfl (by first | fail)) ?_) | (refine lw_pure rfl (pv_loada (tA rfl) rfl (by first | fail) (by rfl)) ?_))) | ((refine is_ia ?_; first | (refine lw_pure rfl (pv_ian (tS rfl) rfl rfl (by omega)) ?_) | (refine lw_pure rfl (pv_ia (tS rfl) rfl rfl (by omega)) ?_))) | ((refine is_bd ?_; first | (refine lw_pure rfl (tyB_49 rfl rfl rfl) ?_))))
    exact qw_retct rfl rfl rfl (agg_ld (tA rfl) rfl (fun i u hu => H2.ld0 hu)) ⟨rfl, hE.b⟩
set_option maxRecDepth 20000 in
theorem lotx_c {p : List Lt} {m : Nat} {a : Option Addr} {ca : Nat} {w : World} (id : Int) (hm : p.length = m) (HP : SlR encL 4 w a ca p) : Calls Tryz.prog 22 #[.slice a m ca, .int .i64 id] w fun e w' => e = .returned (.tuple #[.agg (encL ((findT p id).getD lZ)).toArray, .bool (findT p id).isSome]) ∧ Below w.heap.size w w' := by
  subst hm
  have hE := Ext.refl w
  have hw := Below.refl w.heap.size w
  have hca := HP.le
  have hcm := HP.max
  refine fn_enter 17 Tryz.func22 rfl rfl rfl ?_
  repeat' (first | (refine lw_pure rfl (pv_move rfl) ?_) | (refine lw_pure rfl (pv_assign rfl) ?_) | (refine is_cw ?_; first | (refine cw_seq ?_) | (refine cw_region ?_) | (refine cw_true rfl rfl ?_) | (refine cw_false rfl rfl ?_) | (refine cw_true rfl (by first | assumption | exact decide_eq_true (by omega) | exact dec_notT (by omega)) ?_) | (refine cw_false rfl (by first | assumption | exact decide_eq_false (by omega) | exact dec_notF (by omega)) ?_) | (refine cw_skip ?_) | (refine cw_ret ?_)) | (refine is_qw ?_; first | (with_reducible refine qw_then ?_) | (with_reducible refine qw_then_ret ?_)) | (refine lw_nil ?_) | ((refine is_bin ?_; first | (refine lw_pure rfl (pv_lss rfl rfl) ?_))) | ((refine is_load ?_; first | (refine lw_pure rfl (pv_load (t1 rfl) rfl (by first | fail)) ?_) | (refine lw_pure rfl (pv_loada (tA rfl) rfl (by first | fail) (by rfl)) ?_))) | ((refine is_ia ?_; first | (refine lw_pure rfl (pv_ian (tS rfl) rfl rfl (by omega)) ?_) | (refine lw_pure rfl (pv_ia (tS rfl) rfl rfl (by omega)) ?_))) | ((refine is_bd ?_; first | (refine lw_pure rfl (tyB_53 rfl rfl rfl) ?_))))
  refine lw_allocN rfl (by first | exact tyv_27 | exact tyv_28 | exact tyv_38 | exact tyv_39 | exact tyv_48 | exact tyv_49 | exact tyv_52 | exact tyv_53 | exact tyv_68 | exact tyv_69 | exact tyv_79 | exact tyv_80 | exact tyv_94 | exact tyv_95 | exact tyv_131 | exact tyv_132) rfl ?_; intro N w1 hN H hb
  replace hE := hE.mono hb
  replace HP := HP.mono hb
  clear hb hw
  have hw := Below.refl w1.heap.size w1
  repeat' (first | (refine lw_pure rfl (pv_move rfl) ?_) | (refine lw_pure rfl (pv_assign rfl) ?_) | (refine is_cw ?_; first | (refine cw_seq ?_) | (refine cw_region ?_) | (refine cw_true rfl rfl ?_) | (refine cw_false rfl rfl ?_) | (refine cw_true rfl (by first | assumption | exact decide_eq_true (by omega) | exact dec_notT (by omega)) ?_) | (refine cw_false rfl (by first | assumption | exact decide_eq_false (by omega) | exact dec_notF (by omega)) ?_) | (refine cw_skip ?_) | (refine cw_ret ?_)) | (refine is_qw ?_; first | (with_reducible refine qw_then ?_) | (with_reducible refine qw_then_ret ?_)) | (refine lw_nil ?_) | ((refine is_bin ?_; first | (refine lw_pure rfl (pv_lss rfl rfl) ?_))) | ((refine is_load ?_; first | (refine lw_pure rfl (pv_load (t1 rfl) rfl (by first | fail)) ?_) | (refine lw_pure rfl (pv_loada (tA rfl) rfl (by first | fail) (by rfl)) ?_))) | ((refine is_ia ?_; first | (refine lw_pure rfl (pv_ian (tS rfl) rfl rfl (by omega)) ?_) | (refine lw_pure rfl (pv_ia (tS rfl) rfl rfl (by omega)) ?_))) | ((refine is_bd ?_; first | (refine lw_pure rfl (tyB_53 rfl rfl rfl) ?_))))
  refine lw_call (f := 56) (by kernel_rfl) rfl rfl (lot_c id rfl HP) ?_; rintro e w2 ⟨⟨i, rfl, hi⟩, hb⟩; refine ⟨_, rfl, ?_⟩
  replace hE := hE.mono hb
  replace HP := HP.mono hb
  replace H := H.mono hb
  clear hb hw
  have hw := Below.refl w2.heap.size w2
  rcases hi with ⟨rfl, hn⟩ | ⟨k, r, rfl, hxk, hr, hn⟩
  · have hf : findT p id = none := find_none hn
    rw [hf]
    repeat' (first | (refine lw_pure rfl (pv_move rfl) ?_) | (refine lw_pure rfl (pv_assign rfl) ?_) | (refine is_cw ?_; first | (refine cw_seq ?_) | (refine cw_region ?_) | (refine cw_true rfl rfl ?_) | (refine cw_false rfl rfl ?_) | (refine cw_true rfl (by first | assumption | exact decide_eq_true (by omega) | exact dec_notT (by omega)) ?_) | (refine cw_false rfl (by first | assumption | exact decide_eq_false (by omega) | exact dec_notF (by omega)) ?_) | (refine cw_skip ?_) | (refine cw_ret ?_)) | (refine is_qw ?_; first | (with_reducible refine qw_then ?_) | (with_reducible refine qw_then_ret ?_)) | (refine lw_nil ?_) | ((refine is_bin ?_; first | (refine lw_pure rfl (pv_lss rfl rfl) ?_))) | ((refine is_load ?_; first | (refine lw_pure rfl (pv_load (t1 rfl) rfl (by first | fail)) ?_) | (refine lw_pure rfl (pv_loada (tA rfl) rfl (by first | fail) (by rfl)) ?_))) | ((refine is_ia ?_; first | (refine lw_pure rfl (pv_ian (tS rfl) rfl rfl (by omega)) ?_) | (refine lw_pure rfl (pv_ia (tS rfl) rfl rfl (by omega)) ?_))) | ((refine is_bd ?_; first | (refine lw_pure rfl (tyB_53 rfl rfl rfl) ?_))))
    refine lw_storea (vs := encL lZ) H (tZ rfl) rfl rfl rfl rfl (encL_one _) ?_; intro w3 H2 hg hz
    replace hE := hE.grown hg (by intro q hq; injection hq with hq; omega)
    have hw := Below.refl w3.heap.size w3
    repeat' (first | (refine lw_pure rfl (pv_move rfl) ?_) | (refine lw_pure rfl (pv_assign rfl) ?_) | (refine is_cw ?_; first | (refine cw_seq ?_) | (refine cw_region ?_) | (refine cw_true rfl rfl ?_) | (refine cw_false rfl rfl ?_) | (refine cw_true rfl (by first | assumption | exact decide_eq_true (by omega) | exact dec_notT (by omega)) ?_) | (refine cw_false rfl (by first | assumption | exact decide_eq_false (by omega) | exact dec_notF (by omega)) ?_) | (refine cw_skip ?_) | (refine cw_ret ?_)) | (refine is_qw ?_; first | (with_reducible refine qw_then ?_) | (with_reducible refine qw_then_ret ?_)) | (refine lw_nil ?_) | ((refine is_bin ?_; first | (refine lw_pure rfl (pv_lss rfl rfl) ?_))) | ((refine is_load ?_; first | (refine lw_pure rfl (pv_load (t1 rfl) rfl (by first | fail)) ?_) | (refine lw_pure rfl (pv_loada (tA rfl) rfl (by first | fail) (by rfl)) ?_))) | ((refine is_ia ?_; first | (refine lw_pure rfl (pv_ian (tS rfl) rfl rfl (by omega)) ?_) | (refine lw_pure rfl (pv_ia (tS rfl) rfl rfl (by omega)) ?_))) | ((refine is_bd ?_; first | (refine lw_pure rfl (tyB_53 rfl rfl rfl) ?_))))
    exact qw_retct rfl rfl rfl (agg_ld (tA rfl) rfl (fun i u hu => H2.ld0 hu)) ⟨rfl, hE.b⟩
  · have hf : findT p id = some r := find_at hxk hr hn
    have hlt : k < p.length := (List.getElem?_eq_some_iff.1 hxk).1
    obtain ⟨ab, ao, rfl, -, -⟩ := HP.at (by intro h; rw [h] at hlt; simp at hlt)
    rw [hf]
    repeat' (first | (refine lw_pure rfl (pv_move rfl) ?_) | (refine lw_pure rfl (pv_assign rfl) ?_) | (refine is_cw ?_; first | (refine cw_seq ?_) | (refine cw_region ?_) | (refine cw_true rfl rfl ?_) | (refine cw_false rfl rfl ?_) | (refine cw_true rfl (by first | assumption | exact decide_eq_true (by omega) | exact dec_notT (by omega)) ?_) | (refine cw_false rfl (by first | assumption | exact decide_eq_false (by omega) | exact dec_notF (by omega)) ?_) | (refine cw_skip ?_) | (refine cw_ret ?_)) | (refine is_qw ?_; first | (with_reducible refine qw_then ?_) | (with_reducible refine qw_then_ret ?_)) | (refine lw_nil ?_) | ((refine is_bin ?_; first | (refine lw_pure rfl (pv_lss rfl rfl) ?_))) | ((refine is_load ?_; first | (refine lw_pure rfl (pv_load (t1 rfl) rfl (by first | exact SlR.ld (HP.mono hw) hxk rfl | exact SlR.ld1 (HP.mono hw) hxk rfl)) ?_) | (refine lw_pure rfl (pv_loada (tA rfl) rfl (by first | exact SlR.lda (HP.mono hw) hxk) (by rfl)) ?_))) | ((refine is_ia ?_; first | (refine lw_pure rfl (pv_ian (tS rfl) rfl rfl (by omega)) ?_) | (refine lw_pure rfl (pv_ia (tS rfl) rfl rfl (by omega)) ?_))) | ((refine is_bd ?_; first | (refine lw_pure rfl (tyB_53 rfl rfl rfl) ?_))))
    refine lw_storea (vs := encL r) (H.mono hw) (tZ rfl) rfl rfl rfl rfl (encL_one _) ?_; intro w3 H2 hg hz
    replace hE := (hE.mono hw).grown hg (by intro q hq; injection hq with hq; omega)
    clear hw
    have hw := Below.refl w3.heap.size w3
    repeat' (first | (refine lw_pure rfl (pv_move rfl) ?_) | (refine lw_pure rfl (pv_assign rfl) ?_) | (refine is_cw ?_; first | (refine cw_seq ?_) | (refine cw_region ?_) | (refine cw_true rfl rfl ?_) | (refine cw_false rfl rfl ?_) | (refine cw_true rfl (by first | assumption | exact decide_eq_true (by omega) | exact dec_notT (by omega)) ?_) | (refine cw_false rfl (by first | assumption | exact decide_eq_false (by omega) | exact dec_notF (by omega)) ?_) | (refine cw_skip ?_) | (refine cw_ret ?_)) | (refine is_qw ?_; first | (with_reducible refine qw_then ?_) | (with_reducible refine qw_then_ret ?_)) | (refine lw_nil ?_) | ((refine is_bin ?_; first | (refine lw_pure rfl (pv_lss rfl rfl) ?_))) | ((refine is_load ?_; first | (refine lw_pure rfl (pv_load (t1 rfl) rfl (by first | fail)) ?_) | (refine lw_pure rfl (pv_loada (tA rfl) rfl (by first | fail) (by rfl)) ?_))) | ((refine is_ia ?_; first | (refine lw_pure rfl (pv_ian (tS rfl) rfl rfl (by omega)) ?_) | (refine lw_pure rfl (pv_ia (tS rfl) rfl rfl (by omega)) ?_))) | ((refine is_bd ?_; first | (refine lw_pure rfl (tyB_53 rfl rfl rfl) ?_))))
    exact qw_retct rfl rfl rfl (agg_ld (tA rfl) rfl (fun i u hu => H2.ld0 hu)) ⟨rfl, hE.b⟩
end Go.Proofs.YtemngicaoacfaaaGreatDoor
