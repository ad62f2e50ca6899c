/-
  Part 1 of the texts of: OrdersNames: its row and its card: whatever the input: true; the input reads as it did. Conditions: what the row prints (the table of functions reads as the program's text lays it).
-/
import Derived.Test.YtkehmbgcglbffaaDoorZR0
import Derived.Deep.RegionLaw
import Derived.Shelf.SlSortCmp.WholeK
import Derived.Shelf.SlSortCmp.NoneTotal
import Derived.Shelf.SortG.Plain
import Derived.Shelf.SortG.SortNone
import Derived.Shelf.SlicesG.CompactI
import Derived.Shelf.SlGeneric
import Derived.Ground.SlsfProg
import Derived.Ground.SlgnProg
import Derived.Test.YtkehmbgcglbffaaDoorProg
import Derived.Sort.OwnSortedInts
import Derived.Test.YtkehmbgcglbffaaDoorRows
import Derived.ProofKit
import Derived.OpenShut
import Derived.ChangeArms
import Derived.FnData
import Derived.LaidMore
import Derived.LaidOnce
import Derived.LaidHandle
import Derived.Laws.IdiomArrays
namespace Go.Proofs.YtkehmbgcglbffaaDoor
open Go.RowKit Go.PlainAid

theorem name_no {s : ByteArray} {k : Nat} (hk : k < s.size) (h : okC (bt s k) = false) : nameR s = false := by
  have : (bytesI s).all okC = false := by rw [List.all_eq_false]; exact ⟨_, bt_mem hk, by simp [h]⟩
  simp [nameR, this]
theorem name_len {s : ByteArray} (h : ¬ (1 ≤ s.size ∧ s.size ≤ 24)) : nameR s = false := by
  unfold nameR; rw [decide_eq_false h]; rfl
theorem name_yes {s : ByteArray} (h : ∀ j, j < s.size → okC (bt s j) = true) (hl : 1 ≤ s.size ∧ s.size ≤ 24) : nameR s = true := by
  have := bytes_all s okC (Nat.le_refl _) h
  rw [List.take_of_length_le (by rw [bytesI_len]; omega)] at this
  simp [nameR, this, hl]
theorem name_all {s : ByteArray} (h : ∀ j, j < s.size → okC (bt s j) = true) : nameR s = decide (1 ≤ s.size ∧ s.size ≤ 24) := by
  by_cases hl : 1 ≤ s.size ∧ s.size ≤ 24
  · rw [name_yes h hl, decide_eq_true hl]
  · rw [name_len hl, decide_eq_false hl]
theorem ok_t {c : Int} (h : (97 ≤ c ∧ c ≤ 122) ∨ (48 ≤ c ∧ c ≤ 57) ∨ c = 45 ∨ c = 95) : okC c = true := decide_eq_true h
theorem ok_f {c : Int} (h : ¬ ((97 ≤ c ∧ c ≤ 122) ∨ (48 ≤ c ∧ c ≤ 57) ∨ c = 45 ∨ c = 95)) : okC c = false := decide_eq_false h
set_option maxRecDepth 20000 in
set_option maxHeartbeats 4000000 in
theorem name_c (s : ByteArray) (hs : s.size ≤ 9223372036854775806) (w : World) : Calls Tryd.prog 29 #[.string s] w fun e w' => e = .returned (.bool (nameR s)) ∧ Below w.heap.size w w' := by
  have hw := Below.refl w.heap.size w
  refine fn_enter 43 Tryd.func29 rfl rfl rfl ?_
  repeat' (first | (refine lw_pure rfl (pv_move rfl) ?_) | (refine lw_pure rfl (pv_assign rfl) ?_) | (refine is_cw ?_; first | (refine cw_seq ?_) | (refine cw_region ?_) | (refine cw_true rfl rfl ?_) | (refine cw_false rfl rfl ?_) | (refine is_cd ?_; refine cw_true rfl (by first | assumption | exact decide_eq_true (by omega) | exact dec_notT (by omega)) ?_) | (refine is_cd ?_; refine cw_false rfl (by first | assumption | exact decide_eq_false (by omega) | exact dec_notF (by omega)) ?_) | (refine cw_skip ?_) | (refine cw_block ?_) | (refine cw_exit ?_) | (refine cw_ret ?_)) | (refine is_qw ?_; first | (with_reducible refine qw_then ?_) | (with_reducible refine qw_in ?_) | (with_reducible refine qw_in_hit ?_) | (refine qw_in_miss rfl ?_) | (with_reducible refine qw_then_exit ?_) | (with_reducible refine qw_then_ret ?_) | (with_reducible refine qw_in_ret ?_)) | (refine lw_nil ?_) | (refine is_guarded ?_; first | (refine lw_not rfl rfl rfl rfl ?_) | (refine lw_not_u rfl rfl rfl ?_) | (refine lw_on rfl rfl rfl ?_)) | ((refine is_bin ?_; first | (refine lw_pure rfl (pv_lss rfl rfl) ?_) | (refine lw_pure rfl (pv_neq rfl rfl) ?_) | (refine lw_pure rfl (pv_leq rfl rfl) ?_) | (refine lw_pure rfl (pv_gtr rfl rfl) ?_) | (refine lw_pure rfl (pv_geq rfl rfl) ?_) | (refine lw_pure rfl (pv_inc rfl rfl (by omega)) ?_) | (refine lw_pure rfl (pv_add rfl rfl (by omega)) ?_))) | ((refine is_load ?_; first | (refine lw_pure rfl (pv_load (t1 rfl) rfl (by first | fail)) ?_) | (refine lw_pure rfl (pv_loada (tA rfl) rfl (by first | fail) (by rfl)) ?_))) | ((refine is_ia ?_; first | (refine lw_pure rfl (pv_ian (tS rfl) rfl rfl (by omega)) ?_) | (refine lw_pure rfl (pv_ia (tS rfl) rfl rfl (by omega)) ?_))) | ((refine is_bi ?_; first | (refine lw_pure rfl (pv_lenl (tS rfl) rfl) ?_) | (refine lw_pure rfl (pv_lens (tStr rfl) rfl) ?_))) | (refine is_pk ?_; refine lw_pure rfl (pv_pick_t rfl rfl rfl) ?_) | (refine is_pk ?_; refine lw_pure rfl (pv_pick_f rfl rfl rfl) ?_) | (refine is_pk ?_; refine lw_pure rfl (pv_pick_t rfl (by first | assumption | exact decide_eq_true (by omega) | exact dec_notT (by omega)) rfl) ?_) | (refine is_pk ?_; refine lw_pure rfl (pv_pick_f rfl (by first | assumption | exact decide_eq_false (by omega) | exact dec_notF (by omega)) rfl) ?_) | (refine is_pk ?_; refine lw_pure rfl (pv_pick rfl rfl rfl) ?_) | (refine is_cv ?_; refine lw_pure rfl (pv_conv (tCv rfl rfl) rfl (by omega)) ?_))
  refine lw_s2b (tStr rfl) Tryd.underlying87 Tryd.underlying5 rfl rfl ?_; intro N c w1 hC hN hb
  replace hw := grow_trans hw hb
  clear hb
  have hE := Ext.mk hw
  clear hw
  have hw := Below.refl w1.heap.size w1
  repeat' (first | (refine lw_pure rfl (pv_move rfl) ?_) | (refine lw_pure rfl (pv_assign rfl) ?_) | (refine is_cw ?_; first | (refine cw_seq ?_) | (refine cw_region ?_) | (refine cw_true rfl rfl ?_) | (refine cw_false rfl rfl ?_) | (refine is_cd ?_; refine cw_true rfl (by first | assumption | exact decide_eq_true (by omega) | exact dec_notT (by omega)) ?_) | (refine is_cd ?_; refine cw_false rfl (by first | assumption | exact decide_eq_false (by omega) | exact dec_notF (by omega)) ?_) | (refine cw_skip ?_) | (refine cw_block ?_) | (refine cw_exit ?_) | (refine cw_ret ?_)) | (refine is_qw ?_; first | (with_reducible refine qw_then ?_) | (with_reducible refine qw_in ?_) | (with_reducible refine qw_in_hit ?_) | (refine qw_in_miss rfl ?_) | (with_reducible refine qw_then_exit ?_) | (with_reducible refine qw_then_ret ?_) | (with_reducible refine qw_in_ret ?_)) | (refine lw_nil ?_) | (refine is_guarded ?_; first | (refine lw_not rfl rfl rfl rfl ?_) | (refine lw_not_u rfl rfl rfl ?_) | (refine lw_on rfl rfl rfl ?_)) | ((refine is_bin ?_; first | (refine lw_pure rfl (pv_lss rfl rfl) ?_) | (refine lw_pure rfl (pv_neq rfl rfl) ?_) | (refine lw_pure rfl (pv_leq rfl rfl) ?_) | (refine lw_pure rfl (pv_gtr rfl rfl) ?_) | (refine lw_pure rfl (pv_geq rfl rfl) ?_) | (refine lw_pure rfl (pv_inc rfl rfl (by omega)) ?_) | (refine lw_pure rfl (pv_add rfl rfl (by omega)) ?_))) | ((refine is_load ?_; first | (refine lw_pure rfl (pv_load (t1 rfl) rfl (by first | fail)) ?_) | (refine lw_pure rfl (pv_loada (tA rfl) rfl (by first | fail) (by rfl)) ?_))) | ((refine is_ia ?_; first | (refine lw_pure rfl (pv_ian (tS rfl) rfl rfl (by omega)) ?_) | (refine lw_pure rfl (pv_ia (tS rfl) rfl rfl (by omega)) ?_))) | ((refine is_bi ?_; first | (refine lw_pure rfl (pv_lenl (tS rfl) rfl) ?_) | (refine lw_pure rfl (pv_lens (tStr rfl) rfl) ?_))) | (refine is_pk ?_; refine lw_pure rfl (pv_pick_t rfl rfl rfl) ?_) | (refine is_pk ?_; refine lw_pure rfl (pv_pick_f rfl rfl rfl) ?_) | (refine is_pk ?_; refine lw_pure rfl (pv_pick_t rfl (by first | assumption | exact decide_eq_true (by omega) | exact dec_notT (by omega)) rfl) ?_) | (refine is_pk ?_; refine lw_pure rfl (pv_pick_f rfl (by first | assumption | exact decide_eq_false (by omega) | exact dec_notF (by omega)) rfl) ?_) | (refine is_pk ?_; refine lw_pure rfl (pv_pick rfl rfl rfl) ?_) | (refine is_cv ?_; refine lw_pure rfl (pv_conv (tCv rfl rfl) rfl (by omega)) ?_))
  refine cw_loop (σ := Nat) (fun k => [(0, .string s), (6, .slice (some ⟨N, 0, none⟩) s.size c), (7, .int .i64 (s.size : Nat)), (8, .int .i64 (k : Nat))]) (fun k wr => k ≤ s.size ∧ Below w1.heap.size w1 wr ∧ ∀ j, j < k → okC (bt s j) = true) (fun k => s.size - k) 0 (by repeat' (first | exact trivial | refine ⟨rfl, ?_⟩)) ⟨Nat.zero_le _, hw, by omega⟩ ?_
  clear hw
  rintro k wr ⟨hk, hw, hn⟩
  by_cases hlt : k < s.size
  · have hld : wr.cell? ⟨N, 0 + k * 1, none⟩ = some (.int .u8 (bt s k)) := by
      rw [show 0 + k * 1 = k by omega]
      exact (hw.cell (p := ⟨N, k, none⟩) hN).trans (hC k hlt)
    have hbd := bytesI_bd s _ (bt_mem hlt)
    repeat' (first | (refine lw_pure rfl (pv_move rfl) ?_) | (refine lw_pure rfl (pv_assign rfl) ?_) | (refine lw_pure rfl (pv_load (t1 rfl) rfl hld) ?_) | (refine is_cw ?_; first | (refine cw_seq ?_) | (refine cw_region ?_) | (refine cw_true rfl rfl ?_) | (refine cw_false rfl rfl ?_) | (refine is_cd ?_; refine cw_true rfl (by first | assumption | exact decide_eq_true (by omega) | exact dec_notT (by omega)) ?_) | (refine is_cd ?_; refine cw_false rfl (by first | assumption | exact decide_eq_false (by omega) | exact dec_notF (by omega)) ?_) | (refine cw_skip ?_) | (refine cw_block ?_) | (refine cw_exit ?_) | (refine cw_ret ?_)) | (refine is_qw ?_; first | (with_reducible refine qw_then ?_) | (with_reducible refine qw_in ?_) | (with_reducible refine qw_in_hit ?_) | (refine qw_in_miss rfl ?_) | (with_reducible refine qw_then_exit ?_) | (with_reducible refine qw_then_ret ?_) | (with_reducible refine qw_in_ret ?_)) | (refine lw_nil ?_) | (refine is_guarded ?_; first | (refine lw_not rfl rfl rfl rfl ?_) | (refine lw_not_u rfl rfl rfl ?_) | (refine lw_on rfl rfl rfl ?_) | (refine lw_on rfl rfl (by first | assumption | exact decide_eq_true (by omega) | exact decide_eq_false (by omega) | exact dec_notT (by omega) | exact dec_notF (by omega)) ?_) | (refine lw_not rfl rfl rfl (by first | assumption | exact decide_eq_true (by omega) | exact decide_eq_false (by omega) | exact dec_notT (by omega) | exact dec_notF (by omega)) ?_) | (refine lw_gs_t rfl rfl rfl (fun hc => ?_) (fun hc => ?_) <;> (first | replace hc := of_decide_eq_true hc | replace hc := of_decide_eq_false hc | replace hc := dec_nT hc | replace hc := dec_nF hc | skip) <;> (try (exfalso; omega))) | (refine lw_gs_f rfl rfl rfl (fun hc => ?_) (fun hc => ?_) <;> (first | replace hc := of_decide_eq_true hc | replace hc := of_decide_eq_false hc | replace hc := dec_nT hc | replace hc := dec_nF hc | skip) <;> (try (exfalso; omega)))) | ((refine is_bin ?_; first | (refine lw_pure rfl (pv_lss rfl rfl) ?_) | (refine lw_pure rfl (pv_neq rfl rfl) ?_) | (refine lw_pure rfl (pv_leq rfl rfl) ?_) | (refine lw_pure rfl (pv_gtr rfl rfl) ?_) | (refine lw_pure rfl (pv_geq rfl rfl) ?_) | (refine lw_pure rfl (pv_inc rfl rfl (by omega)) ?_) | (refine lw_pure rfl (pv_add rfl rfl (by omega)) ?_))) | ((refine is_load ?_; first | (refine lw_pure rfl (pv_load (t1 rfl) rfl (by first | fail)) ?_) | (refine lw_pure rfl (pv_loada (tA rfl) rfl (by first | fail) (by rfl)) ?_))) | ((refine is_ia ?_; first | (refine lw_pure rfl (pv_ian (tS rfl) rfl rfl (by omega)) ?_) | (refine lw_pure rfl (pv_ia (tS rfl) rfl rfl (by omega)) ?_))) | ((refine is_bi ?_; first | (refine lw_pure rfl (pv_lenl (tS rfl) rfl) ?_) | (refine lw_pure rfl (pv_lens (tStr rfl) rfl) ?_))) | (refine is_pk ?_; refine lw_pure rfl (pv_pick_t rfl rfl rfl) ?_) | (refine is_pk ?_; refine lw_pure rfl (pv_pick_f rfl rfl rfl) ?_) | (refine is_pk ?_; refine lw_pure rfl (pv_pick_t rfl (by first | assumption | exact decide_eq_true (by omega) | exact dec_notT (by omega)) rfl) ?_) | (refine is_pk ?_; refine lw_pure rfl (pv_pick_f rfl (by first | assumption | exact decide_eq_false (by omega) | exact dec_notF (by omega)) rfl) ?_) | (refine is_pk ?_; refine lw_pure rfl (pv_pick rfl rfl rfl) ?_) | (refine is_cv ?_; refine lw_pure rfl (pv_conv (tCv rfl rfl) rfl (by omega)) ?_) | (refine is_cw ?_; refine cw_split rfl (fun hc => ?_) (fun hc => ?_) <;> (first | replace hc := of_decide_eq_true hc | replace hc := of_decide_eq_false hc | replace hc := dec_nT hc | replace hc := dec_nF hc | skip) <;> (try (exfalso; omega))))
    all_goals first | (refine qw_round (k + 1) (by repeat' (first | exact trivial | refine ⟨rfl, ?_⟩)) ⟨by omega, hw, ?_⟩ (by omega); intro j hj; (by_cases hjk : j = k); (subst hjk; exact ok_t (by omega)); exact hn j (by omega)) | (refine qw_ret1 rfl rfl ⟨ret_bool (name_no hlt (ok_f ?_)).symm, (hE.mono hw).b⟩; omega)
  · have hkl : k = s.size := by omega
    subst hkl
    replace hw := (hE.mono hw).b
    repeat' (first | (refine lw_pure rfl (pv_move rfl) ?_) | (refine lw_pure rfl (pv_assign rfl) ?_) | (refine is_cw ?_; first | (refine cw_seq ?_) | (refine cw_region ?_) | (refine cw_true rfl rfl ?_) | (refine cw_false rfl rfl ?_) | (refine is_cd ?_; refine cw_true rfl (by first | assumption | exact decide_eq_true (by omega) | exact dec_notT (by omega)) ?_) | (refine is_cd ?_; refine cw_false rfl (by first | assumption | exact decide_eq_false (by omega) | exact dec_notF (by omega)) ?_) | (refine cw_skip ?_) | (refine cw_block ?_) | (refine cw_exit ?_) | (refine cw_ret ?_)) | (refine is_qw ?_; first | (with_reducible refine qw_then ?_) | (with_reducible refine qw_in ?_) | (with_reducible refine qw_in_hit ?_) | (refine qw_in_miss rfl ?_) | (with_reducible refine qw_then_exit ?_) | (with_reducible refine qw_then_ret ?_) | (with_reducible refine qw_in_ret ?_)) | (refine lw_nil ?_) | (refine is_guarded ?_; first | (refine lw_not rfl rfl rfl rfl ?_) | (refine lw_not_u rfl rfl rfl ?_) | (refine lw_on rfl rfl rfl ?_) | (refine lw_on rfl rfl (by first | assumption | exact decide_eq_true (by omega) | exact decide_eq_false (by omega) | exact dec_notT (by omega) | exact dec_notF (by omega)) ?_) | (refine lw_not rfl rfl rfl (by first | assumption | exact decide_eq_true (by omega) | exact decide_eq_false (by omega) | exact dec_notT (by omega) | exact dec_notF (by omega)) ?_) | (refine lw_gs_t rfl rfl rfl (fun hc => ?_) (fun hc => ?_) <;> (first | replace hc := of_decide_eq_true hc | replace hc := of_decide_eq_false hc | replace hc := dec_nT hc | replace hc := dec_nF hc | skip) <;> (try (exfalso; omega))) | (refine lw_gs_f rfl rfl rfl (fun hc => ?_) (fun hc => ?_) <;> (first | replace hc := of_decide_eq_true hc | replace hc := of_decide_eq_false hc | replace hc := dec_nT hc | replace hc := dec_nF hc | skip) <;> (try (exfalso; omega)))) | ((refine is_bin ?_; first | (refine lw_pure rfl (pv_lss rfl rfl) ?_) | (refine lw_pure rfl (pv_neq rfl rfl) ?_) | (refine lw_pure rfl (pv_leq rfl rfl) ?_) | (refine lw_pure rfl (pv_gtr rfl rfl) ?_) | (refine lw_pure rfl (pv_geq rfl rfl) ?_) | (refine lw_pure rfl (pv_inc rfl rfl (by omega)) ?_) | (refine lw_pure rfl (pv_add rfl rfl (by omega)) ?_))) | ((refine is_load ?_; first | (refine lw_pure rfl (pv_load (t1 rfl) rfl (by first | fail)) ?_) | (refine lw_pure rfl (pv_loada (tA rfl) rfl (by first | fail) (by rfl)) ?_))) | ((refine is_ia ?_; first | (refine lw_pure rfl (pv_ian (tS rfl) rfl rfl (by omega)) ?_) | (refine lw_pure rfl (pv_ia (tS rfl) rfl rfl (by omega)) ?_))) | ((refine is_bi ?_; first | (refine lw_pure rfl (pv_lenl (tS rfl) rfl) ?_) | (refine lw_pure rfl (pv_lens (tStr rfl) rfl) ?_))) | (refine is_pk ?_; refine lw_pure rfl (pv_pick_t rfl rfl rfl) ?_) | (refine is_pk ?_; refine lw_pure rfl (pv_pick_f rfl rfl rfl) ?_) | (refine is_pk ?_; refine lw_pure rfl (pv_pick_t rfl (by first | assumption | exact decide_eq_true (by omega) | exact dec_notT (by omega)) rfl) ?_) | (refine is_pk ?_; refine lw_pure rfl (pv_pick_f rfl (by first | assumption | exact decide_eq_false (by omega) | exact dec_notF (by omega)) rfl) ?_) | (refine is_pk ?_; refine lw_pure rfl (pv_pick rfl rfl rfl) ?_) | (refine is_cv ?_; refine lw_pure rfl (pv_conv (tCv rfl rfl) rfl (by omega)) ?_) | (refine is_cw ?_; refine cw_split rfl (fun hc => ?_) (fun hc => ?_) <;> (first | replace hc := of_decide_eq_true hc | replace hc := of_decide_eq_false hc | replace hc := dec_nT hc | replace hc := dec_nF hc | skip) <;> (try (exfalso; omega))))
    all_goals (refine qw_ret1 rfl rfl ⟨ret_bool ?_, hw⟩; rw [name_all hn]; first | (rw [decide_eq_decide]; omega) | (symm; rw [decide_eq_false_iff_not]; omega))
theorem may_none {e : Evt} (h : fieldsR e.v e.kind = none) : mayE e = false := by unfold mayE; rw [h]
theorem may_some {e : Evt} {p : ByteArray × Bool} (h : fieldsR e.v e.kind = some p) : mayE e = (allR e.v (bytesI p.1) e.nums && textsR p.2 e.texts) := by unfold mayE; rw [h]
theorem may_all {e : Evt} {p : ByteArray × Bool} (h : fieldsR e.v e.kind = some p) (ha : allR e.v (bytesI p.1) e.nums = false) : mayE e = false := by rw [may_some h, ha]; rfl
theorem may_txt {e : Evt} {p : ByteArray × Bool} (h : fieldsR e.v e.kind = some p) (ha : allR e.v (bytesI p.1) e.nums = true) : mayE e = textsR p.2 e.texts := by rw [may_some h, ha]; rfl
theorem txt_one {x : ByteArray} {l : List ByteArray} (h : l[0]? = some x) (hl : l.length = 1) : textsR true l = nameR x := by
  match l, hl with
  | [y], _ => simp at h; subst h; rfl
theorem txt_not {l : List ByteArray} (hl : l.length ≠ 1) : textsR true l = false := by
  match l with
  | [] => rfl
  | [y] => exact absurd rfl hl
  | _ :: _ :: _ => rfl
theorem fields_text {v k : Int} {p : ByteArray × Bool} (h : fieldsR v k = some p) : p.1.size ≤ 100 := by
  have := field_small k v
  unfold fieldsR at h
  (repeat' split at h) <;> first | (cases h; done) | (injection h with h; subst h; exact this)
def TxtIn (l : List ByteArray) : Prop := ∀ x ∈ l, x.size ≤ 140737488355328
set_option maxRecDepth 20000 in
set_option maxHeartbeats 2000000 in
theorem mayE_c {e : Evt} {m n : Nat} {a b : Option Addr} {ca cb : Nat} {w : World} (h8 : 0 ≤ e.kind ∧ e.kind ≤ 255) (hm : e.nums.length = m) (hn : e.texts.length = n) (HN : SlR encI 1 w a ca e.nums) (HT : SlR encT 1 w b cb e.texts) (hT : TxtIn e.texts) (hK : KnW w) : Calls Tryd.prog 13 #[.agg #[.int .u8 e.v, .int .u8 e.kind, .slice a m ca, .slice b n cb]] w fun e1 w' => e1 = .returned (.bool (mayE e)) ∧ Below w.heap.size w w' := by
  subst hm hn
  have hw := Below.refl w.heap.size w
  have hcb := HT.le
  have hcm := HT.max
  refine fn_enter 42 Tryd.func13 rfl rfl rfl ?_
  repeat' (first | (refine lw_pure rfl (pv_move rfl) ?_) | (refine lw_pure rfl (pv_assign rfl) ?_) | (refine is_cw ?_; first | (refine cw_seq ?_) | (refine cw_region ?_) | (refine cw_true rfl rfl ?_) | (refine cw_false rfl rfl ?_) | (refine is_cd ?_; refine cw_true rfl (by first | assumption | exact decide_eq_true (by omega) | exact dec_notT (by omega)) ?_) | (refine is_cd ?_; refine cw_false rfl (by first | assumption | exact decide_eq_false (by omega) | exact dec_notF (by omega)) ?_) | (refine cw_skip ?_) | (refine cw_ret ?_)) | (refine is_qw ?_; first | (with_reducible refine qw_then ?_) | (with_reducible refine qw_then_ret ?_)) | (refine lw_nil ?_) | (refine is_guarded ?_; first | (refine lw_not rfl rfl rfl rfl ?_) | (refine lw_not_u rfl rfl rfl ?_) | (refine lw_on rfl rfl rfl ?_)) | ((refine is_bin ?_; first | (refine lw_pure rfl (pv_eql rfl rfl) ?_))) | ((refine is_load ?_; first | (refine lw_pure rfl (pv_load (t1 rfl) rfl (by first | fail)) ?_) | (refine lw_pure rfl (pv_loada (tA rfl) rfl (by first | fail) (by rfl)) ?_))) | ((refine is_fa ?_; first | (refine lw_pure rfl (pv_fa (tF rfl) rfl) ?_))) | ((refine is_ia ?_; first | (refine lw_pure rfl (pv_ian (tS rfl) rfl rfl (by omega)) ?_) | (refine lw_pure rfl (pv_ia (tS rfl) rfl rfl (by omega)) ?_))) | ((refine is_un ?_; first | (refine lw_pure rfl (pv_not rfl) ?_))) | ((refine is_bi ?_; first | (refine lw_pure rfl (pv_lenl (tS rfl) rfl) ?_) | (refine lw_pure rfl (pv_lens (tStr rfl) rfl) ?_))) | (refine is_pk ?_; refine lw_pure rfl (pv_pick_t rfl rfl rfl) ?_) | (refine is_pk ?_; refine lw_pure rfl (pv_pick_f rfl rfl rfl) ?_) | (refine is_pk ?_; refine lw_pure rfl (pv_pick_t rfl (by first | assumption | exact decide_eq_true (by omega) | exact dec_notT (by omega)) rfl) ?_) | (refine is_pk ?_; refine lw_pure rfl (pv_pick_f rfl (by first | assumption | exact decide_eq_false (by omega) | exact dec_notF (by omega)) rfl) ?_) | (refine is_pk ?_; refine lw_pure rfl (pv_pick rfl rfl rfl) ?_) | (refine lw_pure rfl (pv_extract rfl rfl) ?_))
  refine lw_boxN rfl rfl (cs := [.int .u8 e.v, .int .u8 e.kind, .slice a e.nums.length ca, .slice b e.texts.length cb]) rfl ?_; intro N w1 hN H hb
  replace hw := grow_trans hw hb
  clear hb
  have hE := Ext.mk hw
  replace HN := HN.mono hw
  replace HT := HT.mono hw
  replace hK := hK.mono hw
  clear hw
  have hw := Below.refl w1.heap.size w1
  repeat' (first | (refine lw_pure rfl (pv_move rfl) ?_) | (refine lw_pure rfl (pv_assign rfl) ?_) | (refine is_cw ?_; first | (refine cw_seq ?_) | (refine cw_region ?_) | (refine cw_true rfl rfl ?_) | (refine cw_false rfl rfl ?_) | (refine is_cd ?_; refine cw_true rfl (by first | assumption | exact decide_eq_true (by omega) | exact dec_notT (by omega)) ?_) | (refine is_cd ?_; refine cw_false rfl (by first | assumption | exact decide_eq_false (by omega) | exact dec_notF (by omega)) ?_) | (refine cw_skip ?_) | (refine cw_ret ?_)) | (refine is_qw ?_; first | (with_reducible refine qw_then ?_) | (with_reducible refine qw_then_ret ?_)) | (refine lw_nil ?_) | (refine is_guarded ?_; first | (refine lw_not rfl rfl rfl rfl ?_) | (refine lw_not_u rfl rfl rfl ?_) | (refine lw_on rfl rfl rfl ?_)) | ((refine is_bin ?_; first | (refine lw_pure rfl (pv_eql rfl rfl) ?_))) | ((refine is_load ?_; first | (refine lw_pure rfl (pv_load (t1 rfl) rfl (by first | exact PT.ld0 (H.mono hw) rfl | exact PT.ld (H.mono hw) rfl)) ?_) | (refine lw_pure rfl (pv_loada (tA rfl) rfl (by first | exact PT.lda (H.mono hw)) (by rfl)) ?_))) | ((refine is_fa ?_; first | (refine lw_pure rfl (pv_fa (tF rfl) rfl) ?_))) | ((refine is_ia ?_; first | (refine lw_pure rfl (pv_ian (tS rfl) rfl rfl (by omega)) ?_) | (refine lw_pure rfl (pv_ia (tS rfl) rfl rfl (by omega)) ?_))) | ((refine is_un ?_; first | (refine lw_pure rfl (pv_not rfl) ?_))) | ((refine is_bi ?_; first | (refine lw_pure rfl (pv_lenl (tS rfl) rfl) ?_) | (refine lw_pure rfl (pv_lens (tStr rfl) rfl) ?_))) | (refine is_pk ?_; refine lw_pure rfl (pv_pick_t rfl rfl rfl) ?_) | (refine is_pk ?_; refine lw_pure rfl (pv_pick_f rfl rfl rfl) ?_) | (refine is_pk ?_; refine lw_pure rfl (pv_pick_t rfl (by first | assumption | exact decide_eq_true (by omega) | exact dec_notT (by omega)) rfl) ?_) | (refine is_pk ?_; refine lw_pure rfl (pv_pick_f rfl (by first | assumption | exact decide_eq_false (by omega) | exact dec_notF (by omega)) rfl) ?_) | (refine is_pk ?_; refine lw_pure rfl (pv_pick rfl rfl rfl) ?_) | (refine lw_pure rfl (pv_extract rfl rfl) ?_))
  refine lw_call (f := 27) (by kernel_rfl) rfl rfl (fields_c e.v e.kind h8 (hK.mono hw)) ?_; rintro e1 w2 ⟨⟨sv, rfl, hO⟩, hb⟩; refine ⟨_, rfl, ?_⟩
  replace hw := grow_trans hw hb
  cases hf : fieldsR e.v e.kind with
  | none =>
    rw [hf] at hO
    repeat' (first | (refine lw_pure rfl (pv_move rfl) ?_) | (refine lw_pure rfl (pv_assign rfl) ?_) | (refine is_cw ?_; first | (refine cw_seq ?_) | (refine cw_region ?_) | (refine cw_true rfl rfl ?_) | (refine cw_false rfl rfl ?_) | (refine is_cd ?_; refine cw_true rfl (by first | assumption | exact decide_eq_true (by omega) | exact dec_notT (by omega)) ?_) | (refine is_cd ?_; refine cw_false rfl (by first | assumption | exact decide_eq_false (by omega) | exact dec_notF (by omega)) ?_) | (refine cw_skip ?_) | (refine cw_ret ?_)) | (refine is_qw ?_; first | (with_reducible refine qw_then ?_) | (with_reducible refine qw_then_ret ?_)) | (refine lw_nil ?_) | (refine is_guarded ?_; first | (refine lw_not rfl rfl rfl rfl ?_) | (refine lw_not_u rfl rfl rfl ?_) | (refine lw_on rfl rfl rfl ?_)) | ((refine is_bin ?_; first | (refine lw_pure rfl (pv_eql rfl rfl) ?_))) | ((refine is_load ?_; first | (refine lw_pure rfl (pv_load (t1 rfl) rfl (by first | exact PT.ld0 (H.mono hw) rfl | exact PT.ld (H.mono hw) rfl)) ?_) | (refine lw_pure rfl (pv_loada (tA rfl) rfl (by first | exact PT.lda (H.mono hw)) (by rfl)) ?_))) | ((refine is_fa ?_; first | (refine lw_pure rfl (pv_fa (tF rfl) rfl) ?_))) | ((refine is_ia ?_; first | (refine lw_pure rfl (pv_ian (tS rfl) rfl rfl (by omega)) ?_) | (refine lw_pure rfl (pv_ia (tS rfl) rfl rfl (by omega)) ?_))) | ((refine is_un ?_; first | (refine lw_pure rfl (pv_not rfl) ?_))) | ((refine is_bi ?_; first | (refine lw_pure rfl (pv_lenl (tS rfl) rfl) ?_) | (refine lw_pure rfl (pv_lens (tStr rfl) rfl) ?_))) | (refine is_pk ?_; refine lw_pure rfl (pv_pick_t rfl rfl rfl) ?_) | (refine is_pk ?_; refine lw_pure rfl (pv_pick_f rfl rfl rfl) ?_) | (refine is_pk ?_; refine lw_pure rfl (pv_pick_t rfl (by first | assumption | exact decide_eq_true (by omega) | exact dec_notT (by omega)) rfl) ?_) | (refine is_pk ?_; refine lw_pure rfl (pv_pick_f rfl (by first | assumption | exact decide_eq_false (by omega) | exact dec_notF (by omega)) rfl) ?_) | (refine is_pk ?_; refine lw_pure rfl (pv_pick rfl rfl rfl) ?_) | (refine lw_pure rfl (pv_extract rfl rfl) ?_))
    exact qw_ret1 rfl rfl ⟨ret_bool (may_none hf).symm, (hE.mono hw).b⟩
  | some p =>
    obtain ⟨s, t⟩ := p
    rw [hf] at hO
    replace hO : Own encB 1 85 w1.heap.size w2 sv (bytesI s) := hO
    obtain ⟨fa, fc, rfl, hF, -⟩ := Own.slR encB_len hO
    show LW _ _ _ _ _ ((11, .tuple #[.slice fa (bytesI s).length fc, .bool t, .bool true]) :: _) _
    cases ha : allR e.v (bytesI s) e.nums with
    | false =>
      repeat' (first | (refine lw_pure rfl (pv_move rfl) ?_) | (refine lw_pure rfl (pv_assign rfl) ?_) | (refine lw_call (f := 28) (by kernel_rfl) rfl rfl (ha ▸ all_c e.v rfl rfl (hF.mono (Below.refl _ _)) (HN.mono hw)) ?_; rintro e w1 ⟨rfl, hb⟩; refine ⟨_, rfl, ?_⟩; replace hw := grow_trans hw hb; clear hb) | (refine is_cw ?_; first | (refine cw_seq ?_) | (refine cw_region ?_) | (refine cw_true rfl rfl ?_) | (refine cw_false rfl rfl ?_) | (refine is_cd ?_; refine cw_true rfl (by first | assumption | exact decide_eq_true (by omega) | exact dec_notT (by omega)) ?_) | (refine is_cd ?_; refine cw_false rfl (by first | assumption | exact decide_eq_false (by omega) | exact dec_notF (by omega)) ?_) | (refine cw_skip ?_) | (refine cw_ret ?_)) | (refine is_qw ?_; first | (with_reducible refine qw_then ?_) | (with_reducible refine qw_then_ret ?_)) | (refine lw_nil ?_) | (refine is_guarded ?_; first | (refine lw_not rfl rfl rfl rfl ?_) | (refine lw_not_u rfl rfl rfl ?_) | (refine lw_on rfl rfl rfl ?_)) | ((refine is_bin ?_; first | (refine lw_pure rfl (pv_eql rfl rfl) ?_))) | ((refine is_load ?_; first | (refine lw_pure rfl (pv_load (t1 rfl) rfl (by first | exact PT.ld0 (H.mono hw) rfl | exact PT.ld (H.mono hw) rfl)) ?_) | (refine lw_pure rfl (pv_loada (tA rfl) rfl (by first | exact PT.lda (H.mono hw)) (by rfl)) ?_))) | ((refine is_fa ?_; first | (refine lw_pure rfl (pv_fa (tF rfl) rfl) ?_))) | ((refine is_ia ?_; first | (refine lw_pure rfl (pv_ian (tS rfl) rfl rfl (by omega)) ?_) | (refine lw_pure rfl (pv_ia (tS rfl) rfl rfl (by omega)) ?_))) | ((refine is_un ?_; first | (refine lw_pure rfl (pv_not rfl) ?_))) | ((refine is_bi ?_; first | (refine lw_pure rfl (pv_lenl (tS rfl) rfl) ?_) | (refine lw_pure rfl (pv_lens (tStr rfl) rfl) ?_))) | (refine is_pk ?_; refine lw_pure rfl (pv_pick_t rfl rfl rfl) ?_) | (refine is_pk ?_; refine lw_pure rfl (pv_pick_f rfl rfl rfl) ?_) | (refine is_pk ?_; refine lw_pure rfl (pv_pick_t rfl (by first | assumption | exact decide_eq_true (by omega) | exact dec_notT (by omega)) rfl) ?_) | (refine is_pk ?_; refine lw_pure rfl (pv_pick_f rfl (by first | assumption | exact decide_eq_false (by omega) | exact dec_notF (by omega)) rfl) ?_) | (refine is_pk ?_; refine lw_pure rfl (pv_pick rfl rfl rfl) ?_) | (refine lw_pure rfl (pv_extract rfl rfl) ?_))
      exact qw_ret1 rfl rfl ⟨ret_bool (may_all hf ha).symm, (hE.mono hw).b⟩
    | true =>
      repeat' (first | (refine lw_pure rfl (pv_move rfl) ?_) | (refine lw_pure rfl (pv_assign rfl) ?_) | (refine lw_call (f := 28) (by kernel_rfl) rfl rfl (ha ▸ all_c e.v rfl rfl (hF.mono (Below.refl _ _)) (HN.mono hw)) ?_; rintro e w1 ⟨rfl, hb⟩; refine ⟨_, rfl, ?_⟩; replace hw := grow_trans hw hb; clear hb) | (refine is_cw ?_; first | (refine cw_seq ?_) | (refine cw_region ?_) | (refine cw_true rfl rfl ?_) | (refine cw_false rfl rfl ?_) | (refine is_cd ?_; refine cw_true rfl (by first | assumption | exact decide_eq_true (by omega) | exact dec_notT (by omega)) ?_) | (refine is_cd ?_; refine cw_false rfl (by first | assumption | exact decide_eq_false (by omega) | exact dec_notF (by omega)) ?_) | (refine cw_skip ?_) | (refine cw_ret ?_)) | (refine is_qw ?_; first | (with_reducible refine qw_then ?_) | (with_reducible refine qw_then_ret ?_)) | (refine lw_nil ?_) | (refine is_guarded ?_; first | (refine lw_not rfl rfl rfl rfl ?_) | (refine lw_not_u rfl rfl rfl ?_) | (refine lw_on rfl rfl rfl ?_)) | ((refine is_bin ?_; first | (refine lw_pure rfl (pv_eql rfl rfl) ?_))) | ((refine is_load ?_; first | (refine lw_pure rfl (pv_load (t1 rfl) rfl (by first | exact PT.ld0 (H.mono hw) rfl | exact PT.ld (H.mono hw) rfl)) ?_) | (refine lw_pure rfl (pv_loada (tA rfl) rfl (by first | exact PT.lda (H.mono hw)) (by rfl)) ?_))) | ((refine is_fa ?_; first | (refine lw_pure rfl (pv_fa (tF rfl) rfl) ?_))) | ((refine is_ia ?_; first | (refine lw_pure rfl (pv_ian (tS rfl) rfl rfl (by omega)) ?_) | (refine lw_pure rfl (pv_ia (tS rfl) rfl rfl (by omega)) ?_))) | ((refine is_un ?_; first | (refine lw_pure rfl (pv_not rfl) ?_))) | ((refine is_bi ?_; first | (refine lw_pure rfl (pv_lenl (tS rfl) rfl) ?_) | (refine lw_pure rfl (pv_lens (tStr rfl) rfl) ?_))) | (refine is_pk ?_; refine lw_pure rfl (pv_pick_t rfl rfl rfl) ?_) | (refine is_pk ?_; refine lw_pure rfl (pv_pick_f rfl rfl rfl) ?_) | (refine is_pk ?_; refine lw_pure rfl (pv_pick_t rfl (by first | assumption | exact decide_eq_true (by omega) | exact dec_notT (by omega)) rfl) ?_) | (refine is_pk ?_; refine lw_pure rfl (pv_pick_f rfl (by first | assumption | exact decide_eq_false (by omega) | exact dec_notF (by omega)) rfl) ?_) | (refine is_pk ?_; refine lw_pure rfl (pv_pick rfl rfl rfl) ?_) | (refine lw_pure rfl (pv_extract rfl rfl) ?_))
      have hmt := may_txt hf ha
      cases t with
      | false =>
        repeat' (first | (refine lw_pure rfl (pv_move rfl) ?_) | (refine lw_pure rfl (pv_assign rfl) ?_) | (refine is_cw ?_; first | (refine cw_seq ?_) | (refine cw_region ?_) | (refine cw_true rfl rfl ?_) | (refine cw_false rfl rfl ?_) | (refine is_cd ?_; refine cw_true rfl (by first | assumption | exact decide_eq_true (by omega) | exact dec_notT (by omega)) ?_) | (refine is_cd ?_; refine cw_false rfl (by first | assumption | exact decide_eq_false (by omega) | exact dec_notF (by omega)) ?_) | (refine cw_skip ?_) | (refine cw_ret ?_)) | (refine is_qw ?_; first | (with_reducible refine qw_then ?_) | (with_reducible refine qw_then_ret ?_)) | (refine lw_nil ?_) | (refine is_guarded ?_; first | (refine lw_not rfl rfl rfl rfl ?_) | (refine lw_not_u rfl rfl rfl ?_) | (refine lw_on rfl rfl rfl ?_)) | ((refine is_bin ?_; first | (refine lw_pure rfl (pv_eql rfl rfl) ?_))) | ((refine is_load ?_; first | (refine lw_pure rfl (pv_load (t1 rfl) rfl (by first | exact PT.ld0 (H.mono hw) rfl | exact PT.ld (H.mono hw) rfl)) ?_) | (refine lw_pure rfl (pv_loada (tA rfl) rfl (by first | exact PT.lda (H.mono hw)) (by rfl)) ?_))) | ((refine is_fa ?_; first | (refine lw_pure rfl (pv_fa (tF rfl) rfl) ?_))) | ((refine is_ia ?_; first | (refine lw_pure rfl (pv_ian (tS rfl) rfl rfl (by omega)) ?_) | (refine lw_pure rfl (pv_ia (tS rfl) rfl rfl (by omega)) ?_))) | ((refine is_un ?_; first | (refine lw_pure rfl (pv_not rfl) ?_))) | ((refine is_bi ?_; first | (refine lw_pure rfl (pv_lenl (tS rfl) rfl) ?_) | (refine lw_pure rfl (pv_lens (tStr rfl) rfl) ?_))) | (refine is_pk ?_; refine lw_pure rfl (pv_pick_t rfl rfl rfl) ?_) | (refine is_pk ?_; refine lw_pure rfl (pv_pick_f rfl rfl rfl) ?_) | (refine is_pk ?_; refine lw_pure rfl (pv_pick_t rfl (by first | assumption | exact decide_eq_true (by omega) | exact dec_notT (by omega)) rfl) ?_) | (refine is_pk ?_; refine lw_pure rfl (pv_pick_f rfl (by first | assumption | exact decide_eq_false (by omega) | exact dec_notF (by omega)) rfl) ?_) | (refine is_pk ?_; refine lw_pure rfl (pv_pick rfl rfl rfl) ?_) | (refine lw_pure rfl (pv_extract rfl rfl) ?_))
        exact qw_ret1 rfl rfl ⟨ret_bool (by rw [hmt]; simp [textsR]), (hE.mono hw).b⟩
      | true =>
        by_cases hl : e.texts.length = 1
        · have hx : e.texts[0]? = some (e.texts[0]'(by omega)) := List.getElem?_eq_getElem _
          have hxs := hT _ (List.getElem_mem (h := (by omega : 0 < e.texts.length)))
          obtain ⟨bb, bo, rfl, -, -⟩ := HT.at (by intro h; rw [h] at hl; simp at hl)
          generalize e.texts[0] = x at hx hxs
          rw [txt_one hx hl] at hmt
          repeat' (first | (refine lw_pure rfl (pv_move rfl) ?_) | (refine lw_pure rfl (pv_assign rfl) ?_) | (refine lw_call (f := 29) (by kernel_rfl) rfl rfl (name_c x (by omega) _) ?_; rintro e w1 ⟨rfl, hb⟩; refine ⟨_, rfl, ?_⟩; replace hw := grow_trans hw hb; clear hb) | (refine is_cw ?_; first | (refine cw_seq ?_) | (refine cw_region ?_) | (refine cw_true rfl rfl ?_) | (refine cw_false rfl rfl ?_) | (refine is_cd ?_; refine cw_true rfl (by first | assumption | exact decide_eq_true (by omega) | exact dec_notT (by omega)) ?_) | (refine is_cd ?_; refine cw_false rfl (by first | assumption | exact decide_eq_false (by omega) | exact dec_notF (by omega)) ?_) | (refine cw_skip ?_) | (refine cw_ret ?_)) | (refine is_qw ?_; first | (with_reducible refine qw_then ?_) | (with_reducible refine qw_then_ret ?_)) | (refine lw_nil ?_) | (refine is_guarded ?_; first | (refine lw_not rfl rfl rfl rfl ?_) | (refine lw_not_u rfl rfl rfl ?_) | (refine lw_on rfl rfl rfl ?_) | (refine lw_on rfl rfl (by first | assumption | exact decide_eq_true (by omega) | exact decide_eq_false (by omega) | exact dec_notT (by omega) | exact dec_notF (by omega)) ?_) | (refine lw_not rfl rfl rfl (by first | assumption | exact decide_eq_true (by omega) | exact decide_eq_false (by omega) | exact dec_notT (by omega) | exact dec_notF (by omega)) ?_) | (refine lw_gs_t rfl rfl rfl (fun hc => ?_) (fun hc => ?_) <;> (first | replace hc := of_decide_eq_true hc | replace hc := of_decide_eq_false hc | replace hc := dec_nT hc | replace hc := dec_nF hc | skip) <;> (try (exfalso; omega))) | (refine lw_gs_f rfl rfl rfl (fun hc => ?_) (fun hc => ?_) <;> (first | replace hc := of_decide_eq_true hc | replace hc := of_decide_eq_false hc | replace hc := dec_nT hc | replace hc := dec_nF hc | skip) <;> (try (exfalso; omega)))) | ((refine is_bin ?_; first | (refine lw_pure rfl (pv_eql rfl rfl) ?_))) | ((refine is_load ?_; first | (refine lw_pure rfl (pv_load (t1 rfl) rfl (by first | exact PT.ld0 (H.mono hw) rfl | exact PT.ld (H.mono hw) rfl | exact SlR.ld (HT.mono hw) hx rfl | exact SlR.ld1 (HT.mono hw) hx rfl)) ?_) | (refine lw_pure rfl (pv_loada (tA rfl) rfl (by first | exact PT.lda (H.mono hw) | exact SlR.lda (HT.mono hw) hx) (by rfl)) ?_))) | ((refine is_fa ?_; first | (refine lw_pure rfl (pv_fa (tF rfl) rfl) ?_))) | ((refine is_ia ?_; first | (refine lw_pure rfl (pv_ian (tS rfl) rfl rfl (by omega)) ?_) | (refine lw_pure rfl (pv_ia (tS rfl) rfl rfl (by omega)) ?_))) | ((refine is_un ?_; first | (refine lw_pure rfl (pv_not rfl) ?_))) | ((refine is_bi ?_; first | (refine lw_pure rfl (pv_lenl (tS rfl) rfl) ?_) | (refine lw_pure rfl (pv_lens (tStr rfl) rfl) ?_))) | (refine is_pk ?_; refine lw_pure rfl (pv_pick_t rfl rfl rfl) ?_) | (refine is_pk ?_; refine lw_pure rfl (pv_pick_f rfl rfl rfl) ?_) | (refine is_pk ?_; refine lw_pure rfl (pv_pick_t rfl (by first | assumption | exact decide_eq_true (by omega) | exact dec_notT (by omega)) rfl) ?_) | (refine is_pk ?_; refine lw_pure rfl (pv_pick_f rfl (by first | assumption | exact decide_eq_false (by omega) | exact dec_notF (by omega)) rfl) ?_) | (refine is_pk ?_; refine lw_pure rfl (pv_pick rfl rfl rfl) ?_) | (refine lw_pure rfl (pv_extract rfl rfl) ?_) | (refine is_cw ?_; refine cw_split rfl (fun hc => ?_) (fun hc => ?_) <;> (first | replace hc := of_decide_eq_true hc | replace hc := of_decide_eq_false hc | replace hc := dec_nT hc | replace hc := dec_nF hc | skip) <;> (try (exfalso; omega))))
          exact qw_ret1 rfl rfl ⟨ret_bool (by rw [hmt]), (hE.mono hw).b⟩
        · rw [txt_not hl] at hmt
          repeat' (first | (refine lw_pure rfl (pv_move rfl) ?_) | (refine lw_pure rfl (pv_assign rfl) ?_) | (refine is_cw ?_; first | (refine cw_seq ?_) | (refine cw_region ?_) | (refine cw_true rfl rfl ?_) | (refine cw_false rfl rfl ?_) | (refine is_cd ?_; refine cw_true rfl (by first | assumption | exact decide_eq_true (by omega) | exact dec_notT (by omega)) ?_) | (refine is_cd ?_; refine cw_false rfl (by first | assumption | exact decide_eq_false (by omega) | exact dec_notF (by omega)) ?_) | (refine cw_skip ?_) | (refine cw_ret ?_)) | (refine is_qw ?_; first | (with_reducible refine qw_then ?_) | (with_reducible refine qw_then_ret ?_)) | (refine lw_nil ?_) | (refine is_guarded ?_; first | (refine lw_not rfl rfl rfl rfl ?_) | (refine lw_not_u rfl rfl rfl ?_) | (refine lw_on rfl rfl rfl ?_) | (refine lw_on rfl rfl (by first | assumption | exact decide_eq_true (by omega) | exact decide_eq_false (by omega) | exact dec_notT (by omega) | exact dec_notF (by omega)) ?_) | (refine lw_not rfl rfl rfl (by first | assumption | exact decide_eq_true (by omega) | exact decide_eq_false (by omega) | exact dec_notT (by omega) | exact dec_notF (by omega)) ?_) | (refine lw_gs_t rfl rfl rfl (fun hc => ?_) (fun hc => ?_) <;> (first | replace hc := of_decide_eq_true hc | replace hc := of_decide_eq_false hc | replace hc := dec_nT hc | replace hc := dec_nF hc | skip) <;> (try (exfalso; omega))) | (refine lw_gs_f rfl rfl rfl (fun hc => ?_) (fun hc => ?_) <;> (first | replace hc := of_decide_eq_true hc | replace hc := of_decide_eq_false hc | replace hc := dec_nT hc | replace hc := dec_nF hc | skip) <;> (try (exfalso; omega)))) | ((refine is_bin ?_; first | (refine lw_pure rfl (pv_eql rfl rfl) ?_))) | ((refine is_load ?_; first | (refine lw_pure rfl (pv_load (t1 rfl) rfl (by first | exact PT.ld0 (H.mono hw) rfl | exact PT.ld (H.mono hw) rfl)) ?_) | (refine lw_pure rfl (pv_loada (tA rfl) rfl (by first | exact PT.lda (H.mono hw)) (by rfl)) ?_))) | ((refine is_fa ?_; first | (refine lw_pure rfl (pv_fa (tF rfl) rfl) ?_))) | ((refine is_ia ?_; first | (refine lw_pure rfl (pv_ian (tS rfl) rfl rfl (by omega)) ?_) | (refine lw_pure rfl (pv_ia (tS rfl) rfl rfl (by omega)) ?_))) | ((refine is_un ?_; first | (refine lw_pure rfl (pv_not rfl) ?_))) | ((refine is_bi ?_; first | (refine lw_pure rfl (pv_lenl (tS rfl) rfl) ?_) | (refine lw_pure rfl (pv_lens (tStr rfl) rfl) ?_))) | (refine is_pk ?_; refine lw_pure rfl (pv_pick_t rfl rfl rfl) ?_) | (refine is_pk ?_; refine lw_pure rfl (pv_pick_f rfl rfl rfl) ?_) | (refine is_pk ?_; refine lw_pure rfl (pv_pick_t rfl (by first | assumption | exact decide_eq_true (by omega) | exact dec_notT (by omega)) rfl) ?_) | (refine is_pk ?_; refine lw_pure rfl (pv_pick_f rfl (by first | assumption | exact decide_eq_false (by omega) | exact dec_notF (by omega)) rfl) ?_) | (refine is_pk ?_; refine lw_pure rfl (pv_pick rfl rfl rfl) ?_) | (refine lw_pure rfl (pv_extract rfl rfl) ?_) | (refine is_cw ?_; refine cw_split rfl (fun hc => ?_) (fun hc => ?_) <;> (first | replace hc := of_decide_eq_true hc | replace hc := of_decide_eq_false hc | replace hc := dec_nT hc | replace hc := dec_nF hc | skip) <;> (try (exfalso; omega))))
          exact qw_ret1 rfl rfl ⟨ret_bool (by rw [hmt]), (hE.mono hw).b⟩

structure Opn where
  acct : Int
  id : Int
  inst : Int
  side : Int
  price : Int
  left : Int
deriving DecidableEq, Inhabited
structure Lt where
  id : Int
  seller : Int
  inst : Int
  qty : Int
deriving DecidableEq, Inhabited
def encP (o : Opn) : List Value := [.int .i64 o.acct, .int .i64 o.id, .int .i64 o.inst, .int .u8 o.side, .int .i64 o.price, .int .i64 o.left]
theorem encP_len (o : Opn) : (encP o).length = 6 := rfl
theorem encP_one (o : Opn) : ∀ v ∈ encP o, v.oneCell' = true := by intro v hv; simp [encP] at hv; rcases hv with rfl | rfl | rfl | rfl | rfl | rfl <;> rfl
def encL (l : Lt) : List Value := [.int .i64 l.id, .int .i64 l.seller, .int .i64 l.inst, .int .i64 l.qty]
theorem encL_len (l : Lt) : (encL l).length = 4 := rfl
theorem encL_one (l : Lt) : ∀ v ∈ encL l, v.oneCell' = true := by intro v hv; simp [encL] at hv; rcases hv with rfl | rfl | rfl | rfl <;> rfl
def btw (n m : Int) : Bool := decide (1 ≤ n ∧ n ≤ m)
def MayO (o : Opn) : Prop := (1 ≤ o.acct ∧ o.acct ≤ 64) ∧ (1 ≤ o.id ∧ o.id ≤ 1099511627776) ∧ (1 ≤ o.inst ∧ o.inst ≤ 16) ∧ (o.side = 1 ∨ o.side = 2) ∧ (1 ≤ o.price ∧ o.price ≤ 1073741824) ∧ (1 ≤ o.left ∧ o.left ≤ 1048576)
instance (o : Opn) : Decidable (MayO o) := inferInstanceAs (Decidable (_ ∧ _))
def MayL (l : Lt) : Prop := (1 ≤ l.id ∧ l.id ≤ 1099511627776) ∧ (1 ≤ l.seller ∧ l.seller ≤ 64) ∧ (1 ≤ l.inst ∧ l.inst ≤ 16) ∧ (1 ≤ l.qty ∧ l.qty ≤ 1048576)
instance (l : Lt) : Decidable (MayL l) := inferInstanceAs (Decidable (_ ∧ _))
def keyO (a b : Opn) : Prop := a.acct < b.acct ∨ (a.acct = b.acct ∧ a.id < b.id)
instance (a b : Opn) : Decidable (keyO a b) := inferInstanceAs (Decidable (_ ∨ _))
def keyT (a b : Lt) : Prop := a.id < b.id
instance (a b : Lt) : Decidable (keyT a b) := inferInstanceAs (Decidable (_ < _))
def MayV (p : List Opn) (t : List Lt) : Prop := (p.length ≤ 128 ∧ t.length ≤ 32) ∧ p.Pairwise keyO ∧ t.Pairwise keyT ∧ (∀ o ∈ p, MayO o) ∧ (p.map (·.id)).Nodup ∧ ∀ l ∈ t, MayL l
instance (p : List Opn) (t : List Lt) : Decidable (MayV p t) := inferInstanceAs (Decidable (_ ∧ _))
@[irreducible] def mayV (p : List Opn) (t : List Lt) : Bool := decide (MayV p t)
theorem mayV_iff {p : List Opn} {t : List Lt} : mayV p t = true ↔ MayV p t := by unfold mayV; simp
theorem mayV_no {p : List Opn} {t : List Lt} : mayV p t = false ↔ ¬ MayV p t := by unfold mayV; simp
theorem keyO_irr (a : Opn) : ¬ keyO a a := by unfold keyO; omega
theorem keyO_trans {a b c : Opn} (h : keyO a b) (g : keyO b c) : keyO a c := by unfold keyO at *; omega
theorem keyO_asymm {a b : Opn} (h : keyO a b) : ¬ keyO b a := by unfold keyO at *; omega
theorem keyT_trans {a b c : Lt} (h : keyT a b) (g : keyT b c) : keyT a c := by unfold keyT at *; omega
/-! ### rows that rise -/
section
variable {α : Type} {R : α → α → Prop}
theorem pwg_get {l : List α} (h : l.Pairwise R) {i j : Nat} (hij : i < j) {x y : α} (hx : l[i]? = some x) (hy : l[j]? = some y) : R x y := by
  obtain ⟨hi, rfl⟩ := List.getElem?_eq_some_iff.1 hx
  obtain ⟨hj, rfl⟩ := List.getElem?_eq_some_iff.1 hy
  exact List.pairwise_iff_getElem.1 h i j hi hj hij
theorem pwg_snoc (htr : ∀ a b c, R a b → R b c → R a c) {l : List α} {k : Nat} {r : α} (h : (l.take k).Pairwise R) (hr : l[k]? = some r) (hk : k = 0 ∨ ∃ q, l[k - 1]? = some q ∧ R q r) : (l.take (k + 1)).Pairwise R := by
  rw [List.take_add_one, hr]
  refine List.pairwise_append.2 ⟨h, List.pairwise_singleton _ _, fun x hx y hy => ?_⟩
  simp at hy; subst hy
  rcases hk with rfl | ⟨q, hq, hR⟩
  · simp at hx
  · obtain ⟨j, hj⟩ := List.mem_iff_getElem?.1 hx
    rw [List.getElem?_take] at hj
    split at hj
    · rename_i hjk
      by_cases hjk1 : j = k - 1
      · subst hjk1; rw [hq] at hj; injection hj with hj; subst hj; exact hR
      · have hk1 : k - 1 < k := by omega
        have h1 : (l.take k)[j]? = some x := by rw [List.getElem?_take, if_pos hjk]; exact hj
        have h2 : (l.take k)[k - 1]? = some q := by rw [List.getElem?_take, if_pos hk1]; exact hq
        exact htr _ _ _ (pwg_get h (by omega) h1 h2) hR
    · cases hj
theorem all_of_get {p : α → Prop} {l : List α} (h : ∀ j, j < l.length → ∀ x, l[j]? = some x → p x) : ∀ x ∈ l, p x := fun x hx => by
  obtain ⟨j, hj⟩ := List.mem_iff_getElem?.1 hx
  exact h j (List.getElem?_eq_some_iff.1 hj).1 x hj
end
/-! ### what becomes of them -/
def findP (p : List Opn) (id : Int) : Option Opn := p.find? fun o => o.id == id
def findT (t : List Lt) (id : Int) : Option Lt := t.find? fun l => l.id == id
def ofP (p : List Opn) (a : Int) : List Opn := p.filter fun o => o.acct == a
def insP : List Opn → Opn → List Opn
  | [], o => [o]
  | x :: r, o => if keyO o x then o :: x :: r else x :: insP r o
def insT : List Lt → Lt → List Lt
  | [], o => [o]
  | x :: r, o => if keyT o x then o :: x :: r else x :: insT r o
def cutP (id q : Int) (o : Opn) : Opn := if o.id = id then { o with left := o.left - q } else o
def lessP (p : List Opn) (id q : Int) : List Opn := (p.map (cutP id q)).filter fun o => decide (0 < o.left)
def gone (t : List Lt) (id : Int) : List Lt := t.filter fun l => !(l.id == id)
def nth (e : Evt) (i : Nat) : Int := e.nums.getD i 0
def placedR (p : List Opn) (t : List Lt) (e : Evt) : List Opn × List Lt × Int :=
  if (findP p (nth e 0)).isSome then ([], [], 6) else if p.length = 128 then ([], [], 40)
  else (insP p ⟨nth e 1, nth e 0, nth e 2, nth e 3, nth e 4, nth e 5⟩, t, 0)
def cancelR (p : List Opn) (t : List Lt) (e : Evt) : List Opn × List Lt × Int := match findP p (nth e 0) with
  | none => ([], [], 5)
  | some o => (lessP p (nth e 0) o.left, t, 0)
def tradedR (p : List Opn) (t : List Lt) (e : Evt) : List Opn × List Lt × Int := match findP p (nth e 0), findP p (nth e 1) with
  | some a, some b => if nth e 0 = nth e 1 ∨ a.left < nth e 3 ∨ b.left < nth e 3 then ([], [], 1) else (lessP (lessP p (nth e 0) (nth e 3)) (nth e 1) (nth e 3), t, 0)
  | _, _ => ([], [], 5)
def openedR (p : List Opn) (t : List Lt) (e : Evt) : List Opn × List Lt × Int :=
  if (findT t (nth e 0)).isSome then ([], [], 6) else if t.length = 32 then ([], [], 40)
  else (p, insT t ⟨nth e 0, nth e 1, nth e 2, nth e 3⟩, 0)
def goneR (p : List Opn) (t : List Lt) (e : Evt) : List Opn × List Lt × Int :=
  if (findT t (nth e 0)).isSome then (p, gone t (nth e 0), 0) else ([], [], 5)
def doneR (p : List Opn) (t : List Lt) (e : Evt) : List Opn × List Lt × Int :=
  if e.kind = 11 then placedR p t e else if e.kind = 12 then cancelR p t e else if e.kind = 13 then tradedR p t e
  else if e.kind = 14 ∨ e.kind = 16 then openedR p t e else if e.kind = 18 ∨ e.kind = 19 then goneR p t e else (p, t, 0)
@[irreducible] def eventR (p : List Opn) (t : List Lt) (e : Evt) : List Opn × List Lt × Int :=
  if mayV p t = true ∧ e.v = 3 ∧ mayE e = true then doneR p t e else ([], [], 4)
/-! ### numbers of an event that may be -/
theorem fits_lo {v c n lo hi : Int} (h : fitsR v c n = true) (hb : boundR v c = some (lo, hi)) : lo ≤ n ∧ n ≤ hi := by
  unfold fitsR bLo bHi bIs at h
  rw [hb] at h
  simpa using h
theorem bnd_a : boundR 3 97 = some (1, 64) := by kernel_rfl
theorem bnd_i : boundR 3 105 = some (1, 16) := by kernel_rfl
theorem bnd_o : boundR 3 111 = some (1, 1099511627776) := by kernel_rfl
theorem bnd_c : boundR 3 99 = some (1, 1099511627776) := by kernel_rfl
theorem bnd_q : boundR 3 113 = some (1, 1048576) := by kernel_rfl
theorem bnd_m : boundR 3 109 = some (1, 1125899906842624) := by kernel_rfl
theorem bnd_z : boundR 3 122 = some (0, 1125899906842624) := by kernel_rfl
theorem bnd_p : boundR 3 112 = some (1, 1073741824) := by kernel_rfl
theorem bnd_s : boundR 3 115 = some (1, 2) := by kernel_rfl
theorem bnd_t : boundR 3 116 = some (1, 1099511627776) := by kernel_rfl
theorem all_nil {v : Int} {ns : List Int} (h : allR v [] ns = true) : ns = [] := by
  unfold allR at h
  simp only [List.length_nil, Bool.and_eq_true, decide_eq_true_eq] at h
  exact List.eq_nil_of_length_eq_zero h.1.symm
theorem all_cons {v c : Int} {cs ns : List Int} (h : allR v (c :: cs) ns = true) : ∃ n r, ns = n :: r ∧ fitsR v c n = true ∧ allR v cs r = true := by
  unfold allR at h
  simp only [List.length_cons, Bool.and_eq_true, decide_eq_true_eq] at h
  match ns, h with
  | n :: r, ⟨h1, h2⟩ =>
    simp only [List.zip_cons_cons, List.all_cons, Bool.and_eq_true] at h2
    refine ⟨n, r, rfl, h2.1, ?_⟩
    unfold allR
    simp only [List.length_cons] at h1
    simp [h2.2, show cs.length = r.length by omega]
theorem may_nums {e : Evt} (h : mayE e = true) (hv : e.v = 3) {k : Int} (hk : e.kind = k) {s : ByteArray} {t : Bool} (hf : fieldsR 3 k = some (s, t)) : allR 3 (bytesI s) e.nums = true ∧ textsR t e.texts = true := by
  unfold mayE at h
  rw [hv, hk, hf] at h
  simpa using h

theorem elemN : ElemT Tryd.prog 95 3 1 8 := elem_of Tryd.underlying95 (by kernel_rfl) (by omega)
theorem elemI : ElemT Tryd.prog 23 2 1 8 := elem_of Tryd.underlying23 (by kernel_rfl) (by omega)
theorem elemP : ElemT Tryd.prog 28 34 6 48 := elem_of Tryd.underlying28 (by kernel_rfl) (by omega)
theorem elemL : ElemT Tryd.prog 29 36 4 32 := elem_of Tryd.underlying29 (by kernel_rfl) (by omega)
def cmpI (a b : Int) : Int := if a < b then -1 else if b < a then 1 else 0
def orI (a b : Int) : Int := if a = 0 then b else a
set_option maxRecDepth 20000 in
theorem isNaN_c (a : Int) (w : World) : Calls Tryd.prog 54 #[.int .i64 a] w fun e w' => e = .returned (.bool false) ∧ w = w' := by
  refine fn_enter 6 Tryd.func54 rfl rfl rfl ?_
  repeat' (first | (refine lw_pure rfl (pv_move rfl) ?_) | (refine lw_pure rfl (pv_assign rfl) ?_) | (refine lw_pure rfl (pv_neqs rfl rfl) ?_) | (refine is_cw ?_; first | (refine cw_seq ?_) | (refine cw_region ?_) | (refine cw_ret ?_)) | (refine is_qw ?_; first | (with_reducible refine qw_then ?_)) | (refine lw_nil ?_))
  exact qw_ret1 rfl rfl ⟨rfl, rfl⟩
set_option maxRecDepth 20000 in
theorem isNaN6_c (a : Int) (w : World) : Calls Tryd.prog 55 #[.int .i64 a] w fun e w' => e = .returned (.bool false) ∧ w = w' := by
  refine fn_enter 6 Tryd.func55 rfl rfl rfl ?_
  repeat' (first | (refine lw_pure rfl (pv_move rfl) ?_) | (refine lw_pure rfl (pv_assign rfl) ?_) | (refine lw_pure rfl (pv_neqs rfl rfl) ?_) | (refine is_cw ?_; first | (refine cw_seq ?_) | (refine cw_region ?_) | (refine cw_ret ?_)) | (refine is_qw ?_; first | (with_reducible refine qw_then ?_)) | (refine lw_nil ?_))
  exact qw_ret1 rfl rfl ⟨rfl, rfl⟩
set_option maxRecDepth 20000 in
theorem cmp_c (a b : Int) (w : World) : Calls Tryd.prog 36 #[.int .i64 a, .int .i64 b] w fun e w' => e = .returned (.int .i64 (cmpI a b)) ∧ w = w' := by
  refine fn_enter 20 Tryd.func36 rfl rfl rfl ?_
  repeat' (first | (refine lw_pure rfl (pv_move rfl) ?_) | (refine lw_pure rfl (pv_assign rfl) ?_) | (refine lw_call (f := 54) (by kernel_rfl) rfl rfl (isNaN_c _ _) ?_; rintro e w1 ⟨rfl, rfl⟩; refine ⟨_, rfl, ?_⟩) | (refine is_cw ?_; first | (refine cw_seq ?_) | (refine cw_region ?_) | (refine cw_false rfl rfl ?_) | (refine cw_skip ?_) | (refine cw_ret ?_)) | (refine is_qw ?_; first | (with_reducible refine qw_then ?_) | (with_reducible refine qw_then_ret ?_)) | (refine lw_nil ?_) | ((refine is_bin ?_; first | (refine lw_pure rfl (pv_lss rfl rfl) ?_) | (refine lw_pure rfl (pv_gtr rfl rfl) ?_))) | (refine is_cw ?_; refine cw_split rfl (fun hc => ?_) (fun hc => ?_) <;> (first | replace hc := of_decide_eq_true hc | replace hc := of_decide_eq_false hc | replace hc := dec_nT hc | replace hc := dec_nF hc | skip) <;> (try (exfalso; omega))))
  all_goals (refine qw_ret1 rfl rfl ⟨ret_int ?_, rfl⟩; unfold cmpI; (repeat' split) <;> omega)
set_option maxRecDepth 20000 in
theorem cmp6_c (a b : Int) (w : World) : Calls Tryd.prog 37 #[.int .i64 a, .int .i64 b] w fun e w' => e = .returned (.int .i64 (cmpI a b)) ∧ w = w' := by
  refine fn_enter 20 Tryd.func37 rfl rfl rfl ?_
  repeat' (first | (refine lw_pure rfl (pv_move rfl) ?_) | (refine lw_pure rfl (pv_assign rfl) ?_) | (refine lw_call (f := 55) (by kernel_rfl) rfl rfl (isNaN6_c _ _) ?_; rintro e w1 ⟨rfl, rfl⟩; refine ⟨_, rfl, ?_⟩) | (refine is_cw ?_; first | (refine cw_seq ?_) | (refine cw_region ?_) | (refine cw_false rfl rfl ?_) | (refine cw_skip ?_) | (refine cw_ret ?_)) | (refine is_qw ?_; first | (with_reducible refine qw_then ?_) | (with_reducible refine qw_then_ret ?_)) | (refine lw_nil ?_) | ((refine is_bin ?_; first | (refine lw_pure rfl (pv_lss rfl rfl) ?_) | (refine lw_pure rfl (pv_gtr rfl rfl) ?_))) | (refine is_cw ?_; refine cw_split rfl (fun hc => ?_) (fun hc => ?_) <;> (first | replace hc := of_decide_eq_true hc | replace hc := of_decide_eq_false hc | replace hc := dec_nT hc | replace hc := dec_nF hc | skip) <;> (try (exfalso; omega))))
  all_goals (refine qw_ret1 rfl rfl ⟨ret_int ?_, rfl⟩; unfold cmpI; (repeat' split) <;> omega)
set_option maxRecDepth 20000 in
theorem or_c (a b : Int) (N : Nat) (w : World) (h : PT w N 3 [.int .i64 a, .int .i64 b]) : Calls Tryd.prog 35 #[.slice (some ⟨N, 0, none⟩) 2 2] w fun e w' => e = .returned (.int .i64 (orI a b)) ∧ w = w' := by
  have hw := Below.refl w.heap.size w
  have HS : SlR encI 1 w (some ⟨N, 0, none⟩) 2 [a, b] := h.slR encI_len rfl (by omega)
  refine fn_enter 18 Tryd.func35 rfl rfl rfl ?_
  repeat' (first | (refine lw_pure rfl (pv_move rfl) ?_) | (refine lw_pure rfl (pv_assign rfl) ?_) | (refine is_cw ?_; first | (refine cw_seq ?_) | (refine cw_region ?_) | (refine cw_block ?_)) | (refine is_qw ?_; first | (with_reducible refine qw_then ?_)) | (refine lw_nil ?_) | ((refine is_bi ?_; first | (refine lw_pure rfl (pv_lenl (tS rfl) rfl) ?_))))
  refine cw_loop (σ := Nat) (fun k => [(3, .int .i64 0), (6, .slice (some ⟨N, 0, none⟩) 2 2), (7, .int .i64 (2 : Nat)), (8, .int .i64 (k : Nat))]) (fun k wr => k ≤ 2 ∧ w = wr ∧ (1 ≤ k → a = 0) ∧ (2 ≤ k → b = 0)) (fun k => 2 - k) 0 ⟨rfl, rfl, rfl, rfl, trivial⟩ ⟨Nat.zero_le _, rfl, by omega, by omega⟩ ?_
  rintro k wr ⟨hk, rfl, h1, h2⟩
  have hc : k = 0 ∨ k = 1 ∨ k = 2 := by omega
  rcases hc with rfl | rfl | rfl
  · have hx : [a, b][0]? = some a := rfl
    repeat' (first | (refine lw_pure rfl (pv_move rfl) ?_) | (refine lw_pure rfl (pv_assign rfl) ?_) | (refine is_cw ?_; first | (refine cw_seq ?_) | (refine cw_region ?_) | (refine cw_true rfl rfl ?_) | (refine cw_skip ?_) | (refine cw_block ?_) | (refine cw_ret ?_)) | (refine is_qw ?_; first | (with_reducible refine qw_then ?_) | (with_reducible refine qw_in ?_) | (with_reducible refine qw_then_ret ?_) | (with_reducible refine qw_in_ret ?_)) | (refine lw_nil ?_) | ((refine is_bin ?_; first | (refine lw_pure rfl (pv_lss rfl rfl) ?_) | (refine lw_pure rfl (pv_neq rfl rfl) ?_) | (refine lw_pure rfl (pv_inc rfl rfl (by omega)) ?_))) | ((refine is_load ?_; first | (refine lw_pure rfl (pv_load (t1 rfl) rfl (by first | exact SlR.ld (HS.mono hw) hx rfl | exact SlR.ld1 (HS.mono hw) hx rfl)) ?_))) | ((refine is_ia ?_; first | (refine lw_pure rfl (pv_ian (tS rfl) rfl rfl (by omega)) ?_))) | (refine is_cw ?_; refine cw_split rfl (fun hc => ?_) (fun hc => ?_) <;> (first | replace hc := of_decide_eq_true hc | replace hc := of_decide_eq_false hc | replace hc := dec_nT hc | replace hc := dec_nF hc | skip) <;> (try (exfalso; omega))))
    · refine qw_ret1 rfl rfl ⟨ret_int ?_, rfl⟩
      unfold orI; rw [if_neg (by assumption)]
    · refine qw_round 1 ⟨rfl, rfl, rfl, rfl, trivial⟩ ⟨by omega, rfl, fun _ => by assumption, by omega⟩ (by omega)
  · have hx : [a, b][1]? = some b := rfl
    repeat' (first | (refine lw_pure rfl (pv_move rfl) ?_) | (refine lw_pure rfl (pv_assign rfl) ?_) | (refine is_cw ?_; first | (refine cw_seq ?_) | (refine cw_region ?_) | (refine cw_true rfl rfl ?_) | (refine cw_skip ?_) | (refine cw_block ?_) | (refine cw_ret ?_)) | (refine is_qw ?_; first | (with_reducible refine qw_then ?_) | (with_reducible refine qw_in ?_) | (with_reducible refine qw_then_ret ?_) | (with_reducible refine qw_in_ret ?_)) | (refine lw_nil ?_) | ((refine is_bin ?_; first | (refine lw_pure rfl (pv_lss rfl rfl) ?_) | (refine lw_pure rfl (pv_neq rfl rfl) ?_) | (refine lw_pure rfl (pv_inc rfl rfl (by omega)) ?_))) | ((refine is_load ?_; first | (refine lw_pure rfl (pv_load (t1 rfl) rfl (by first | exact SlR.ld (HS.mono hw) hx rfl | exact SlR.ld1 (HS.mono hw) hx rfl)) ?_))) | ((refine is_ia ?_; first | (refine lw_pure rfl (pv_ian (tS rfl) rfl rfl (by omega)) ?_))) | (refine is_cw ?_; refine cw_split rfl (fun hc => ?_) (fun hc => ?_) <;> (first | replace hc := of_decide_eq_true hc | replace hc := of_decide_eq_false hc | replace hc := dec_nT hc | replace hc := dec_nF hc | skip) <;> (try (exfalso; omega))))
    · refine qw_ret1 rfl rfl ⟨ret_int ?_, rfl⟩
      unfold orI; rw [if_pos (h1 (by omega))]
    · refine qw_round 2 ⟨rfl, rfl, rfl, rfl, trivial⟩ ⟨by omega, rfl, fun _ => h1 (by omega), fun _ => by assumption⟩ (by omega)
  · repeat' (first | (refine lw_pure rfl (pv_move rfl) ?_) | (refine lw_pure rfl (pv_assign rfl) ?_) | (refine is_cw ?_; first | (refine cw_seq ?_) | (refine cw_region ?_) | (refine cw_false rfl rfl ?_) | (refine cw_exit ?_) | (refine cw_ret ?_)) | (refine is_qw ?_; first | (with_reducible refine qw_then ?_) | (with_reducible refine qw_in_hit ?_) | (with_reducible refine qw_then_exit ?_)) | (refine lw_nil ?_) | ((refine is_bin ?_; first | (refine lw_pure rfl (pv_lss rfl rfl) ?_))))
    refine qw_ret1 rfl rfl ⟨ret_int ?_, rfl⟩
    unfold orI; rw [if_pos (h1 (by omega)), h2 (by omega)]
def rowI (a b : Opn) : Int := orI (cmpI a.acct b.acct) (cmpI a.id b.id)
theorem rowI_lt {a b : Opn} : rowI a b < 0 ↔ keyO a b := by unfold rowI orI cmpI keyO; (repeat' split) <;> omega
def byI (a b : Lt) : Int := cmpI a.id b.id
theorem byI_lt {a b : Lt} : byI a b < 0 ↔ keyT a b := by unfold byI cmpI keyT; (repeat' split) <;> omega
set_option maxRecDepth 20000 in
theorem row_d (x y : Opn) (w : World) : Calls Tryd.prog 18 #[.agg (encP x).toArray, .agg (encP y).toArray] w fun e w' => e = .returned (.int .i64 (rowI x y)) ∧ BelowD w w' := by
  have hE := BelowD.refl w
  refine fn_enter 17 Tryd.func18 rfl rfl rfl ?_
  refine cw_seq (cw_region ?_)
  refine lw_boxD rfl rfl (cs := encP x) rfl ?_; intro N1 wn hN1 HA hb
  replace hE := hE.trans hb
  refine lw_boxD rfl rfl (cs := encP y) rfl ?_; intro N2 wm hN2 HB hb2
  replace HA := HA.mono hb2.b
  replace hE := hE.trans hb2
  have hd := BelowD.refl wm
  have hw := hd.b
  repeat' (first | (refine lw_pure rfl (pv_assign rfl) ?_) | (refine is_cw ?_; first | (refine cw_seq ?_)) | (refine is_qw ?_; first | (with_reducible refine qw_then ?_)) | (refine lw_nil ?_))
  refine cw_drawn (fun w' => BelowD wm w') (by kernel_rfl) (by repeat (first | exact NoPanic.body | with_reducible refine NoPanic.then ?_ | with_reducible refine NoPanic.inBlock ?_)) (fun hNP => ?_)
  have hS := hd.drew
  (refine at0 0 rfl (fun w' hq => pv_fa (tF rfl) rfl) ?_)
  (refine at0 1 rfl (fun w' hq => pv_load (t1 rfl) rfl (by first | exact PT.ld0 (HA.mono hq.b) rfl | exact PT.ld (HA.mono hq.b) rfl | exact PT.ld0 (HB.mono hq.b) rfl | exact PT.ld (HB.mono hq.b) rfl)) ?_)
  (refine at0 2 rfl (fun w' hq => pv_fa (tF rfl) rfl) ?_)
  (refine at0 3 rfl (fun w' hq => pv_load (t1 rfl) rfl (by first | exact PT.ld0 (HA.mono hq.b) rfl | exact PT.ld (HA.mono hq.b) rfl | exact PT.ld0 (HB.mono hq.b) rfl | exact PT.ld (HB.mono hq.b) rfl)) ?_)
  (refine at0 5 rfl (fun w' hq => pv_fa (tF rfl) rfl) ?_)
  (refine at0 6 rfl (fun w' hq => pv_load (t1 rfl) rfl (by first | exact PT.ld0 (HA.mono hq.b) rfl | exact PT.ld (HA.mono hq.b) rfl | exact PT.ld0 (HB.mono hq.b) rfl | exact PT.ld (HB.mono hq.b) rfl)) ?_)
  (refine at0 7 rfl (fun w' hq => pv_fa (tF rfl) rfl) ?_)
  (refine at0 8 rfl (fun w' hq => pv_load (t1 rfl) rfl (by first | exact PT.ld0 (HA.mono hq.b) rfl | exact PT.ld (HA.mono hq.b) rfl | exact PT.ld0 (HB.mono hq.b) rfl | exact PT.ld (HB.mono hq.b) rfl)) ?_)
  refine aw_act 4 (by kernel_rfl) rfl rfl rfl ?_
  refine act_call (f := 36) (by kernel_rfl) rfl (cmp_c _ _ _) ?_; rintro e w1 ⟨rfl, rfl⟩; refine ⟨_, rfl, hS, fun hS => ?_⟩
  refine aw_act 9 (by kernel_rfl) rfl rfl rfl ?_
  refine act_call (f := 37) (by kernel_rfl) rfl (cmp6_c _ _ _) ?_; rintro e w1 ⟨rfl, rfl⟩; refine ⟨_, rfl, hS, fun hS => ?_⟩
  refine aw_act 10 (by kernel_rfl) rfl rfl rfl ?_
  refine act_bsD (vs := [.int .i64 (cmpI x.acct y.acct), .int .i64 (cmpI x.id y.id)]) (cs := [.int .i64 (cmpI x.acct y.acct), .int .i64 (cmpI x.id y.id)]) elemN rfl rfl (by omega) (by omega) rfl (by simp [Value.cells]) rfl ?_; intro wb HC hb; refine ⟨hS.trans hb, fun hS => ?_⟩
  refine aw_act 11 (by kernel_rfl) rfl rfl rfl ?_
  refine act_call (f := 35) (by kernel_rfl) rfl (or_c _ _ _ _ HC) ?_; rintro e w1 ⟨rfl, rfl⟩; refine ⟨_, rfl, hS, fun hS => ?_⟩
  (refine at0 12 rfl (fun w' hq => pv_assign rfl) ?_)
  refine aw_done (by kernel_rfl) ?_
  replace hd := hS; have hw := hd.b; clear hS hNP
  repeat' (first | (refine is_cw ?_; first | (refine cw_ret ?_)) | (refine is_qw ?_; first | (with_reducible refine qw_then ?_)))
  exact qw_ret1 rfl rfl ⟨rfl, hE.trans hd⟩
set_option maxRecDepth 20000 in
theorem byID_d (x y : Lt) (w : World) : Calls Tryd.prog 20 #[.agg (encL x).toArray, .agg (encL y).toArray] w fun e w' => e = .returned (.int .i64 (byI x y)) ∧ BelowD w w' := by
  have hE := BelowD.refl w
  refine fn_enter 10 Tryd.func20 rfl rfl rfl ?_
  refine cw_seq (cw_region ?_)
  refine lw_boxD rfl rfl (cs := encL x) rfl ?_; intro N1 wn hN1 HA hb
  replace hE := hE.trans hb
  refine lw_boxD rfl rfl (cs := encL y) rfl ?_; intro N2 wm hN2 HB hb2
  replace HA := HA.mono hb2.b
  replace hE := hE.trans hb2
  have hw := Below.refl wm.heap.size wm
  repeat' (first | (refine lw_pure rfl (pv_assign rfl) ?_) | (refine lw_call (f := 37) (by kernel_rfl) rfl rfl (cmp6_c _ _ _) ?_; rintro e w1 ⟨rfl, rfl⟩; refine ⟨_, rfl, ?_⟩) | (refine is_cw ?_; first | (refine cw_seq ?_) | (refine cw_region ?_) | (refine cw_ret ?_)) | (refine is_qw ?_; first | (with_reducible refine qw_then ?_)) | (refine lw_nil ?_) | ((refine is_load ?_; first | (refine lw_pure rfl (pv_load (t1 rfl) rfl (by first | exact PT.ld0 (HA.mono hw) rfl | exact PT.ld (HA.mono hw) rfl | exact PT.ld0 (HB.mono hw) rfl | exact PT.ld (HB.mono hw) rfl)) ?_))) | ((refine is_fa ?_; first | (refine lw_pure rfl (pv_fa (tF rfl) rfl) ?_))))
  exact qw_ret1 rfl rfl ⟨rfl, hE⟩
theorem act_callv {P : Program} {n : Nat} {l : Fr} {w : World} {d : Option Nat} {f : FuncId} {x : Operand} {args : List Operand} {ts : Array TypeId} {ty : TypeId} {pos : String} {af : Array Edge} {g : Option (Nat × Bool)} {vs : List Value} {R : Ending → World → Prop} {Z : Value → World → Prop} (hx : ev l x = some (.func (.func f) #[] #[])) (he : entersB P f = true) (hvs : evs l args = some vs)
    (hc : Calls P f vs.toArray w R) (h : ∀ e w', R e w' → ∃ v, e = .returned v ∧ Z v w') : Act1 P n l ⟨d, .call ⟨.value x, args.toArray, ts⟩, ty, pos, af, g⟩ w Z := ⟨fun a ha K Q hK => by
  have hr := run_call (P := P) (w := w) (ts := ts) (d := d) (ty := ty) (pos := pos) (af := af) (g := g) he ha hx hvs
  unfold Oper.wp; rw [hr]
  have e0 : (#[] ++ vs.toArray ++ #[] : Array Value) = vs.toArray := by simp
  rw [e0]
  refine Calls.mono hc fun e w' hr => ?_
  obtain ⟨v, rfl, hl⟩ := h e w' hr
  exact hK v w' hl⟩
theorem pv_iap {P : Program} {n : Nat} {l : Fr} {w : World} {d : Option Nat} {ty : TypeId} {pos : String} {af : Array Edge} {g : Option (Nat × Bool)} {x y : Operand} {t : TypeId} {k : IntKind} {B o m c e j : Nat} {i : Int} (hi : i = (j : Int)) (ht : slB P t e = true) (hx : ev l x = some (.slice (some ⟨B, o, none⟩) m c)) (hy : ev l y = some (.int k i)) (h : j < m) : Pv P n l ⟨d, .indexAddr t x y, ty, pos, af, g⟩ (.pointer (some ⟨B, o + j * e, none⟩)) w := by
  subst hi; exact pv_ian ht hx hy h
set_option maxRecDepth 20000 in
theorem btwI_c (n m : Int) (w : World) : Calls Tryd.prog 38 #[.int .i64 n, .int .i64 m] w fun e w' => e = .returned (.bool (btw n m)) ∧ Below w.heap.size w w' := by
  have hw := Below.refl w.heap.size w
  refine fn_enter 12 Tryd.func38 rfl rfl rfl ?_
  repeat' (first | (refine lw_pure rfl (pv_move rfl) ?_) | (refine lw_pure rfl (pv_assign rfl) ?_) | (refine is_cw ?_; first | (refine cw_seq ?_) | (refine cw_region ?_) | (refine cw_ret ?_)) | (refine is_qw ?_; first | (with_reducible refine qw_then ?_)) | (refine lw_nil ?_) | (refine is_guarded ?_; first | (refine lw_on rfl rfl (by first | assumption | exact decide_eq_true (by omega) | exact decide_eq_false (by omega) | exact dec_notT (by omega) | exact dec_notF (by omega)) ?_) | (refine lw_not rfl rfl rfl (by first | assumption | exact decide_eq_true (by omega) | exact decide_eq_false (by omega) | exact dec_notT (by omega) | exact dec_notF (by omega)) ?_) | (refine lw_gs_t rfl rfl rfl (fun hc => ?_) (fun hc => ?_) <;> (first | replace hc := of_decide_eq_true hc | replace hc := of_decide_eq_false hc | replace hc := dec_nT hc | replace hc := dec_nF hc | skip) <;> (try (exfalso; omega)))) | ((refine is_bin ?_; first | (refine lw_pure rfl (pv_leq rfl rfl) ?_) | (refine lw_pure rfl (pv_geq rfl rfl) ?_))) | (refine is_pk ?_; refine lw_pure rfl (pv_pick_t rfl (by first | assumption | exact decide_eq_true (by omega) | exact dec_notT (by omega)) rfl) ?_) | (refine is_pk ?_; refine lw_pure rfl (pv_pick_f rfl (by first | assumption | exact decide_eq_false (by omega) | exact dec_notF (by omega)) rfl) ?_))
  all_goals (refine qw_ret1 rfl rfl ⟨ret_bool ?_, hw⟩; unfold btw; first | (rw [decide_eq_decide]; omega) | (symm; rw [decide_eq_true_eq]; omega) | (symm; rw [decide_eq_false_iff_not]; omega))
set_option maxRecDepth 20000 in
theorem btw6_c (n m : Int) (w : World) : Calls Tryd.prog 39 #[.int .i64 n, .int .i64 m] w fun e w' => e = .returned (.bool (btw n m)) ∧ Below w.heap.size w w' := by
  have hw := Below.refl w.heap.size w
  refine fn_enter 12 Tryd.func39 rfl rfl rfl ?_
  repeat' (first | (refine lw_pure rfl (pv_move rfl) ?_) | (refine lw_pure rfl (pv_assign rfl) ?_) | (refine is_cw ?_; first | (refine cw_seq ?_) | (refine cw_region ?_) | (refine cw_ret ?_)) | (refine is_qw ?_; first | (with_reducible refine qw_then ?_)) | (refine lw_nil ?_) | (refine is_guarded ?_; first | (refine lw_on rfl rfl (by first | assumption | exact decide_eq_true (by omega) | exact decide_eq_false (by omega) | exact dec_notT (by omega) | exact dec_notF (by omega)) ?_) | (refine lw_not rfl rfl rfl (by first | assumption | exact decide_eq_true (by omega) | exact decide_eq_false (by omega) | exact dec_notT (by omega) | exact dec_notF (by omega)) ?_) | (refine lw_gs_t rfl rfl rfl (fun hc => ?_) (fun hc => ?_) <;> (first | replace hc := of_decide_eq_true hc | replace hc := of_decide_eq_false hc | replace hc := dec_nT hc | replace hc := dec_nF hc | skip) <;> (try (exfalso; omega)))) | ((refine is_bin ?_; first | (refine lw_pure rfl (pv_leq rfl rfl) ?_) | (refine lw_pure rfl (pv_geq rfl rfl) ?_))) | (refine is_pk ?_; refine lw_pure rfl (pv_pick_t rfl (by first | assumption | exact decide_eq_true (by omega) | exact dec_notT (by omega)) rfl) ?_) | (refine is_pk ?_; refine lw_pure rfl (pv_pick_f rfl (by first | assumption | exact decide_eq_false (by omega) | exact dec_notF (by omega)) rfl) ?_))
  all_goals (refine qw_ret1 rfl rfl ⟨ret_bool ?_, hw⟩; unfold btw; first | (rw [decide_eq_decide]; omega) | (symm; rw [decide_eq_true_eq]; omega) | (symm; rw [decide_eq_false_iff_not]; omega))

set_option maxRecDepth 20000 in
set_option maxHeartbeats 1000000 in
theorem rise_P {xs : List Opn} {m : Nat} {ad : Option Addr} {cap : Nat} {w : World} (hm : xs.length = m) (HS : SlR encP 6 w ad cap xs) : Calls Tryd.prog 17 #[.slice ad m cap, .func (.func 18) #[] #[]] w fun e w' => e = .returned (.bool (decide (xs.Pairwise keyO))) ∧ Below w.heap.size w w' := by
  subst hm
  have hw := Below.refl w.heap.size w
  have hla := HS.le
  have hma := HS.max
  refine fn_enter 24 Tryd.func17 rfl rfl rfl ?_
  repeat' (first | (refine lw_pure rfl (pv_assign rfl) ?_) | (refine is_cw ?_; first | (refine cw_seq ?_) | (refine cw_region ?_) | (refine cw_block ?_)) | (refine is_qw ?_; first | (with_reducible refine qw_then ?_)) | (refine lw_nil ?_))
  refine cw_loop (σ := Nat) (fun k => [(0, .slice ad xs.length cap), (1, .func (.func 18) #[] #[]), (5, .int .i64 (k : Nat))]) (fun k wr => (1 ≤ k ∧ k ≤ max 1 xs.length) ∧ Below w.heap.size w wr ∧ (xs.take k).Pairwise keyO) (fun k => xs.length - k) 1 (by repeat' (first | exact trivial | refine ⟨rfl, ?_⟩)) ⟨⟨Nat.le_refl _, by omega⟩, hw, by match xs with | [] => simp | [x] => simp | x :: y :: r => simp⟩ ?_
  clear hw
  rintro k wr ⟨⟨hk1, hk⟩, hw, hn⟩
  by_cases hlt : k < xs.length
  · have hxk : xs[k]? = some xs[k] := List.getElem?_eq_getElem hlt
    have hxj : xs[k - 1]? = some (xs[k - 1]'(by omega)) := List.getElem?_eq_getElem _
    obtain ⟨ab, ao, rfl, -, -⟩ := HS.at (by intro h; rw [h] at hlt; simp at hlt)
    have hidx : ((k : Int) - 1) = ((k - 1 : Nat) : Int) := by omega
    have hlt1 : k - 1 < xs.length := by omega
    generalize xs[k] = x at hxk
    generalize xs[k - 1] = y at hxj
    by_cases hxy : keyO y x
    · have hneg := rowI_lt.2 hxy
      repeat' (first | (refine lw_pure rfl (pv_move rfl) ?_) | (refine is_cw ?_; first | (refine cw_seq ?_) | (refine cw_region ?_) | (refine is_cd ?_; refine cw_true rfl (by first | assumption | exact decide_eq_true (by omega) | exact dec_notT (by omega)) ?_) | (refine cw_skip ?_) | (refine cw_block ?_)) | (refine is_qw ?_; first | (with_reducible refine qw_then ?_)) | (refine lw_nil ?_) | ((refine is_bin ?_; first | (refine lw_pure rfl (pv_lss rfl rfl) ?_))) | ((refine is_bi ?_; first | (refine lw_pure rfl (pv_lenl (tS rfl) rfl) ?_))))
      refine cw_drawn (fun w' => Below w.heap.size w w') (by kernel_rfl) (by repeat (first | exact NoPanic.body | with_reducible refine NoPanic.then ?_ | with_reducible refine NoPanic.inBlock ?_)) (fun hNP => ?_)
      have hS := hw.drew
      (refine at0 0 rfl (fun w' hq => pv_move rfl) ?_)
      (refine at0 1 rfl (fun w' hq => pv_move rfl) ?_)
      (refine at0 2 rfl (fun w' hq => pv_move rfl) ?_)
      (refine at0 3 rfl (fun w' hq => pv_sub rfl rfl (by omega)) ?_)
      (refine at0 4 rfl (fun w' hq => pv_iap hidx (tS rfl) rfl rfl hlt1) ?_)
      (refine at0 5 rfl (fun w' hq => pv_loada (tA rfl) rfl (by first | exact SlR.lda (HS.mono hq) hxk | exact SlR.lda (HS.mono hq) hxj) (by rfl)) ?_)
      (refine at0 6 rfl (fun w' hq => pv_move rfl) ?_)
      (refine at0 7 rfl (fun w' hq => pv_move rfl) ?_)
      (refine at0 8 rfl (fun w' hq => pv_ian (tS rfl) rfl rfl (by omega)) ?_)
      (refine at0 9 rfl (fun w' hq => pv_loada (tA rfl) rfl (by first | exact SlR.lda (HS.mono hq) hxk | exact SlR.lda (HS.mono hq) hxj) (by rfl)) ?_)
      refine aw_act 10 (by kernel_rfl) rfl rfl rfl ?_
      refine act_callv (f := 18) rfl (by kernel_rfl) rfl (row_d y x _) ?_; rintro e w1 ⟨rfl, hb⟩; refine ⟨_, rfl, grow_trans hS hb.b, fun hS => ?_⟩
      (refine at0 11 rfl (fun w' hq => pv_geq rfl rfl) ?_)
      refine aw_done (by kernel_rfl) ?_
      replace hw := hS; clear hS hNP
      repeat' (first | (refine lw_pure rfl (pv_move rfl) ?_) | (refine lw_pure rfl (pv_assign rfl) ?_) | (refine is_cw ?_; first | (refine cw_region ?_) | (refine is_cd ?_; refine cw_false rfl (by first | assumption | exact decide_eq_false (by omega) | exact dec_notF (by omega)) ?_) | (refine cw_skip ?_)) | (refine is_qw ?_; first | (with_reducible refine qw_then ?_) | (with_reducible refine qw_in ?_)) | (refine lw_nil ?_) | ((refine is_bin ?_; first | (refine lw_pure rfl (pv_inc rfl rfl (by omega)) ?_))))
      refine qw_round (k + 1) (by repeat' (first | exact trivial | refine ⟨rfl, ?_⟩)) ⟨⟨by omega, by omega⟩, hw, pwg_snoc (R := keyO) (fun _ _ _ h g => keyO_trans h g) hn hxk (Or.inr ⟨y, hxj, hxy⟩)⟩ (by omega)
    · have hneg : ¬ rowI y x < 0 := fun h => hxy (rowI_lt.1 h)
      repeat' (first | (refine lw_pure rfl (pv_move rfl) ?_) | (refine is_cw ?_; first | (refine cw_seq ?_) | (refine cw_region ?_) | (refine is_cd ?_; refine cw_true rfl (by first | assumption | exact decide_eq_true (by omega) | exact dec_notT (by omega)) ?_) | (refine cw_skip ?_) | (refine cw_block ?_)) | (refine is_qw ?_; first | (with_reducible refine qw_then ?_)) | (refine lw_nil ?_) | ((refine is_bin ?_; first | (refine lw_pure rfl (pv_lss rfl rfl) ?_))) | ((refine is_bi ?_; first | (refine lw_pure rfl (pv_lenl (tS rfl) rfl) ?_))))
      refine cw_drawn (fun w' => Below w.heap.size w w') (by kernel_rfl) (by repeat (first | exact NoPanic.body | with_reducible refine NoPanic.then ?_ | with_reducible refine NoPanic.inBlock ?_)) (fun hNP => ?_)
      have hS := hw.drew
      (refine at0 0 rfl (fun w' hq => pv_move rfl) ?_)
      (refine at0 1 rfl (fun w' hq => pv_move rfl) ?_)
      (refine at0 2 rfl (fun w' hq => pv_move rfl) ?_)
      (refine at0 3 rfl (fun w' hq => pv_sub rfl rfl (by omega)) ?_)
      (refine at0 4 rfl (fun w' hq => pv_iap hidx (tS rfl) rfl rfl hlt1) ?_)
      (refine at0 5 rfl (fun w' hq => pv_loada (tA rfl) rfl (by first | exact SlR.lda (HS.mono hq) hxk | exact SlR.lda (HS.mono hq) hxj) (by rfl)) ?_)
      (refine at0 6 rfl (fun w' hq => pv_move rfl) ?_)
      (refine at0 7 rfl (fun w' hq => pv_move rfl) ?_)
      (refine at0 8 rfl (fun w' hq => pv_ian (tS rfl) rfl rfl (by omega)) ?_)
      (refine at0 9 rfl (fun w' hq => pv_loada (tA rfl) rfl (by first | exact SlR.lda (HS.mono hq) hxk | exact SlR.lda (HS.mono hq) hxj) (by rfl)) ?_)
      refine aw_act 10 (by kernel_rfl) rfl rfl rfl ?_
      refine act_callv (f := 18) rfl (by kernel_rfl) rfl (row_d y x _) ?_; rintro e w1 ⟨rfl, hb⟩; refine ⟨_, rfl, grow_trans hS hb.b, fun hS => ?_⟩
      (refine at0 11 rfl (fun w' hq => pv_geq rfl rfl) ?_)
      refine aw_done (by kernel_rfl) ?_
      replace hw := hS; clear hS hNP
      repeat' (first | (refine lw_pure rfl (pv_assign rfl) ?_) | (refine is_cw ?_; first | (refine cw_seq ?_) | (refine cw_region ?_) | (refine is_cd ?_; refine cw_true rfl (by first | assumption | exact decide_eq_true (by omega) | exact dec_notT (by omega)) ?_) | (refine cw_ret ?_)) | (refine is_qw ?_; first | (with_reducible refine qw_then ?_) | (with_reducible refine qw_then_ret ?_) | (with_reducible refine qw_in_ret ?_)) | (refine lw_nil ?_))
      refine qw_ret1 rfl rfl ⟨ret_bool ?_, hw⟩
      symm; rw [decide_eq_false_iff_not]; intro hp
      exact hxy (pwg_get hp (by omega) hxj hxk)
  · have hkl : xs.take k = xs := List.take_of_length_le (by omega)
    rw [hkl] at hn
    repeat' (first | (refine lw_pure rfl (pv_move rfl) ?_) | (refine lw_pure rfl (pv_assign rfl) ?_) | (refine is_cw ?_; first | (refine cw_seq ?_) | (refine cw_region ?_) | (refine is_cd ?_; refine cw_false rfl (by first | assumption | exact decide_eq_false (by omega) | exact dec_notF (by omega)) ?_) | (refine cw_exit ?_) | (refine cw_ret ?_)) | (refine is_qw ?_; first | (with_reducible refine qw_then ?_) | (with_reducible refine qw_in_hit ?_) | (with_reducible refine qw_then_exit ?_)) | (refine lw_nil ?_) | ((refine is_bin ?_; first | (refine lw_pure rfl (pv_lss rfl rfl) ?_))) | ((refine is_bi ?_; first | (refine lw_pure rfl (pv_lenl (tS rfl) rfl) ?_))))
    exact qw_ret1 rfl rfl ⟨ret_bool (by simp [hn]), hw⟩

set_option maxRecDepth 20000 in
set_option maxHeartbeats 1000000 in
theorem rise_L {xs : List Lt} {m : Nat} {ad : Option Addr} {cap : Nat} {w : World} (hm : xs.length = m) (HS : SlR encL 4 w ad cap xs) : Calls Tryd.prog 19 #[.slice ad m cap, .func (.func 20) #[] #[]] w fun e w' => e = .returned (.bool (decide (xs.Pairwise keyT))) ∧ Below w.heap.size w w' := by
  subst hm
  have hw := Below.refl w.heap.size w
  have hla := HS.le
  have hma := HS.max
  refine fn_enter 24 Tryd.func19 rfl rfl rfl ?_
  repeat' (first | (refine lw_pure rfl (pv_assign rfl) ?_) | (refine is_cw ?_; first | (refine cw_seq ?_) | (refine cw_region ?_) | (refine cw_block ?_)) | (refine is_qw ?_; first | (with_reducible refine qw_then ?_)) | (refine lw_nil ?_))
  refine cw_loop (σ := Nat) (fun k => [(0, .slice ad xs.length cap), (1, .func (.func 20) #[] #[]), (5, .int .i64 (k : Nat))]) (fun k wr => (1 ≤ k ∧ k ≤ max 1 xs.length) ∧ Below w.heap.size w wr ∧ (xs.take k).Pairwise keyT) (fun k => xs.length - k) 1 (by repeat' (first | exact trivial | refine ⟨rfl, ?_⟩)) ⟨⟨Nat.le_refl _, by omega⟩, hw, by match xs with | [] => simp | [x] => simp | x :: y :: r => simp⟩ ?_
  clear hw
  rintro k wr ⟨⟨hk1, hk⟩, hw, hn⟩
  by_cases hlt : k < xs.length
  · have hxk : xs[k]? = some xs[k] := List.getElem?_eq_getElem hlt
    have hxj : xs[k - 1]? = some (xs[k - 1]'(by omega)) := List.getElem?_eq_getElem _
    obtain ⟨ab, ao, rfl, -, -⟩ := HS.at (by intro h; rw [h] at hlt; simp at hlt)
    have hidx : ((k : Int) - 1) = ((k - 1 : Nat) : Int) := by omega
    have hlt1 : k - 1 < xs.length := by omega
    generalize xs[k] = x at hxk
    generalize xs[k - 1] = y at hxj
    by_cases hxy : keyT y x
    · have hneg := byI_lt.2 hxy
      repeat' (first | (refine lw_pure rfl (pv_move rfl) ?_) | (refine is_cw ?_; first | (refine cw_seq ?_) | (refine cw_region ?_) | (refine is_cd ?_; refine cw_true rfl (by first | assumption | exact decide_eq_true (by omega) | exact dec_notT (by omega)) ?_) | (refine cw_skip ?_) | (refine cw_block ?_)) | (refine is_qw ?_; first | (with_reducible refine qw_then ?_)) | (refine lw_nil ?_) | ((refine is_bin ?_; first | (refine lw_pure rfl (pv_lss rfl rfl) ?_))) | ((refine is_bi ?_; first | (refine lw_pure rfl (pv_lenl (tS rfl) rfl) ?_))))
      refine cw_drawn (fun w' => Below w.heap.size w w') (by kernel_rfl) (by repeat (first | exact NoPanic.body | with_reducible refine NoPanic.then ?_ | with_reducible refine NoPanic.inBlock ?_)) (fun hNP => ?_)
      have hS := hw.drew
      (refine at0 0 rfl (fun w' hq => pv_move rfl) ?_)
      (refine at0 1 rfl (fun w' hq => pv_move rfl) ?_)
      (refine at0 2 rfl (fun w' hq => pv_move rfl) ?_)
      (refine at0 3 rfl (fun w' hq => pv_sub rfl rfl (by omega)) ?_)
      (refine at0 4 rfl (fun w' hq => pv_iap hidx (tS rfl) rfl rfl hlt1) ?_)
      (refine at0 5 rfl (fun w' hq => pv_loada (tA rfl) rfl (by first | exact SlR.lda (HS.mono hq) hxk | exact SlR.lda (HS.mono hq) hxj) (by rfl)) ?_)
      (refine at0 6 rfl (fun w' hq => pv_move rfl) ?_)
      (refine at0 7 rfl (fun w' hq => pv_move rfl) ?_)
      (refine at0 8 rfl (fun w' hq => pv_ian (tS rfl) rfl rfl (by omega)) ?_)
      (refine at0 9 rfl (fun w' hq => pv_loada (tA rfl) rfl (by first | exact SlR.lda (HS.mono hq) hxk | exact SlR.lda (HS.mono hq) hxj) (by rfl)) ?_)
      refine aw_act 10 (by kernel_rfl) rfl rfl rfl ?_
      refine act_callv (f := 20) rfl (by kernel_rfl) rfl (byID_d y x _) ?_; rintro e w1 ⟨rfl, hb⟩; refine ⟨_, rfl, grow_trans hS hb.b, fun hS => ?_⟩
      (refine at0 11 rfl (fun w' hq => pv_geq rfl rfl) ?_)
      refine aw_done (by kernel_rfl) ?_
      replace hw := hS; clear hS hNP
      repeat' (first | (refine lw_pure rfl (pv_move rfl) ?_) | (refine lw_pure rfl (pv_assign rfl) ?_) | (refine is_cw ?_; first | (refine cw_region ?_) | (refine is_cd ?_; refine cw_false rfl (by first | assumption | exact decide_eq_false (by omega) | exact dec_notF (by omega)) ?_) | (refine cw_skip ?_)) | (refine is_qw ?_; first | (with_reducible refine qw_then ?_) | (with_reducible refine qw_in ?_)) | (refine lw_nil ?_) | ((refine is_bin ?_; first | (refine lw_pure rfl (pv_inc rfl rfl (by omega)) ?_))))
      refine qw_round (k + 1) (by repeat' (first | exact trivial | refine ⟨rfl, ?_⟩)) ⟨⟨by omega, by omega⟩, hw, pwg_snoc (R := keyT) (fun _ _ _ h g => keyT_trans h g) hn hxk (Or.inr ⟨y, hxj, hxy⟩)⟩ (by omega)
    · have hneg : ¬ byI y x < 0 := fun h => hxy (byI_lt.1 h)
      repeat' (first | (refine lw_pure rfl (pv_move rfl) ?_) | (refine is_cw ?_; first | (refine cw_seq ?_) | (refine cw_region ?_) | (refine is_cd ?_; refine cw_true rfl (by first | assumption | exact decide_eq_true (by omega) | exact dec_notT (by omega)) ?_) | (refine cw_skip ?_) | (refine cw_block ?_)) | (refine is_qw ?_; first | (with_reducible refine qw_then ?_)) | (refine lw_nil ?_) | ((refine is_bin ?_; first | (refine lw_pure rfl (pv_lss rfl rfl) ?_))) | ((refine is_bi ?_; first | (refine lw_pure rfl (pv_lenl (tS rfl) rfl) ?_))))
      refine cw_drawn (fun w' => Below w.heap.size w w') (by kernel_rfl) (by repeat (first | exact NoPanic.body | with_reducible refine NoPanic.then ?_ | with_reducible refine NoPanic.inBlock ?_)) (fun hNP => ?_)
      have hS := hw.drew
      (refine at0 0 rfl (fun w' hq => pv_move rfl) ?_)
      (refine at0 1 rfl (fun w' hq => pv_move rfl) ?_)
      (refine at0 2 rfl (fun w' hq => pv_move rfl) ?_)
      (refine at0 3 rfl (fun w' hq => pv_sub rfl rfl (by omega)) ?_)
      (refine at0 4 rfl (fun w' hq => pv_iap hidx (tS rfl) rfl rfl hlt1) ?_)
      (refine at0 5 rfl (fun w' hq => pv_loada (tA rfl) rfl (by first | exact SlR.lda (HS.mono hq) hxk | exact SlR.lda (HS.mono hq) hxj) (by rfl)) ?_)
      (refine at0 6 rfl (fun w' hq => pv_move rfl) ?_)
      (refine at0 7 rfl (fun w' hq => pv_move rfl) ?_)
      (refine at0 8 rfl (fun w' hq => pv_ian (tS rfl) rfl rfl (by omega)) ?_)
      (refine at0 9 rfl (fun w' hq => pv_loada (tA rfl) rfl (by first | exact SlR.lda (HS.mono hq) hxk | exact SlR.lda (HS.mono hq) hxj) (by rfl)) ?_)
      refine aw_act 10 (by kernel_rfl) rfl rfl rfl ?_
      refine act_callv (f := 20) rfl (by kernel_rfl) rfl (byID_d y x _) ?_; rintro e w1 ⟨rfl, hb⟩; refine ⟨_, rfl, grow_trans hS hb.b, fun hS => ?_⟩
      (refine at0 11 rfl (fun w' hq => pv_geq rfl rfl) ?_)
      refine aw_done (by kernel_rfl) ?_
      replace hw := hS; clear hS hNP
      repeat' (first | (refine lw_pure rfl (pv_assign rfl) ?_) | (refine is_cw ?_; first | (refine cw_seq ?_) | (refine cw_region ?_) | (refine is_cd ?_; refine cw_true rfl (by first | assumption | exact decide_eq_true (by omega) | exact dec_notT (by omega)) ?_) | (refine cw_ret ?_)) | (refine is_qw ?_; first | (with_reducible refine qw_then ?_) | (with_reducible refine qw_then_ret ?_) | (with_reducible refine qw_in_ret ?_)) | (refine lw_nil ?_))
      refine qw_ret1 rfl rfl ⟨ret_bool ?_, hw⟩
      symm; rw [decide_eq_false_iff_not]; intro hp
      exact hxy (pwg_get hp (by omega) hxj hxk)
  · have hkl : xs.take k = xs := List.take_of_length_le (by omega)
    rw [hkl] at hn
    repeat' (first | (refine lw_pure rfl (pv_move rfl) ?_) | (refine lw_pure rfl (pv_assign rfl) ?_) | (refine is_cw ?_; first | (refine cw_seq ?_) | (refine cw_region ?_) | (refine is_cd ?_; refine cw_false rfl (by first | assumption | exact decide_eq_false (by omega) | exact dec_notF (by omega)) ?_) | (refine cw_exit ?_) | (refine cw_ret ?_)) | (refine is_qw ?_; first | (with_reducible refine qw_then ?_) | (with_reducible refine qw_in_hit ?_) | (with_reducible refine qw_then_exit ?_)) | (refine lw_nil ?_) | ((refine is_bin ?_; first | (refine lw_pure rfl (pv_lss rfl rfl) ?_))) | ((refine is_bi ?_; first | (refine lw_pure rfl (pv_lenl (tS rfl) rfl) ?_))))
    exact qw_ret1 rfl rfl ⟨ret_bool (by simp [hn]), hw⟩

theorem btw_t {n m : Int} (h : 1 ≤ n ∧ n ≤ m) : btw n m = true := decide_eq_true h
theorem btw_f {n m : Int} (h : ¬ (1 ≤ n ∧ n ≤ m)) : btw n m = false := decide_eq_false h
theorem btwI_e {n m : Int} {b : Bool} (h : btw n m = b) (w : World) : Calls Tryd.prog 38 #[.int .i64 n, .int .i64 m] w fun e w' => e = .returned (.bool b) ∧ Below w.heap.size w w' := by subst h; exact btwI_c n m w
theorem btw6_e {n m : Int} {b : Bool} (h : btw n m = b) (w : World) : Calls Tryd.prog 39 #[.int .i64 n, .int .i64 m] w fun e w' => e = .returned (.bool b) ∧ Below w.heap.size w w' := by subst h; exact btw6_c n m w
set_option maxRecDepth 20000 in
set_option maxHeartbeats 2000000 in
theorem may_o (o : Opn) (w : World) : Calls Tryd.prog 21 #[.agg (encP o).toArray] w fun e w' => e = .returned (.bool (decide (MayO o))) ∧ Below w.heap.size w w' := by
  have hw := Below.refl w.heap.size w
  refine fn_enter 36 Tryd.func21 rfl rfl rfl ?_
  repeat' (first | (refine is_cw ?_; first | (refine cw_seq ?_) | (refine cw_region ?_)))
  refine lw_boxN rfl rfl (cs := encP o) rfl ?_; intro N w1 hN H hb
  have hE := Ext.mk (grow_trans hw hb)
  clear hb hw
  have hw := Below.refl w1.heap.size w1
  repeat' (first | (refine lw_pure rfl (pv_move rfl) ?_) | (refine lw_pure rfl (pv_assign rfl) ?_) | (refine lw_call (f := 38) (by kernel_rfl) rfl rfl (btwI_c _ _ _) ?_; rintro e w1 ⟨rfl, hb⟩; refine ⟨_, rfl, ?_⟩; replace hw := grow_trans hw hb; clear hb) | (refine lw_call (f := 39) (by kernel_rfl) rfl rfl (btw6_c _ _ _) ?_; rintro e w1 ⟨rfl, hb⟩; refine ⟨_, rfl, ?_⟩; replace hw := grow_trans hw hb; clear hb) | (refine is_cw ?_; first | (refine cw_seq ?_) | (refine cw_region ?_) | (refine cw_ret ?_)) | (refine is_qw ?_; first | (with_reducible refine qw_then ?_)) | (refine lw_nil ?_) | (refine is_guarded ?_; first | (refine lw_not rfl rfl rfl rfl ?_) | (refine lw_not_u rfl rfl rfl ?_) | (refine lw_on rfl rfl rfl ?_) | (refine lw_on rfl rfl (by first | assumption | exact decide_eq_true (by omega) | exact decide_eq_false (by omega) | exact dec_notT (by omega) | exact dec_notF (by omega)) ?_) | (refine lw_not rfl rfl rfl (by first | assumption | exact decide_eq_true (by omega) | exact decide_eq_false (by omega) | exact dec_notT (by omega) | exact dec_notF (by omega)) ?_) | (refine lw_gs_t rfl rfl rfl (fun hc => ?_) (fun hc => ?_) <;> (first | replace hc := of_decide_eq_true hc | replace hc := of_decide_eq_false hc | replace hc := dec_nT hc | replace hc := dec_nF hc | skip) <;> (try (exfalso; omega))) | (refine lw_gs_f rfl rfl rfl (fun hc => ?_) (fun hc => ?_) <;> (first | replace hc := of_decide_eq_true hc | replace hc := of_decide_eq_false hc | replace hc := dec_nT hc | replace hc := dec_nF hc | skip) <;> (try (exfalso; omega)))) | ((refine is_bin ?_; first | (refine lw_pure rfl (pv_eql rfl rfl) ?_))) | ((refine is_load ?_; first | (refine lw_pure rfl (pv_load (t1 rfl) rfl (by first | exact PT.ld0 (H.mono hw) rfl | exact PT.ld (H.mono hw) rfl)) ?_))) | ((refine is_fa ?_; first | (refine lw_pure rfl (pv_fa (tF rfl) rfl) ?_))) | (refine is_pk ?_; refine lw_pure rfl (pv_pick_t rfl rfl rfl) ?_) | (refine is_pk ?_; refine lw_pure rfl (pv_pick_f rfl rfl rfl) ?_) | (refine is_pk ?_; refine lw_pure rfl (pv_pick_t rfl (by first | assumption | exact decide_eq_true (by omega) | exact dec_notT (by omega)) rfl) ?_) | (refine is_pk ?_; refine lw_pure rfl (pv_pick_f rfl (by first | assumption | exact decide_eq_false (by omega) | exact dec_notF (by omega)) rfl) ?_))
  all_goals (refine qw_ret1 rfl rfl ⟨ret_bool ?_, (hE.mono hw).b⟩; first | (unfold btw; rw [decide_eq_decide]; unfold MayO; omega) | (symm; rw [decide_eq_false_iff_not]; unfold MayO; omega))
set_option maxRecDepth 20000 in
set_option maxHeartbeats 2000000 in
theorem may_l (o : Lt) (w : World) : Calls Tryd.prog 26 #[.agg (encL o).toArray] w fun e w' => e = .returned (.bool (decide (MayL o))) ∧ Below w.heap.size w w' := by
  have hw := Below.refl w.heap.size w
  refine fn_enter 21 Tryd.func26 rfl rfl rfl ?_
  repeat' (first | (refine is_cw ?_; first | (refine cw_seq ?_) | (refine cw_region ?_)))
  refine lw_boxN rfl rfl (cs := encL o) rfl ?_; intro N w1 hN H hb
  have hE := Ext.mk (grow_trans hw hb)
  clear hb hw
  have hw := Below.refl w1.heap.size w1
  repeat' (first | (refine lw_pure rfl (pv_move rfl) ?_) | (refine lw_pure rfl (pv_assign rfl) ?_) | (refine lw_call (f := 38) (by kernel_rfl) rfl rfl (btwI_c _ _ _) ?_; rintro e w1 ⟨rfl, hb⟩; refine ⟨_, rfl, ?_⟩; replace hw := grow_trans hw hb; clear hb) | (refine lw_call (f := 39) (by kernel_rfl) rfl rfl (btw6_c _ _ _) ?_; rintro e w1 ⟨rfl, hb⟩; refine ⟨_, rfl, ?_⟩; replace hw := grow_trans hw hb; clear hb) | (refine is_cw ?_; first | (refine cw_seq ?_) | (refine cw_region ?_) | (refine cw_ret ?_)) | (refine is_qw ?_; first | (with_reducible refine qw_then ?_)) | (refine lw_nil ?_) | (refine is_guarded ?_; first | (refine lw_not rfl rfl rfl rfl ?_) | (refine lw_on rfl rfl (by first | assumption | exact decide_eq_true (by omega) | exact decide_eq_false (by omega) | exact dec_notT (by omega) | exact dec_notF (by omega)) ?_) | (refine lw_not rfl rfl rfl (by first | assumption | exact decide_eq_true (by omega) | exact decide_eq_false (by omega) | exact dec_notT (by omega) | exact dec_notF (by omega)) ?_) | (refine lw_gs_t rfl rfl rfl (fun hc => ?_) (fun hc => ?_) <;> (first | replace hc := of_decide_eq_true hc | replace hc := of_decide_eq_false hc | replace hc := dec_nT hc | replace hc := dec_nF hc | skip) <;> (try (exfalso; omega)))) | ((refine is_load ?_; first | (refine lw_pure rfl (pv_load (t1 rfl) rfl (by first | exact PT.ld0 (H.mono hw) rfl | exact PT.ld (H.mono hw) rfl)) ?_))) | ((refine is_fa ?_; first | (refine lw_pure rfl (pv_fa (tF rfl) rfl) ?_))) | (refine is_pk ?_; refine lw_pure rfl (pv_pick_f rfl rfl rfl) ?_) | (refine is_pk ?_; refine lw_pure rfl (pv_pick_t rfl (by first | assumption | exact decide_eq_true (by omega) | exact dec_notT (by omega)) rfl) ?_) | (refine is_pk ?_; refine lw_pure rfl (pv_pick_f rfl (by first | assumption | exact decide_eq_false (by omega) | exact dec_notF (by omega)) rfl) ?_))
  all_goals (refine qw_ret1 rfl rfl ⟨ret_bool ?_, (hE.mono hw).b⟩; first | (unfold btw; rw [decide_eq_decide]; unfold MayL; omega) | (symm; rw [decide_eq_false_iff_not]; unfold MayL; omega))
set_option maxRecDepth 20000 in
theorem mayF_c (o : Lt) (w : World) : Calls Tryd.prog 25 #[.agg (encL o).toArray] w fun e w' => e = .returned (.bool (!decide (MayL o))) ∧ Below w.heap.size w w' := by
  have hw := Below.refl w.heap.size w
  refine fn_enter 6 Tryd.func25 rfl rfl rfl ?_
  repeat' (first | (refine is_cw ?_; first | (refine cw_seq ?_) | (refine cw_region ?_)))
  refine lw_boxN rfl rfl (cs := encL o) rfl ?_; intro N w1 hN H hb
  have hE := Ext.mk (grow_trans hw hb)
  clear hb hw
  have hw := Below.refl w1.heap.size w1
  repeat' (first | (refine lw_pure rfl (pv_assign rfl) ?_) | (refine lw_call (f := 26) (by kernel_rfl) rfl rfl (may_l o _) ?_; rintro e w1 ⟨rfl, hb⟩; refine ⟨_, rfl, ?_⟩; replace hw := grow_trans hw hb; clear hb) | (refine is_cw ?_; first | (refine cw_seq ?_) | (refine cw_region ?_) | (refine cw_ret ?_)) | (refine is_qw ?_; first | (with_reducible refine qw_then ?_)) | (refine lw_nil ?_) | ((refine is_load ?_; first | (refine lw_pure rfl (pv_loada (tA rfl) rfl (by first | exact PT.lda (H.mono hw)) (by rfl)) ?_))) | ((refine is_un ?_; first | (refine lw_pure rfl (pv_not rfl) ?_))))
  exact qw_ret1 rfl rfl ⟨rfl, (hE.mono hw).b⟩
end Go.Proofs.YtkehmbgcglbffaaDoor
namespace Go.Proofs.YtkehmbgcglbffaaDoor
open Go.RowKit

theorem gb_trans {w w1 w2 : World} {row : Option Nat} (h : w.grownBy w1 row) (k : w1.grownBy w2 row) : w.grownBy w2 row :=
  ⟨k.os.trans h.os, k.tape.trans h.tape, k.output.trans h.output, Nat.le_trans h.size k.size, fun i hi hn => (k.block i (Nat.lt_of_lt_of_le hi h.size) hn).trans (h.block i hi hn)⟩
theorem gb_of {w w1 : World} (h : Below w.heap.size w w1) (row : Option Nat) : w.grownBy w1 row := ⟨h.os, h.tape, h.output, h.size, fun i hi _ => h.block i hi⟩
theorem gb_below {w w1 w2 : World} {row : Option Nat} (h : w.grownBy w1 row) (k : Below w1.heap.size w1 w2) : w.grownBy w2 row := gb_trans h (gb_of k row)
theorem gb_refl (w : World) (row : Option Nat) : w.grownBy w row := gb_of (Below.refl _ _) row
section
variable {α : Type} {enc : α → List Value} {k nb : Nat} {T S : TypeId} {base : Nat} {w : World} {g cap : Nat} {xs : List α}
theorem Own.shiftK (hk : ∀ x, (enc x).length = k) (h : Own enc k T base w (.slice (some ⟨g, 0, none⟩) xs.length cap) xs) {cur : Array Value} (hg : w.heap[g]? = some (.cells cur T (0, 0))) {i : Nat} (hi : i < xs.length) {last : α} (hl : xs[xs.length - 1]? = some last) {w' : World}
    (hw : w' = w.setRow g (cur.toList.take (i * k) ++ ((xs.drop (i + 1)).flatMap enc ++ cur.toList.drop (i * k + ((xs.drop (i + 1)).flatMap enc).length))).toArray) :
    Own enc k T base w' (.slice (some ⟨g, 0, none⟩) (xs.eraseIdx i ++ [last]).length cap) (xs.eraseIdx i ++ [last]) ∧ w.grownBy w' (some g) := by
  obtain ⟨cur', hb, hg', hle, hmax, hsz, htk⟩ := Own.heap' h
  rw [hg] at hg'
  injection hg' with hg'; injection hg' with hg' _ _
  subst hg'
  obtain ⟨m, hm⟩ : ∃ m, xs.length = i + 1 + m := ⟨xs.length - (i + 1), by omega⟩
  have hln : ((xs.drop (i + 1)).flatMap enc).length = m * k := by rw [flat_len enc k hk, List.length_drop]; congr 1; omega
  have hel : (xs.eraseIdx i ++ [last]).length = xs.length := by rw [List.length_append, List.length_eraseIdx_of_lt hi]; simp; omega
  have hxk : xs.length * k = i * k + k + m * k := by rw [hm, Nat.add_mul, Nat.add_mul, Nat.one_mul]
  have hck : xs.length * k ≤ cap * k := Nat.mul_le_mul_right k hle
  rw [← List.append_assoc] at hw
  subst hw
  refine ⟨⟨by rw [flat_len enc k hk], Or.inr ⟨g, cap, _, rfl, hb, setRow_heap w g cur _ T _ hg, by rw [hel]; exact hle, hmax, ?_, ?_⟩⟩, ⟨rfl, rfl, rfl, by simp, fun q hq hne => setRow_other w g q _ (fun e => hne (by rw [e]))⟩⟩
  · simp only [List.size_toArray, List.length_append, List.length_take, List.length_drop, Array.length_toList, hln, hsz]
    omega
  · rw [hel, hln]
    have l1 : (cur.toList.take (i * k)).length = i * k := by rw [List.length_take, Array.length_toList, hsz]; omega
    have e1 : cur.toList.take (i * k) = (xs.take i).flatMap enc := by rw [← flat_take enc k hk, ← htk, List.take_take, Nat.min_eq_left (by omega)]
    have hlk : (xs.length - 1) * k = i * k + m * k := by rw [show xs.length - 1 = i + m by omega, Nat.add_mul]
    have e2 : (cur.toList.drop (i * k + m * k)).take k = enc last := by
      have h3 := flat_drop enc k hk xs (xs.length - 1)
      rw [← htk, List.drop_take, hlk, hxk] at h3
      have h4 : xs.drop (xs.length - 1) = [last] := by
        obtain ⟨h5, h6⟩ := List.getElem?_eq_some_iff.1 hl
        rw [List.drop_eq_getElem_cons h5, h6, List.drop_of_length_le (by omega)]
      rw [h4, show i * k + k + m * k - (i * k + m * k) = k by omega] at h3
      rw [h3]; simp
    rw [List.take_append, List.take_of_length_le (by rw [List.length_append, l1, hln]; omega), List.length_append, l1, hln, hxk, show i * k + k + m * k - (i * k + m * k) = k by omega, e2, e1]
    rw [List.flatMap_append, List.eraseIdx_eq_take_drop_succ, List.flatMap_append]
    simp
end
section
variable {α : Type} {enc : α → List Value} {k nb : Nat} {P : Program} {n : Nat} {l : Fr} {w : World} {d : Option Nat} {ty : TypeId} {pos : String} {af : Array Edge} {gd : Option (Nat × Bool)} {S T t : TypeId} {x y z z2 : Operand} {base g cap : Nat} {xs : List α} {Z : Value → World → Prop}
theorem act_appD (E : ElemT P S T k nb) (hk : ∀ x, (enc x).length = k) (h1c : ∀ x, ∀ v ∈ enc x, v.oneCell' = true) {i : Nat} {a : Option Addr} {m c : Nat} (hx : ev l x = some (.slice (some ⟨g, 0, none⟩) i cap)) (hy : ev l y = some (.slice a m c)) (ha : a = some ⟨g, 0 + (i + 1) * k, none⟩ ∨ (cap = i + 1 ∧ a = some ⟨g, 0, none⟩)) (hm : m = xs.length - (i + 1)) (ho : Own enc k T base w (.slice (some ⟨g, 0, none⟩) xs.length cap) xs) (hi : i < xs.length) {last : α} (hl : xs[xs.length - 1]? = some last)
    (h : ∀ w', Own enc k T base w' (.slice (some ⟨g, 0, none⟩) (xs.eraseIdx i ++ [last]).length cap) (xs.eraseIdx i ++ [last]) → w.grownBy w' (some g) → Z (.slice (some ⟨g, 0, none⟩) (i + m) cap) w') :
    Act1 P n l ⟨d, .call ⟨.builtin .append, #[x, y], #[S, S]⟩, ty, pos, af, gd⟩ w Z := by
  obtain ⟨cur, hb, hg, hle, hmax, hsz, htk⟩ := Own.heap' ho
  obtain ⟨inf, z, hif, hz, hisz, _, _⟩ := E.info
  have hln : ((xs.drop (i + 1)).flatMap enc).length = m * k := by rw [flat_len enc k hk, List.length_drop, hm]
  have hcells : ∀ ad, a = some ad → ∀ j u, ((xs.drop (i + 1)).flatMap enc)[j]? = some u → w.cell? (ad.add j) = some u := fun ad had j u hj => by
    have hlt : j < m * k := by rw [← hln]; exact (List.getElem?_eq_some_iff.1 hj).1
    rcases ha with ha | ⟨hc, _⟩
    · rw [had] at ha; injection ha with ha; subst ha
      rw [← flat_drop enc k hk, List.getElem?_drop, ← htk, List.getElem?_take] at hj
      split at hj
      · rw [Addr.add_lit, cell_of_row w g _ cur T (0, 0) hg]; simpa using hj
      · cases hj
    · have : m = 0 := by omega
      rw [this] at hlt; simp at hlt
  obtain ⟨ad, had⟩ : ∃ ad, a = some ad := by rcases ha with ha | ⟨_, ha⟩ <;> exact ⟨_, ha⟩
  have hone : ∀ u ∈ (xs.drop (i + 1)).flatMap enc, u.oneCell' = true := flat_one h1c _
  have hmk : i * k + m * k ≤ cur.size := by
    have h1 : (i + m) * k ≤ cap * k := Nat.mul_le_mul_right k (by omega)
    rw [Nat.add_mul] at h1; omega
  have hrun := run_append_room (P := P) w S ty T inf E.sl hif g i cap cur hg ad m c ((xs.drop (i + 1)).flatMap enc) (by rw [hisz]; exact hln) (hcells ad had) hone (by omega) (by rw [hisz, hln]; exact hmk)
  rw [hisz] at hrun
  obtain ⟨h1, h2⟩ := Own.shiftK hk ho hg hi hl (w' := _) rfl
  subst had
  exact act_ev ⟨fun A hA => by simp [execOp, resolve, hA.ev hx, hA.ev hy, invoke, builtin, hrun]⟩ (h _ h1 h2)
theorem pv_slice_3 {ad : Option Addr} {m c e : Nat} {k1 k2 k3 : IntKind} {i j q : Int} (ht : slB P t e = true) (hx : ev l x = some (.slice ad m c)) (hy : ev l y = some (.int k1 i)) (hz : ev l z = some (.int k2 j)) (hz2 : ev l z2 = some (.int k3 q)) (h : 0 ≤ i ∧ i ≤ j ∧ j ≤ q ∧ q ≤ c) :
    Pv P n l ⟨d, .slice t x (some y) (some z) (some z2), ty, pos, af, gd⟩ (.slice (if q.toNat = i.toNat then ad else ad.map (·.add (i.toNat * e))) (j.toNat - i.toNat) (q.toNat - i.toNat)) w := ⟨fun A hA => by
  obtain ⟨r, h1, h2⟩ := slB_of ht
  have h3 : i ≤ max j 0 := by omega
  have h4 : j ≤ max q 0 := by omega
  have h5 : 0 ≤ j := by omega
  have h6 : 0 ≤ q := by omega
  simp [execOp, hA.ev hx, hA.ev hy, hA.ev hz, hA.ev hz2, Instr.sliceAt, Instr.slice, run_underlying h1, Instr.sliceBounds, Instr.sliceBound, asIntOf, h.1, h.2.2.2, h5, h6, sizeB_run h2]
  rw [if_pos h4, if_pos h3]⟩
end
end Go.Proofs.YtkehmbgcglbffaaDoor
namespace Go.Proofs.YtkehmbgcglbffaaDoor
open Go.RowKit Go.PlainAid

theorem zeroP (w : World) : (zeroValue 34).run Tryd.prog w = .ok (.agg #[.int .i64 0, .int .i64 0, .int .i64 0, .int .u8 0, .int .i64 0, .int .i64 0]) w := by kernel_rfl
theorem zeroL (w : World) : (zeroValue 36).run Tryd.prog w = .ok (.agg #[.int .i64 0, .int .i64 0, .int .i64 0, .int .i64 0]) w := by kernel_rfl
set_option maxRecDepth 20000 in
theorem indexf_P {xs : List Opn} {m : Nat} {ad : Option Addr} {cap : Nat} {w : World} (base : Nat) (p : Opn → Bool) (F : FuncId) (caps : Array Value) (he : entersB Tryd.prog F = true) (hbw : base ≤ w.heap.size) (hF : ∀ x, x ∈ xs → ∀ w', Below base w w' → Calls Tryd.prog F (#[] ++ [Value.agg (encP x).toArray].toArray ++ caps) w' fun e w'' => e = .returned (.bool (p x)) ∧ Below w'.heap.size w' w'') (hm : xs.length = m) (HS : SlR encP 6 w ad cap xs) : Calls Tryd.prog 68 #[.slice ad m cap, .func (.func F) #[] caps] w fun e w' => (∃ i, e = .returned (.int .i64 i) ∧ ((i = -1 ∧ ∀ x ∈ xs, p x = false) ∨ ∃ (k : Nat) (r : Opn), i = k ∧ xs[k]? = some r ∧ p r = true ∧ ∀ x ∈ xs.take k, p x = false)) ∧ Below w.heap.size w w' := by
  subst hm
  have hw := Below.refl w.heap.size w
  have hla := HS.le
  have hma := HS.max
  refine fn_enter 19 Tryd.func68 rfl rfl rfl ?_
  repeat' (first | (refine lw_pure rfl (pv_move rfl) ?_) | (refine lw_pure rfl (pv_assign rfl) ?_) | (refine is_cw ?_; first | (refine cw_seq ?_) | (refine cw_region ?_) | (refine cw_block ?_)) | (refine is_qw ?_; first | (with_reducible refine qw_then ?_)) | (refine lw_nil ?_) | ((refine is_bi ?_; first | (refine lw_pure rfl (pv_lenl (tS rfl) rfl) ?_))))
  refine cw_loop (σ := Nat) (fun k => [(0, .slice ad xs.length cap), (1, .func (.func F) #[] caps), (7, .int .i64 (xs.length : Nat)), (8, .int .i64 (k : Nat))]) (fun k wr => k ≤ xs.length ∧ Below w.heap.size w wr ∧ ∀ x ∈ xs.take k, p x = false) (fun k => xs.length - k) 0 (by repeat' (first | exact trivial | refine ⟨rfl, ?_⟩)) ⟨Nat.zero_le _, hw, by simp⟩ ?_
  clear hw
  rintro k wr ⟨hk, hw, hn⟩
  by_cases hlt : k < xs.length
  · have hxk : xs[k]? = some xs[k] := List.getElem?_eq_getElem hlt
    have hmem := List.getElem_mem hlt
    obtain ⟨ab, ao, rfl, -, -⟩ := HS.at (by intro h; rw [h] at hlt; simp at hlt)
    generalize xs[k] = x at hxk hmem
    repeat' (first | (refine lw_pure rfl (pv_move rfl) ?_) | (refine lw_pure rfl (pv_assign rfl) ?_) | (refine is_cw ?_; first | (refine cw_seq ?_) | (refine cw_region ?_) | (refine is_cd ?_; refine cw_true rfl (by first | assumption | exact decide_eq_true (by omega) | exact dec_notT (by omega)) ?_) | (refine cw_skip ?_) | (refine cw_block ?_)) | (refine is_qw ?_; first | (with_reducible refine qw_then ?_)) | (refine lw_nil ?_) | ((refine is_bin ?_; first | (refine lw_pure rfl (pv_lss rfl rfl) ?_))) | ((refine is_load ?_; first | (refine lw_pure rfl (pv_loada (tA rfl) rfl (by first | exact SlR.lda (HS.mono hw) hxk) (by rfl)) ?_))) | ((refine is_ia ?_; first | (refine lw_pure rfl (pv_ian (tS rfl) rfl rfl (by omega)) ?_))))
    refine lw_callv (f := F) rfl he rfl rfl (hF x hmem _ (hw.mono hbw)) ?_; rintro e w1 ⟨rfl, hb⟩; refine ⟨_, rfl, ?_⟩; replace hw := grow_trans hw hb; clear hb
    cases hp : p x with
    | true =>
      repeat' (first | (refine lw_pure rfl (pv_move rfl) ?_) | (refine lw_pure rfl (pv_assign rfl) ?_) | (refine is_cw ?_; first | (refine cw_seq ?_) | (refine cw_region ?_) | (refine cw_true rfl rfl ?_) | (refine cw_ret ?_)) | (refine is_qw ?_; first | (with_reducible refine qw_then ?_) | (with_reducible refine qw_then_ret ?_) | (with_reducible refine qw_in_ret ?_)) | (refine lw_nil ?_))
      exact qw_ret1 rfl rfl ⟨⟨_, rfl, Or.inr ⟨k, x, rfl, hxk, hp, hn⟩⟩, hw⟩
    | false =>
      repeat' (first | (refine lw_pure rfl (pv_move rfl) ?_) | (refine is_cw ?_; first | (refine cw_region ?_) | (refine cw_false rfl rfl ?_) | (refine cw_skip ?_)) | (refine is_qw ?_; first | (with_reducible refine qw_then ?_) | (with_reducible refine qw_in ?_)) | (refine lw_nil ?_) | ((refine is_bin ?_; first | (refine lw_pure rfl (pv_inc rfl rfl (by omega)) ?_))))
      refine qw_round (k + 1) (by repeat' (first | exact trivial | refine ⟨rfl, ?_⟩)) ⟨by omega, hw, ?_⟩ (by omega)
      intro y hy
      rw [List.take_add_one, hxk] at hy
      rcases List.mem_append.1 hy with hy | hy
      · exact hn y hy
      · simp at hy; subst hy; exact hp
  · have hkl : k = xs.length := by omega
    subst hkl
    rw [List.take_length] at hn
    repeat' (first | (refine lw_pure rfl (pv_assign rfl) ?_) | (refine is_cw ?_; first | (refine cw_seq ?_) | (refine cw_region ?_) | (refine is_cd ?_; refine cw_false rfl (by first | assumption | exact decide_eq_false (by omega) | exact dec_notF (by omega)) ?_) | (refine cw_exit ?_) | (refine cw_ret ?_)) | (refine is_qw ?_; first | (with_reducible refine qw_then ?_) | (with_reducible refine qw_in_hit ?_) | (with_reducible refine qw_then_exit ?_)) | (refine lw_nil ?_) | ((refine is_bin ?_; first | (refine lw_pure rfl (pv_lss rfl rfl) ?_))))
    exact qw_ret1 rfl rfl ⟨⟨_, rfl, Or.inl ⟨rfl, hn⟩⟩, hw⟩

set_option maxRecDepth 20000 in
theorem indexf_L {xs : List Lt} {m : Nat} {ad : Option Addr} {cap : Nat} {w : World} (base : Nat) (p : Lt → Bool) (F : FuncId) (caps : Array Value) (he : entersB Tryd.prog F = true) (hbw : base ≤ w.heap.size) (hF : ∀ x, x ∈ xs → ∀ w', Below base w w' → Calls Tryd.prog F (#[] ++ [Value.agg (encL x).toArray].toArray ++ caps) w' fun e w'' => e = .returned (.bool (p x)) ∧ Below w'.heap.size w' w'') (hm : xs.length = m) (HS : SlR encL 4 w ad cap xs) : Calls Tryd.prog 42 #[.slice ad m cap, .func (.func F) #[] caps] w fun e w' => (∃ i, e = .returned (.int .i64 i) ∧ ((i = -1 ∧ ∀ x ∈ xs, p x = false) ∨ ∃ (k : Nat) (r : Lt), i = k ∧ xs[k]? = some r ∧ p r = true ∧ ∀ x ∈ xs.take k, p x = false)) ∧ Below w.heap.size w w' := by
  subst hm
  have hw := Below.refl w.heap.size w
  have hla := HS.le
  have hma := HS.max
  refine fn_enter 19 Tryd.func42 rfl rfl rfl ?_
  repeat' (first | (refine lw_pure rfl (pv_move rfl) ?_) | (refine lw_pure rfl (pv_assign rfl) ?_) | (refine is_cw ?_; first | (refine cw_seq ?_) | (refine cw_region ?_) | (refine cw_block ?_)) | (refine is_qw ?_; first | (with_reducible refine qw_then ?_)) | (refine lw_nil ?_) | ((refine is_bi ?_; first | (refine lw_pure rfl (pv_lenl (tS rfl) rfl) ?_))))
  refine cw_loop (σ := Nat) (fun k => [(0, .slice ad xs.length cap), (1, .func (.func F) #[] caps), (7, .int .i64 (xs.length : Nat)), (8, .int .i64 (k : Nat))]) (fun k wr => k ≤ xs.length ∧ Below w.heap.size w wr ∧ ∀ x ∈ xs.take k, p x = false) (fun k => xs.length - k) 0 (by repeat' (first | exact trivial | refine ⟨rfl, ?_⟩)) ⟨Nat.zero_le _, hw, by simp⟩ ?_
  clear hw
  rintro k wr ⟨hk, hw, hn⟩
  by_cases hlt : k < xs.length
  · have hxk : xs[k]? = some xs[k] := List.getElem?_eq_getElem hlt
    have hmem := List.getElem_mem hlt
    obtain ⟨ab, ao, rfl, -, -⟩ := HS.at (by intro h; rw [h] at hlt; simp at hlt)
    generalize xs[k] = x at hxk hmem
    repeat' (first | (refine lw_pure rfl (pv_move rfl) ?_) | (refine lw_pure rfl (pv_assign rfl) ?_) | (refine is_cw ?_; first | (refine cw_seq ?_) | (refine cw_region ?_) | (refine is_cd ?_; refine cw_true rfl (by first | assumption | exact decide_eq_true (by omega) | exact dec_notT (by omega)) ?_) | (refine cw_skip ?_) | (refine cw_block ?_)) | (refine is_qw ?_; first | (with_reducible refine qw_then ?_)) | (refine lw_nil ?_) | ((refine is_bin ?_; first | (refine lw_pure rfl (pv_lss rfl rfl) ?_))) | ((refine is_load ?_; first | (refine lw_pure rfl (pv_loada (tA rfl) rfl (by first | exact SlR.lda (HS.mono hw) hxk) (by rfl)) ?_))) | ((refine is_ia ?_; first | (refine lw_pure rfl (pv_ian (tS rfl) rfl rfl (by omega)) ?_))))
    refine lw_callv (f := F) rfl he rfl rfl (hF x hmem _ (hw.mono hbw)) ?_; rintro e w1 ⟨rfl, hb⟩; refine ⟨_, rfl, ?_⟩; replace hw := grow_trans hw hb; clear hb
    cases hp : p x with
    | true =>
      repeat' (first | (refine lw_pure rfl (pv_move rfl) ?_) | (refine lw_pure rfl (pv_assign rfl) ?_) | (refine is_cw ?_; first | (refine cw_seq ?_) | (refine cw_region ?_) | (refine cw_true rfl rfl ?_) | (refine cw_ret ?_)) | (refine is_qw ?_; first | (with_reducible refine qw_then ?_) | (with_reducible refine qw_then_ret ?_) | (with_reducible refine qw_in_ret ?_)) | (refine lw_nil ?_))
      exact qw_ret1 rfl rfl ⟨⟨_, rfl, Or.inr ⟨k, x, rfl, hxk, hp, hn⟩⟩, hw⟩
    | false =>
      repeat' (first | (refine lw_pure rfl (pv_move rfl) ?_) | (refine is_cw ?_; first | (refine cw_region ?_) | (refine cw_false rfl rfl ?_) | (refine cw_skip ?_)) | (refine is_qw ?_; first | (with_reducible refine qw_then ?_) | (with_reducible refine qw_in ?_)) | (refine lw_nil ?_) | ((refine is_bin ?_; first | (refine lw_pure rfl (pv_inc rfl rfl (by omega)) ?_))))
      refine qw_round (k + 1) (by repeat' (first | exact trivial | refine ⟨rfl, ?_⟩)) ⟨by omega, hw, ?_⟩ (by omega)
      intro y hy
      rw [List.take_add_one, hxk] at hy
      rcases List.mem_append.1 hy with hy | hy
      · exact hn y hy
      · simp at hy; subst hy; exact hp
  · have hkl : k = xs.length := by omega
    subst hkl
    rw [List.take_length] at hn
    repeat' (first | (refine lw_pure rfl (pv_assign rfl) ?_) | (refine is_cw ?_; first | (refine cw_seq ?_) | (refine cw_region ?_) | (refine is_cd ?_; refine cw_false rfl (by first | assumption | exact decide_eq_false (by omega) | exact dec_notF (by omega)) ?_) | (refine cw_exit ?_) | (refine cw_ret ?_)) | (refine is_qw ?_; first | (with_reducible refine qw_then ?_) | (with_reducible refine qw_in_hit ?_) | (with_reducible refine qw_then_exit ?_)) | (refine lw_nil ?_) | ((refine is_bin ?_; first | (refine lw_pure rfl (pv_lss rfl rfl) ?_))))
    exact qw_ret1 rfl rfl ⟨⟨_, rfl, Or.inl ⟨rfl, hn⟩⟩, hw⟩

set_option maxRecDepth 20000 in
set_option maxHeartbeats 1000000 in
theorem delfg_P {xs : List Opn} {v : Value} {w : World} (base : Nat) (p : Opn → Bool) (F : FuncId) (caps : Array Value) (he : entersB Tryd.prog F = true) (hbw : base ≤ w.heap.size) (hF : ∀ x, x ∈ xs → ∀ w', Below base w w' → Calls Tryd.prog F (#[] ++ [Value.agg (encP x).toArray].toArray ++ caps) w' fun e w'' => e = .returned (.bool (p x)) ∧ Below w'.heap.size w' w'') (hO : Own encP 6 34 base w v xs) : Calls Tryd.prog 49 #[v, .func (.func F) #[] caps] w fun e w' => (∃ v', e = .returned v' ∧ Own encP 6 34 base w' v' (xs.filter fun x => !p x)) ∧ w.grownBy w' v.ownBlock ∧ Below base w w' := by
  have hw := Below.refl w.heap.size w
  obtain ⟨ad, cap, rfl, HS, hbase⟩ := Own.slR encP_len hO
  have hla := HS.le
  have hma := HS.max
  refine fn_enter 42 Tryd.func49 rfl rfl rfl ?_
  repeat' (first | (refine lw_pure rfl (pv_move rfl) ?_) | (refine lw_pure rfl (pv_assign rfl) ?_) | (refine is_cw ?_; first | (refine cw_seq ?_) | (refine cw_region ?_)) | (refine is_qw ?_; first | (with_reducible refine qw_then ?_)) | (refine lw_nil ?_))
  refine lw_call (f := 68) (by kernel_rfl) rfl rfl (indexf_P base p F caps he hbw hF rfl HS) ?_; rintro e w1 ⟨⟨i, rfl, hi⟩, hb⟩; refine ⟨_, rfl, ?_⟩; replace hw := grow_trans hw hb; replace hO := hO.mono hb; clear hb
  rcases hi with ⟨rfl, hn⟩ | ⟨i, r, rfl, hxi, hr, hn⟩
  · repeat' (first | (refine lw_pure rfl (pv_move rfl) ?_) | (refine lw_pure rfl (pv_assign rfl) ?_) | (refine is_cw ?_; first | (refine cw_seq ?_) | (refine cw_region ?_) | (refine cw_true rfl rfl ?_) | (refine cw_ret ?_)) | (refine is_qw ?_; first | (with_reducible refine qw_then ?_) | (with_reducible refine qw_then_ret ?_)) | (refine lw_nil ?_) | ((refine is_bin ?_; first | (refine lw_pure rfl (pv_eql rfl rfl) ?_))))
    refine qw_ret1 rfl rfl ⟨⟨_, rfl, ?_⟩, gb_of hw _, hw.mono hbw⟩
    rw [List.filter_eq_self.2 (fun x hx => by simp [hn x hx])]; exact hO
  · have hil : i < xs.length := (List.getElem?_eq_some_iff.1 hxi).1
    obtain ⟨g, rfl⟩ : ∃ g, ad = some ⟨g, 0, none⟩ := by
      cases ad with
      | none => have := (HS.ofNone rfl).1; subst this; simp at hil
      | some a =>
        obtain ⟨b, o, sp⟩ := a
        obtain ⟨h1, _⟩ := HS.ofSome _ rfl (by have := HS.le; omega)
        have h2 := (hbase _ rfl).2
        simp only at h1 h2
        exact ⟨b, by rw [h1, h2]⟩
    have hgb : base ≤ g := (hbase _ rfl).1
    have hG := gb_of hw (some g)
    replace hw := hw.mono hbw
    have hs1 : base ≤ w1.heap.size := Nat.le_trans hbw hw.size
    repeat' (first | (refine lw_pure rfl (pv_move rfl) ?_) | (refine lw_pure rfl (pv_assign rfl) ?_) | (refine is_cw ?_; first | (refine cw_seq ?_) | (refine cw_region ?_) | (refine cw_false rfl rfl ?_) | (refine cw_skip ?_) | (refine cw_block ?_)) | (refine is_qw ?_; first | (with_reducible refine qw_then ?_)) | (refine lw_nil ?_) | ((refine is_bin ?_; first | (refine lw_pure rfl (pv_eql rfl rfl) ?_) | (refine lw_pure rfl (pv_inc rfl rfl (by omega)) ?_))))
    refine cw_loop (σ := (Nat × Nat) × List Opn) (fun s => [(0, .slice (some ⟨g, 0, none⟩) xs.length cap), (1, .func (.func F) #[] caps), (5, .int .i64 (s.1.1 : Nat)), (6, .int .i64 (s.1.2 : Nat))]) (fun s wr => (s.1.2 ≤ xs.length ∧ s.1.1 < s.1.2) ∧ (Below base w wr ∧ w.grownBy wr (some g)) ∧ Own encP 6 34 base wr (.slice (some ⟨g, 0, none⟩) xs.length cap) s.2 ∧ s.2.length = xs.length ∧ s.2.take s.1.1 = (xs.take s.1.2).filter (fun x => !p x) ∧ s.2.drop s.1.2 = xs.drop s.1.2) (fun s => xs.length - s.1.2) ((i, i + 1), xs) (by repeat' (first | exact trivial | refine ⟨rfl, ?_⟩)) ⟨⟨by show i + 1 ≤ _; omega, by show i < i + 1; omega⟩, ⟨hw, hG⟩, hO, rfl, ?_, rfl⟩ ?_
    · show xs.take i = _
      rw [List.take_add_one, hxi, List.filter_append, List.filter_eq_self.2 (fun x hx => by simp [hn x hx])]
      simp [hr]
    clear hw hO hG
    rintro ⟨⟨i, j⟩, ys⟩ wr ⟨⟨hj, hij⟩, ⟨hw, hG⟩, hO, hyl, hti, hdj⟩
    change CW _ _ _ _ [(0, .slice (some ⟨g, 0, none⟩) xs.length cap), (1, .func (.func F) #[] caps), (5, .int .i64 (i : Nat)), (6, .int .i64 (j : Nat))] wr
    dsimp only at hj hij hO hyl hti hdj
    rw [← hyl] at hO
    have hbr : base ≤ wr.heap.size := Nat.le_trans hbw hw.size
    by_cases hlt : j < xs.length
    · have hxj : xs[j]? = some xs[j] := List.getElem?_eq_getElem hlt
      have hyj : ys[j]? = some xs[j] := by
        have := congrArg (fun l => l[0]?) hdj
        simp only [List.getElem?_drop, Nat.add_zero] at this
        rw [this, hxj]
      have hmem := List.getElem_mem hlt
      generalize xs[j] = x at hxj hyj hmem
      obtain ⟨a', c', hv', HY, -⟩ := Own.slR encP_len hO
      injection hv' with h1 h2 h3
      subst h1 h3
      have hw0 := hw
      clear hw
      have hw := Below.refl wr.heap.size wr
      repeat' (first | (refine lw_pure rfl (pv_move rfl) ?_) | (refine is_cw ?_; first | (refine cw_seq ?_) | (refine cw_region ?_) | (refine is_cd ?_; refine cw_true rfl (by first | assumption | exact decide_eq_true (by omega) | exact dec_notT (by omega)) ?_) | (refine cw_skip ?_) | (refine cw_block ?_)) | (refine is_qw ?_; first | (with_reducible refine qw_then ?_)) | (refine lw_nil ?_) | ((refine is_bin ?_; first | (refine lw_pure rfl (pv_lss rfl rfl) ?_))) | ((refine is_load ?_; first | (refine lw_pure rfl (pv_loada (tA rfl) rfl (by first | exact SlR.lda (HY.mono hw) hyj) (by rfl)) ?_))) | ((refine is_ia ?_; first | (refine lw_pure rfl (pv_ian (tS rfl) rfl rfl (by omega)) ?_))) | ((refine is_bi ?_; first | (refine lw_pure rfl (pv_lenl (tS rfl) rfl) ?_))))
      refine lw_varN rfl (by first | exact tyv_25 | exact tyv_26 | exact tyv_33 | exact tyv_34 | exact tyv_35 | exact tyv_36 | exact tyv_37 | exact tyv_50 | exact tyv_51 | exact tyv_81 | exact tyv_82) rfl (tZ rfl) (fun _ => rfl) rfl rfl ?_; intro N wn hN HX hb; replace hN := Nat.le_trans hw.size hN; replace hw := grow_trans hw hb; clear hb
      replace hO := hO.mono hw
      replace hw0 := hw0.trans (hw.mono hbr)
      replace hG := gb_below hG hw
      ; clear hw; have hw := Below.refl wn.heap.size wn
      repeat' (first | (refine lw_pure rfl (pv_move rfl) ?_) | (refine is_cw ?_; first | (refine cw_seq ?_) | (refine cw_region ?_)) | (refine is_qw ?_; first | (with_reducible refine qw_then ?_)) | (refine lw_nil ?_) | ((refine is_load ?_; first | (refine lw_pure rfl (pv_loada (tA rfl) rfl (by first | exact PT.lda (HX.mono hw)) (by rfl)) ?_))))
      refine lw_callv (f := F) rfl he rfl rfl (hF x hmem _ hw0) ?_; rintro e w2 ⟨rfl, hb⟩; refine ⟨_, rfl, ?_⟩
      replace hO := hO.mono hb
      replace HX := HX.mono hb
      replace hw0 := hw0.trans (hb.mono (Nat.le_trans hbw hw0.size))
      replace hG := gb_below hG hb
      clear hb hw
      have hw := Below.refl w2.heap.size w2
      cases hp : p x with
      | true =>
        repeat' (first | (refine lw_pure rfl (pv_move rfl) ?_) | (refine lw_pure rfl (pv_assign rfl) ?_) | (refine is_cw ?_; first | (refine cw_region ?_) | (refine cw_false rfl rfl ?_) | (refine cw_skip ?_)) | (refine is_qw ?_; first | (with_reducible refine qw_then ?_) | (with_reducible refine qw_in ?_)) | (refine lw_nil ?_) | ((refine is_bin ?_; first | (refine lw_pure rfl (pv_inc rfl rfl (by omega)) ?_))) | ((refine is_un ?_; first | (refine lw_pure rfl (pv_not rfl) ?_))))
        refine qw_round ((i, j + 1), ys) (by repeat' (first | exact trivial | refine ⟨rfl, ?_⟩)) ⟨⟨by show j + 1 ≤ _; omega, by show i < j + 1; omega⟩, ⟨hw0, hG⟩, by rw [← hyl]; exact hO, hyl, ?_, ?_⟩ (by show xs.length - (j + 1) < xs.length - j; omega)
        · show ys.take i = (xs.take (j + 1)).filter _
          rw [hti, List.take_add_one, hxj, List.filter_append]; simp [hp]
        · show ys.drop (j + 1) = xs.drop (j + 1)
          rw [← List.drop_drop, hdj, List.drop_drop]
      | false =>
        have hiy : i < ys.length := by omega
        repeat' (first | (refine lw_pure rfl (pv_move rfl) ?_) | (refine is_cw ?_; first | (refine cw_seq ?_) | (refine cw_region ?_) | (refine cw_true rfl rfl ?_)) | (refine is_qw ?_; first | (with_reducible refine qw_then ?_)) | (refine lw_nil ?_) | ((refine is_load ?_; first | (refine lw_pure rfl (pv_loada (tA rfl) rfl (by first | exact PT.lda (HX.mono hw)) (by rfl)) ?_))) | ((refine is_ia ?_; first | (refine lw_pure rfl (pv_ian (tS rfl) rfl rfl (by omega)) ?_))) | ((refine is_un ?_; first | (refine lw_pure rfl (pv_not rfl) ?_))))
        refine lw_storeO (i := i) (u := x) (tZ rfl) encP_len encP_one rfl (by omega) rfl rfl hO hiy ?_; intro w3 hO3 hg3 hz3
        replace hw0 := hw0.grown hg3 (Nat.le_trans hbw hw0.size) (by intro q hq; injection hq with hq; omega)
        replace hG := gb_trans hG hg3
        repeat' (first | (refine lw_pure rfl (pv_move rfl) ?_) | (refine lw_pure rfl (pv_assign rfl) ?_) | (refine is_cw ?_; first | (refine cw_region ?_)) | (refine is_qw ?_; first | (with_reducible refine qw_then ?_) | (with_reducible refine qw_in ?_)) | (refine lw_nil ?_) | ((refine is_bin ?_; first | (refine lw_pure rfl (pv_inc rfl rfl (by omega)) ?_))))
        refine qw_round ((i + 1, j + 1), ys.set i x) (by repeat' (first | exact trivial | refine ⟨rfl, ?_⟩)) ⟨⟨by show j + 1 ≤ _; omega, by show i + 1 < j + 1; omega⟩, ⟨hw0, hG⟩, by rw [← hyl]; exact hO3, by rw [List.length_set]; exact hyl, ?_, ?_⟩ (by show xs.length - (j + 1) < xs.length - j; omega)
        · show (ys.set i x).take (i + 1) = (xs.take (j + 1)).filter _
          rw [List.take_add_one, List.getElem?_set, if_pos rfl, if_pos hiy, List.take_set_of_le (Nat.le_refl _), hti, List.take_add_one, hxj, List.filter_append]; simp [hp]
        · show (ys.set i x).drop (j + 1) = xs.drop (j + 1)
          rw [List.drop_set_of_lt (by omega), ← List.drop_drop, hdj, List.drop_drop]
    · have hjl : j = xs.length := by omega
      subst hjl
      rw [List.take_length] at hti
      have hw0 := hw
      clear hw
      have hw := Below.refl wr.heap.size wr
      repeat' (first | (refine lw_pure rfl (pv_move rfl) ?_) | (refine is_cw ?_; first | (refine cw_seq ?_) | (refine cw_region ?_) | (refine is_cd ?_; refine cw_false rfl (by first | assumption | exact decide_eq_false (by omega) | exact dec_notF (by omega)) ?_) | (refine cw_exit ?_)) | (refine is_qw ?_; first | (with_reducible refine qw_then ?_) | (with_reducible refine qw_in_hit ?_) | (with_reducible refine qw_then_exit ?_)) | (refine lw_nil ?_) | ((refine is_bin ?_; first | (refine lw_pure rfl (pv_lss rfl rfl) ?_))) | ((refine is_bi ?_; first | (refine lw_pure rfl (pv_lenl (tS rfl) rfl) ?_))) | (refine is_sl ?_; refine lw_pure rfl (pv_slice_l (tS rfl) rfl rfl (by omega)) ?_))
      refine lw_clear (i := i) elemP encP_len zeroP rfl rfl rfl ?_ (by rw [hyl]; simp) (by simp) hO (by omega) ?_
      · have hci : ¬ cap = i := by omega
        simp only [Int.toNat_natCast, if_neg hci, Option.map_some, Addr.add_lit, Nat.zero_add]
      intro w3 hg3 hO3
      replace hw0 := hw0.grown hg3 (Nat.le_trans hbw hw0.size) (by intro q hq; injection hq with hq; omega)
      replace hG := gb_trans hG hg3
      repeat' (first | (refine lw_pure rfl (pv_move rfl) ?_) | (refine lw_pure rfl (pv_assign rfl) ?_) | (refine is_cw ?_; first | (refine cw_seq ?_) | (refine cw_region ?_) | (refine cw_ret ?_)) | (refine is_qw ?_; first | (with_reducible refine qw_then ?_)) | (refine lw_nil ?_) | (refine is_sl ?_; refine lw_pure rfl (pv_slice_h (tS rfl) rfl rfl (by omega)) ?_))
      refine qw_ret1 rfl rfl ⟨⟨_, rfl, ?_⟩, hG, hw0⟩
      rw [← hti]
      simpa using hO3

set_option maxRecDepth 20000 in
theorem clone_P {xs : List Opn} {m : Nat} {ad : Option Addr} {cap : Nat} {w : World} (hm : xs.length = m) (HS : SlR encP 6 w ad cap xs) (hl : xs.length ≤ 1048576) : Calls Tryd.prog 14 #[.slice ad m cap] w fun e w' => (∃ v, e = .returned v ∧ Own encP 6 34 w.heap.size w' v xs) ∧ Below w.heap.size w w' := by
  subst hm
  have hw := Below.refl w.heap.size w
  refine fn_enter 8 Tryd.func14 rfl rfl rfl ?_
  cases ad with
  | none =>
    obtain ⟨rfl, rfl⟩ := HS.ofNone rfl
    repeat' (first | (refine lw_pure rfl (pv_move rfl) ?_) | (refine lw_pure rfl (pv_assign rfl) ?_) | (refine lw_pure rfl (pv_slnil (tS rfl) rfl rfl) ?_) | (refine is_cw ?_; first | (refine cw_seq ?_) | (refine cw_region ?_) | (refine cw_true rfl rfl ?_) | (refine cw_ret ?_)) | (refine is_qw ?_; first | (with_reducible refine qw_then ?_) | (with_reducible refine qw_then_ret ?_)) | (refine lw_nil ?_))
    exact qw_ret1 rfl rfl ⟨⟨_, rfl, Own.nil _⟩, hw⟩
  | some ad =>
    repeat' (first | (refine lw_pure rfl (pv_move rfl) ?_) | (refine lw_pure rfl (pv_assign rfl) ?_) | (refine lw_pure rfl (pv_slnil (tS rfl) rfl rfl) ?_) | (refine is_cw ?_; first | (refine cw_seq ?_) | (refine cw_region ?_) | (refine cw_false rfl rfl ?_) | (refine cw_skip ?_)) | (refine is_qw ?_; first | (with_reducible refine qw_then ?_)) | (refine lw_nil ?_))
    refine lw_bs0 (enc := encP) elemP rfl ?_; intro wn hO hb hz
    repeat' (first | (refine lw_pure rfl (pv_move rfl) ?_))
    refine lw_app elemP encP_len encP_one rfl rfl rfl hO (HS.mono (grow_trans hw hb)) rfl (by omega) (by simp; omega) (by simp [maxLen]; omega) ?_; intro vm wn hOm hg hb9
    replace hb := hb.trans hb9
    repeat' (first | (refine lw_pure rfl (pv_assign rfl) ?_) | (refine is_cw ?_; first | (refine cw_ret ?_)) | (refine is_qw ?_; first | (with_reducible refine qw_then ?_)) | (refine lw_nil ?_))
    exact qw_ret1 rfl rfl ⟨⟨_, rfl, hOm⟩, hb⟩

set_option maxRecDepth 20000 in
theorem clone_L {xs : List Lt} {m : Nat} {ad : Option Addr} {cap : Nat} {w : World} (hm : xs.length = m) (HS : SlR encL 4 w ad cap xs) (hl : xs.length ≤ 1048576) : Calls Tryd.prog 15 #[.slice ad m cap] w fun e w' => (∃ v, e = .returned v ∧ Own encL 4 36 w.heap.size w' v xs) ∧ Below w.heap.size w w' := by
  subst hm
  have hw := Below.refl w.heap.size w
  refine fn_enter 8 Tryd.func15 rfl rfl rfl ?_
  cases ad with
  | none =>
    obtain ⟨rfl, rfl⟩ := HS.ofNone rfl
    repeat' (first | (refine lw_pure rfl (pv_move rfl) ?_) | (refine lw_pure rfl (pv_assign rfl) ?_) | (refine lw_pure rfl (pv_slnil (tS rfl) rfl rfl) ?_) | (refine is_cw ?_; first | (refine cw_seq ?_) | (refine cw_region ?_) | (refine cw_true rfl rfl ?_) | (refine cw_ret ?_)) | (refine is_qw ?_; first | (with_reducible refine qw_then ?_) | (with_reducible refine qw_then_ret ?_)) | (refine lw_nil ?_))
    exact qw_ret1 rfl rfl ⟨⟨_, rfl, Own.nil _⟩, hw⟩
  | some ad =>
    repeat' (first | (refine lw_pure rfl (pv_move rfl) ?_) | (refine lw_pure rfl (pv_assign rfl) ?_) | (refine lw_pure rfl (pv_slnil (tS rfl) rfl rfl) ?_) | (refine is_cw ?_; first | (refine cw_seq ?_) | (refine cw_region ?_) | (refine cw_false rfl rfl ?_) | (refine cw_skip ?_)) | (refine is_qw ?_; first | (with_reducible refine qw_then ?_)) | (refine lw_nil ?_))
    refine lw_bs0 (enc := encL) elemL rfl ?_; intro wn hO hb hz
    repeat' (first | (refine lw_pure rfl (pv_move rfl) ?_))
    refine lw_app elemL encL_len encL_one rfl rfl rfl hO (HS.mono (grow_trans hw hb)) rfl (by omega) (by simp; omega) (by simp [maxLen]; omega) ?_; intro vm wn hOm hg hb9
    replace hb := hb.trans hb9
    repeat' (first | (refine lw_pure rfl (pv_assign rfl) ?_) | (refine is_cw ?_; first | (refine cw_ret ?_)) | (refine is_qw ?_; first | (with_reducible refine qw_then ?_)) | (refine lw_nil ?_))
    exact qw_ret1 rfl rfl ⟨⟨_, rfl, hOm⟩, hb⟩

set_option maxRecDepth 20000 in
set_option maxHeartbeats 2000000 in
theorem delone_P {xs : List Opn} {v : Value} {w : World} (base : Nat) (i : Nat) (hi : i < xs.length) (hbw : base ≤ w.heap.size) (hO : Own encP 6 34 base w v xs) : Calls Tryd.prog 48 #[v, .int .i64 (i : Nat), .int .i64 ((i : Int) + 1)] w fun e w' => (∃ v', e = .returned v' ∧ Own encP 6 34 base w' v' (xs.eraseIdx i)) ∧ w.grownBy w' v.ownBlock ∧ Below base w w' := by
  have hb0 := Below.refl base w
  obtain ⟨ad, cap, rfl, HS, hbase⟩ := Own.slR encP_len hO
  have hla := HS.le
  have hma := HS.max
  obtain ⟨g, rfl⟩ : ∃ g, ad = some ⟨g, 0, none⟩ := by
    cases ad with
    | none => have := (HS.ofNone rfl).1; subst this; simp at hi
    | some a =>
      obtain ⟨b, o, sp⟩ := a
      obtain ⟨h1, _⟩ := HS.ofSome _ rfl (by have := HS.le; omega)
      have h2 := (hbase _ rfl).2
      simp only at h1 h2
      exact ⟨b, by rw [h1, h2]⟩
  have hgb : base ≤ g := (hbase _ rfl).1
  obtain ⟨last, hlast⟩ : ∃ last, xs[xs.length - 1]? = some last := ⟨_, List.getElem?_eq_getElem (by omega)⟩
  have hel : (xs.eraseIdx i).length = xs.length - 1 := List.length_eraseIdx_of_lt hi
  have hw := Below.refl w.heap.size w
  refine fn_enter 33 Tryd.func48 rfl rfl rfl ?_
  repeat' (first | (refine lw_pure rfl (pv_move rfl) ?_) | (refine lw_pure rfl (pv_assign rfl) ?_) | (refine lw_pure rfl (pv_slice_3 (tS rfl) rfl rfl rfl rfl (by omega)) ?_) | (refine is_cw ?_; first | (refine cw_seq ?_) | (refine cw_region ?_) | (refine is_cd ?_; refine cw_false rfl (by first | assumption | exact decide_eq_false (by omega) | exact dec_notF (by omega)) ?_) | (refine cw_skip ?_)) | (refine is_qw ?_; first | (with_reducible refine qw_then ?_)) | (refine lw_nil ?_) | ((refine is_bin ?_; first | (refine lw_pure rfl (pv_eql rfl rfl) ?_))) | ((refine is_bi ?_; first | (refine lw_pure rfl (pv_lenl (tS rfl) rfl) ?_))))
  have e9 : ((i : Int) + 1).toNat = i + 1 := by omega
  refine cw_drawn (fun w' => w.grownBy w' (some g)) (by kernel_rfl) (by repeat (first | exact NoPanic.body | with_reducible refine NoPanic.then ?_ | with_reducible refine NoPanic.inBlock ?_)) (fun hNP => ?_)
  have hS := gb_of (below_drew w) (some g)
  (refine at0 0 rfl (fun w' hq => pv_move rfl) ?_)
  (refine at0 1 rfl (fun w' hq => pv_move rfl) ?_)
  (refine at0 2 rfl (fun w' hq => pv_slice_h (tS rfl) rfl rfl (by omega)) ?_)
  (refine at0 3 rfl (fun w' hq => pv_move rfl) ?_)
  (refine at0 4 rfl (fun w' hq => pv_move rfl) ?_)
  (refine at0 5 rfl (fun w' hq => pv_slice_l (tS rfl) rfl rfl (by omega)) ?_)
  refine aw_act 6 (by kernel_rfl) rfl rfl rfl ?_
  refine act_appD (xs := xs) (i := i) elemP encP_len encP_one rfl rfl (by rw [e9]; by_cases hc : cap = i + 1; (exact Or.inr ⟨hc, by rw [if_pos hc]⟩); (exact Or.inl (by rw [if_neg hc]; simp [Addr.add_lit]))) (by rw [e9]) (hO.mono (below_drew _)) hi hlast ?_; intro w2 hO2 hg2; refine ⟨gb_trans hS hg2, fun hS => ?_⟩
  (refine at0 7 rfl (fun w' hq => pv_assign rfl) ?_)
  refine aw_done (by kernel_rfl) ?_
  replace hb1 := hS; clear hS hNP
  have hl2 : (xs.eraseIdx i ++ [last]).length = xs.length := by rw [List.length_append, hel]; simp; omega
  have htk : (xs.eraseIdx i ++ [last]).take (xs.length - 1) = xs.eraseIdx i := by rw [List.take_append_of_le_length (by omega), List.take_of_length_le (by omega)]
  have hnn : ((i + (xs.length - (i + 1)) : Nat) : Int) = ((xs.length - 1 : Nat) : Int) := by omega
  have hw := Below.refl w2.heap.size w2
  repeat' (first | (refine lw_pure rfl (pv_move rfl) ?_) | (refine is_cw ?_; first | (refine cw_seq ?_) | (refine cw_region ?_)) | (refine is_qw ?_; first | (with_reducible refine qw_then ?_)) | ((refine is_bi ?_; first | (refine lw_pure rfl (pv_lenl (tS rfl) rfl) ?_))) | (refine is_sl ?_; refine lw_pure rfl (pv_slice_lh (tS rfl) rfl rfl rfl (by omega)) ?_))
  refine lw_clear (i := xs.length - 1) elemP encP_len zeroP rfl rfl rfl ?_ ?_ ?_ hO2 (by omega) ?_
  · have hc9 : i + (xs.length - ((i : Int) + 1).toNat) = xs.length - 1 := by omega
    have hc8 : ¬ cap = xs.length - 1 := by omega
    simp only [Int.toNat_natCast, hc9, if_neg hc8, Option.map_some, Addr.add_lit, Nat.zero_add]
  · omega
  · omega
  intro w3 hg3 hO3
  rw [htk, ← hel] at hO3
  have hb3 := gb_trans hb1 hg3
  have hb2 := hb0.grown hb3 hbw (by intro q hq; injection hq with hq; omega)
  repeat' (first | (refine lw_pure rfl (pv_move rfl) ?_) | (refine lw_pure rfl (pv_assign rfl) ?_) | (refine is_cw ?_; first | (refine cw_seq ?_) | (refine cw_region ?_) | (refine cw_ret ?_)) | (refine is_qw ?_; first | (with_reducible refine qw_then ?_)) | (refine lw_nil ?_))
  refine qw_ret1 rfl rfl ⟨⟨_, rfl, ?_⟩, hb3, hb2⟩
  rw [show i + (xs.length - ((i : Int) + 1).toNat) = (xs.eraseIdx i).length by omega]
  exact hO3

set_option maxRecDepth 20000 in
set_option maxHeartbeats 2000000 in
theorem delone_L {xs : List Lt} {v : Value} {w : World} (base : Nat) (i : Nat) (hi : i < xs.length) (hbw : base ≤ w.heap.size) (hO : Own encL 4 36 base w v xs) : Calls Tryd.prog 53 #[v, .int .i64 (i : Nat), .int .i64 ((i : Int) + 1)] w fun e w' => (∃ v', e = .returned v' ∧ Own encL 4 36 base w' v' (xs.eraseIdx i)) ∧ w.grownBy w' v.ownBlock ∧ Below base w w' := by
  have hb0 := Below.refl base w
  obtain ⟨ad, cap, rfl, HS, hbase⟩ := Own.slR encL_len hO
  have hla := HS.le
  have hma := HS.max
  obtain ⟨g, rfl⟩ : ∃ g, ad = some ⟨g, 0, none⟩ := by
    cases ad with
    | none => have := (HS.ofNone rfl).1; subst this; simp at hi
    | some a =>
      obtain ⟨b, o, sp⟩ := a
      obtain ⟨h1, _⟩ := HS.ofSome _ rfl (by have := HS.le; omega)
      have h2 := (hbase _ rfl).2
      simp only at h1 h2
      exact ⟨b, by rw [h1, h2]⟩
  have hgb : base ≤ g := (hbase _ rfl).1
  obtain ⟨last, hlast⟩ : ∃ last, xs[xs.length - 1]? = some last := ⟨_, List.getElem?_eq_getElem (by omega)⟩
  have hel : (xs.eraseIdx i).length = xs.length - 1 := List.length_eraseIdx_of_lt hi
  have hw := Below.refl w.heap.size w
  refine fn_enter 33 Tryd.func53 rfl rfl rfl ?_
  repeat' (first | (refine lw_pure rfl (pv_move rfl) ?_) | (refine lw_pure rfl (pv_assign rfl) ?_) | (refine lw_pure rfl (pv_slice_3 (tS rfl) rfl rfl rfl rfl (by omega)) ?_) | (refine is_cw ?_; first | (refine cw_seq ?_) | (refine cw_region ?_) | (refine is_cd ?_; refine cw_false rfl (by first | assumption | exact decide_eq_false (by omega) | exact dec_notF (by omega)) ?_) | (refine cw_skip ?_)) | (refine is_qw ?_; first | (with_reducible refine qw_then ?_)) | (refine lw_nil ?_) | ((refine is_bin ?_; first | (refine lw_pure rfl (pv_eql rfl rfl) ?_))) | ((refine is_bi ?_; first | (refine lw_pure rfl (pv_lenl (tS rfl) rfl) ?_))))
  have e9 : ((i : Int) + 1).toNat = i + 1 := by omega
  refine cw_drawn (fun w' => w.grownBy w' (some g)) (by kernel_rfl) (by repeat (first | exact NoPanic.body | with_reducible refine NoPanic.then ?_ | with_reducible refine NoPanic.inBlock ?_)) (fun hNP => ?_)
  have hS := gb_of (below_drew w) (some g)
  (refine at0 0 rfl (fun w' hq => pv_move rfl) ?_)
  (refine at0 1 rfl (fun w' hq => pv_move rfl) ?_)
  (refine at0 2 rfl (fun w' hq => pv_slice_h (tS rfl) rfl rfl (by omega)) ?_)
  (refine at0 3 rfl (fun w' hq => pv_move rfl) ?_)
  (refine at0 4 rfl (fun w' hq => pv_move rfl) ?_)
  (refine at0 5 rfl (fun w' hq => pv_slice_l (tS rfl) rfl rfl (by omega)) ?_)
  refine aw_act 6 (by kernel_rfl) rfl rfl rfl ?_
  refine act_appD (xs := xs) (i := i) elemL encL_len encL_one rfl rfl (by rw [e9]; by_cases hc : cap = i + 1; (exact Or.inr ⟨hc, by rw [if_pos hc]⟩); (exact Or.inl (by rw [if_neg hc]; simp [Addr.add_lit]))) (by rw [e9]) (hO.mono (below_drew _)) hi hlast ?_; intro w2 hO2 hg2; refine ⟨gb_trans hS hg2, fun hS => ?_⟩
  (refine at0 7 rfl (fun w' hq => pv_assign rfl) ?_)
  refine aw_done (by kernel_rfl) ?_
  replace hb1 := hS; clear hS hNP
  have hl2 : (xs.eraseIdx i ++ [last]).length = xs.length := by rw [List.length_append, hel]; simp; omega
  have htk : (xs.eraseIdx i ++ [last]).take (xs.length - 1) = xs.eraseIdx i := by rw [List.take_append_of_le_length (by omega), List.take_of_length_le (by omega)]
  have hnn : ((i + (xs.length - (i + 1)) : Nat) : Int) = ((xs.length - 1 : Nat) : Int) := by omega
  have hw := Below.refl w2.heap.size w2
  repeat' (first | (refine lw_pure rfl (pv_move rfl) ?_) | (refine is_cw ?_; first | (refine cw_seq ?_) | (refine cw_region ?_)) | (refine is_qw ?_; first | (with_reducible refine qw_then ?_)) | ((refine is_bi ?_; first | (refine lw_pure rfl (pv_lenl (tS rfl) rfl) ?_))) | (refine is_sl ?_; refine lw_pure rfl (pv_slice_lh (tS rfl) rfl rfl rfl (by omega)) ?_))
  refine lw_clear (i := xs.length - 1) elemL encL_len zeroL rfl rfl rfl ?_ ?_ ?_ hO2 (by omega) ?_
  · have hc9 : i + (xs.length - ((i : Int) + 1).toNat) = xs.length - 1 := by omega
    have hc8 : ¬ cap = xs.length - 1 := by omega
    simp only [Int.toNat_natCast, hc9, if_neg hc8, Option.map_some, Addr.add_lit, Nat.zero_add]
  · omega
  · omega
  intro w3 hg3 hO3
  rw [htk, ← hel] at hO3
  have hb3 := gb_trans hb1 hg3
  have hb2 := hb0.grown hb3 hbw (by intro q hq; injection hq with hq; omega)
  repeat' (first | (refine lw_pure rfl (pv_move rfl) ?_) | (refine lw_pure rfl (pv_assign rfl) ?_) | (refine is_cw ?_; first | (refine cw_seq ?_) | (refine cw_region ?_) | (refine cw_ret ?_)) | (refine is_qw ?_; first | (with_reducible refine qw_then ?_)) | (refine lw_nil ?_))
  refine qw_ret1 rfl rfl ⟨⟨_, rfl, ?_⟩, hb3, hb2⟩
  rw [show i + (xs.length - ((i : Int) + 1).toNat) = (xs.eraseIdx i).length by omega]
  exact hO3

end Go.Proofs.YtkehmbgcglbffaaDoor
namespace Go.Proofs
open Go.Shelf
def Tryd.sortP_ren : Go.Shelf.Ren := ⟨fun | 6 => 47 | 15 => 41 | 14 => 70 | 28 => 65 | 29 => 66 | 20 => 78 | 21 => 79 | 22 => 80 | 23 => 81 | 24 => 82 | 25 => 83 | 26 => 84 | 27 => 85 | 46 => 95 | 47 => 74 | 48 => 75 | 49 => 96 | 50 => 97 | 57 => 101 | n => n, fun | 22 => 28 | 24 => 34 | 25 => 57 | 3 => 3 | 39 => 78 | 0 => 0 | 53 => 107 | 55 => 109 | 4 => 4 | 46 => 100 | 45 => 99 | 50 => 104 | 5 => 5 | 9 => 9 | 66 => 116 | 70 => 120 | 76 => 132 | 77 => 133 | n => n, fun | n => n⟩
theorem Tryd.sortP : Go.Proofs.SlLaysF0.n6 Tryd.prog Tryd.sortP_ren := {
  mixed := by kernel_rfl
  f6 := ⟨Tryd.f47.name, by decide, Tryd.func47.trans (congrArg some (by kernel_rfl))⟩
  f14 := ⟨Tryd.f70.name, by decide, Tryd.func70.trans (congrArg some (by kernel_rfl))⟩
  f15 := Tryd.func41.trans (congrArg some (by kernel_rfl))
  f20 := ⟨Tryd.f78.name, by decide, Tryd.func78.trans (congrArg some (by kernel_rfl))⟩
  f21 := ⟨Tryd.f79.name, by decide, Tryd.func79.trans (congrArg some (by kernel_rfl))⟩
  f22 := ⟨Tryd.f80.name, by decide, Tryd.func80.trans (congrArg some (by kernel_rfl))⟩
  f23 := ⟨Tryd.f81.name, by decide, Tryd.func81.trans (congrArg some (by kernel_rfl))⟩
  f24 := ⟨Tryd.f82.name, by decide, Tryd.func82.trans (congrArg some (by kernel_rfl))⟩
  f25 := ⟨Tryd.f83.name, by decide, Tryd.func83.trans (congrArg some (by kernel_rfl))⟩
  f26 := ⟨Tryd.f84.name, by decide, Tryd.func84.trans (congrArg some (by kernel_rfl))⟩
  f27 := ⟨Tryd.f85.name, by decide, Tryd.func85.trans (congrArg some (by kernel_rfl))⟩
  f28 := Tryd.func65.trans (congrArg some (by kernel_rfl))
  f29 := Tryd.func66.trans (congrArg some (by kernel_rfl))
  f46 := ⟨Tryd.f95.name, by decide, Tryd.func95.trans (congrArg some (by kernel_rfl))⟩
  f47 := Tryd.func74.trans (congrArg some (by kernel_rfl))
  f48 := Tryd.func75.trans (congrArg some (by kernel_rfl))
  f49 := ⟨Tryd.f96.name, by decide, Tryd.func96.trans (congrArg some (by kernel_rfl))⟩
  f50 := ⟨Tryd.f97.name, by decide, Tryd.func97.trans (congrArg some (by kernel_rfl))⟩
  f57 := ⟨Tryd.f101.name, by decide, Tryd.func101.trans (congrArg some (by kernel_rfl))⟩
  t0 := Tryd.underlying0
  a0 := Tryd.isAgg0
  z0 := Tryd.sizeOf0
  v0 := Tryd.zeroValue0
  t3 := Tryd.underlying3
  a3 := Tryd.isAgg3
  z3 := Tryd.sizeOf3
  v3 := Tryd.zeroValue3
  t4 := Tryd.underlying4
  a4 := Tryd.isAgg4
  z4 := Tryd.sizeOf4
  v4 := Tryd.zeroValue4
  t5 := Tryd.underlying5
  a5 := Tryd.isAgg5
  z5 := Tryd.sizeOf5
  v5 := Tryd.zeroValue5
  t9 := Tryd.underlying9
  a9 := Tryd.isAgg9
  z9 := Tryd.sizeOf9
  v9 := Tryd.zeroValue9
  t22 := Tryd.underlying28
  a22 := Tryd.isAgg28
  z22 := Tryd.sizeOf28
  v22 := Tryd.zeroValue28
  t25 := Tryd.underlying57
  a25 := Tryd.isAgg57
  z25 := Tryd.sizeOf57
  v25 := Tryd.zeroValue57
  t39 := Tryd.underlying78
  a39 := Tryd.isAgg78
  z39 := Tryd.sizeOf78
  v39 := Tryd.zeroValue78
  t45 := Tryd.underlying99
  a45 := Tryd.isAgg99
  z45 := Tryd.sizeOf99
  v45 := Tryd.zeroValue99
  t46 := Tryd.underlying100
  a46 := Tryd.isAgg100
  z46 := Tryd.sizeOf100
  v46 := Tryd.zeroValue100
  t50 := Tryd.underlying104
  a50 := Tryd.isAgg104
  z50 := Tryd.sizeOf104
  v50 := Tryd.zeroValue104
  t53 := Tryd.underlying107
  a53 := Tryd.isAgg107
  z53 := Tryd.sizeOf107
  v53 := Tryd.zeroValue107
  t55 := Tryd.underlying109
  a55 := Tryd.isAgg109
  z55 := Tryd.sizeOf109
  v55 := Tryd.zeroValue109
  t66 := Tryd.underlying116
  a66 := Tryd.isAgg116
  z66 := Tryd.sizeOf116
  v66 := Tryd.zeroValue116
  t70 := Tryd.underlying120
  a70 := Tryd.isAgg120
  z70 := Tryd.sizeOf120
  v70 := Tryd.zeroValue120
  t76 := Tryd.underlying132
  a76 := Tryd.isAgg132
  z76 := Tryd.sizeOf132
  v76 := Tryd.zeroValue132
  t77 := Tryd.underlying133
  a77 := Tryd.isAgg133
  z77 := Tryd.sizeOf133
  v77 := Tryd.zeroValue133 }
def Tryd.sortL_ren : Go.Shelf.Ren := ⟨fun | 6 => 52 | 15 => 41 | 14 => 72 | 28 => 65 | 29 => 66 | 20 => 86 | 21 => 87 | 22 => 88 | 23 => 89 | 24 => 90 | 25 => 91 | 26 => 92 | 27 => 93 | 46 => 98 | 47 => 74 | 48 => 75 | 49 => 99 | 50 => 100 | 57 => 102 | n => n, fun | 22 => 29 | 24 => 36 | 25 => 59 | 3 => 3 | 39 => 78 | 0 => 0 | 53 => 107 | 55 => 109 | 4 => 4 | 46 => 100 | 45 => 99 | 50 => 104 | 5 => 5 | 9 => 9 | 66 => 116 | 70 => 120 | 76 => 132 | 77 => 133 | n => n, fun | n => n⟩
theorem Tryd.sortL : Go.Proofs.SlLaysF0.n6 Tryd.prog Tryd.sortL_ren := {
  mixed := by kernel_rfl
  f6 := ⟨Tryd.f52.name, by decide, Tryd.func52.trans (congrArg some (by kernel_rfl))⟩
  f14 := ⟨Tryd.f72.name, by decide, Tryd.func72.trans (congrArg some (by kernel_rfl))⟩
  f15 := Tryd.func41.trans (congrArg some (by kernel_rfl))
  f20 := ⟨Tryd.f86.name, by decide, Tryd.func86.trans (congrArg some (by kernel_rfl))⟩
  f21 := ⟨Tryd.f87.name, by decide, Tryd.func87.trans (congrArg some (by kernel_rfl))⟩
  f22 := ⟨Tryd.f88.name, by decide, Tryd.func88.trans (congrArg some (by kernel_rfl))⟩
  f23 := ⟨Tryd.f89.name, by decide, Tryd.func89.trans (congrArg some (by kernel_rfl))⟩
  f24 := ⟨Tryd.f90.name, by decide, Tryd.func90.trans (congrArg some (by kernel_rfl))⟩
  f25 := ⟨Tryd.f91.name, by decide, Tryd.func91.trans (congrArg some (by kernel_rfl))⟩
  f26 := ⟨Tryd.f92.name, by decide, Tryd.func92.trans (congrArg some (by kernel_rfl))⟩
  f27 := ⟨Tryd.f93.name, by decide, Tryd.func93.trans (congrArg some (by kernel_rfl))⟩
  f28 := Tryd.func65.trans (congrArg some (by kernel_rfl))
  f29 := Tryd.func66.trans (congrArg some (by kernel_rfl))
  f46 := ⟨Tryd.f98.name, by decide, Tryd.func98.trans (congrArg some (by kernel_rfl))⟩
  f47 := Tryd.func74.trans (congrArg some (by kernel_rfl))
  f48 := Tryd.func75.trans (congrArg some (by kernel_rfl))
  f49 := ⟨Tryd.f99.name, by decide, Tryd.func99.trans (congrArg some (by kernel_rfl))⟩
  f50 := ⟨Tryd.f100.name, by decide, Tryd.func100.trans (congrArg some (by kernel_rfl))⟩
  f57 := ⟨Tryd.f102.name, by decide, Tryd.func102.trans (congrArg some (by kernel_rfl))⟩
  t0 := Tryd.underlying0
  a0 := Tryd.isAgg0
  z0 := Tryd.sizeOf0
  v0 := Tryd.zeroValue0
  t3 := Tryd.underlying3
  a3 := Tryd.isAgg3
  z3 := Tryd.sizeOf3
  v3 := Tryd.zeroValue3
  t4 := Tryd.underlying4
  a4 := Tryd.isAgg4
  z4 := Tryd.sizeOf4
  v4 := Tryd.zeroValue4
  t5 := Tryd.underlying5
  a5 := Tryd.isAgg5
  z5 := Tryd.sizeOf5
  v5 := Tryd.zeroValue5
  t9 := Tryd.underlying9
  a9 := Tryd.isAgg9
  z9 := Tryd.sizeOf9
  v9 := Tryd.zeroValue9
  t22 := Tryd.underlying29
  a22 := Tryd.isAgg29
  z22 := Tryd.sizeOf29
  v22 := Tryd.zeroValue29
  t25 := Tryd.underlying59
  a25 := Tryd.isAgg59
  z25 := Tryd.sizeOf59
  v25 := Tryd.zeroValue59
  t39 := Tryd.underlying78
  a39 := Tryd.isAgg78
  z39 := Tryd.sizeOf78
  v39 := Tryd.zeroValue78
  t45 := Tryd.underlying99
  a45 := Tryd.isAgg99
  z45 := Tryd.sizeOf99
  v45 := Tryd.zeroValue99
  t46 := Tryd.underlying100
  a46 := Tryd.isAgg100
  z46 := Tryd.sizeOf100
  v46 := Tryd.zeroValue100
  t50 := Tryd.underlying104
  a50 := Tryd.isAgg104
  z50 := Tryd.sizeOf104
  v50 := Tryd.zeroValue104
  t53 := Tryd.underlying107
  a53 := Tryd.isAgg107
  z53 := Tryd.sizeOf107
  v53 := Tryd.zeroValue107
  t55 := Tryd.underlying109
  a55 := Tryd.isAgg109
  z55 := Tryd.sizeOf109
  v55 := Tryd.zeroValue109
  t66 := Tryd.underlying116
  a66 := Tryd.isAgg116
  z66 := Tryd.sizeOf116
  v66 := Tryd.zeroValue116
  t70 := Tryd.underlying120
  a70 := Tryd.isAgg120
  z70 := Tryd.sizeOf120
  v70 := Tryd.zeroValue120
  t76 := Tryd.underlying132
  a76 := Tryd.isAgg132
  z76 := Tryd.sizeOf132
  v76 := Tryd.zeroValue132
  t77 := Tryd.underlying133
  a77 := Tryd.isAgg133
  z77 := Tryd.sizeOf133
  v77 := Tryd.zeroValue133 }
def Tryd.sortI_ren : Go.Shelf.Ren := ⟨fun | 53 => 22 | 64 => 41 | 63 => 40 | 78 => 65 | 79 => 66 | 70 => 56 | 71 => 57 | 72 => 58 | 73 => 59 | 74 => 60 | 75 => 61 | 59 => 62 | 76 => 63 | 77 => 64 | 88 => 73 | 89 => 74 | 90 => 75 | 91 => 76 | 92 => 77 | 68 => 55 | 96 => 94 | n => n, fun | 22 => 23 | 23 => 2 | 3 => 3 | 51 => 78 | 0 => 0 | 67 => 107 | 69 => 109 | 4 => 4 | 61 => 100 | 60 => 99 | 44 => 104 | 5 => 5 | 9 => 9 | 75 => 116 | 79 => 120 | 83 => 132 | 84 => 133 | n => n, fun | n => n⟩
theorem Tryd.sortI : Go.Proofs.SlLaysN.n53 Tryd.prog Tryd.sortI_ren := {
  mixed := by kernel_rfl
  f53 := ⟨Tryd.f22.name, by decide, Tryd.func22.trans (congrArg some (by kernel_rfl))⟩
  f59 := ⟨Tryd.f62.name, by decide, Tryd.func62.trans (congrArg some (by kernel_rfl))⟩
  f63 := ⟨Tryd.f40.name, by decide, Tryd.func40.trans (congrArg some (by kernel_rfl))⟩
  f64 := Tryd.func41.trans (congrArg some (by kernel_rfl))
  f68 := ⟨Tryd.f55.name, by decide, Tryd.func55.trans (congrArg some (by kernel_rfl))⟩
  f70 := ⟨Tryd.f56.name, by decide, Tryd.func56.trans (congrArg some (by kernel_rfl))⟩
  f71 := ⟨Tryd.f57.name, by decide, Tryd.func57.trans (congrArg some (by kernel_rfl))⟩
  f72 := ⟨Tryd.f58.name, by decide, Tryd.func58.trans (congrArg some (by kernel_rfl))⟩
  f73 := ⟨Tryd.f59.name, by decide, Tryd.func59.trans (congrArg some (by kernel_rfl))⟩
  f74 := ⟨Tryd.f60.name, by decide, Tryd.func60.trans (congrArg some (by kernel_rfl))⟩
  f75 := ⟨Tryd.f61.name, by decide, Tryd.func61.trans (congrArg some (by kernel_rfl))⟩
  f76 := ⟨Tryd.f63.name, by decide, Tryd.func63.trans (congrArg some (by kernel_rfl))⟩
  f77 := ⟨Tryd.f64.name, by decide, Tryd.func64.trans (congrArg some (by kernel_rfl))⟩
  f78 := Tryd.func65.trans (congrArg some (by kernel_rfl))
  f79 := Tryd.func66.trans (congrArg some (by kernel_rfl))
  f88 := ⟨Tryd.f73.name, by decide, Tryd.func73.trans (congrArg some (by kernel_rfl))⟩
  f89 := Tryd.func74.trans (congrArg some (by kernel_rfl))
  f90 := Tryd.func75.trans (congrArg some (by kernel_rfl))
  f91 := ⟨Tryd.f76.name, by decide, Tryd.func76.trans (congrArg some (by kernel_rfl))⟩
  f92 := ⟨Tryd.f77.name, by decide, Tryd.func77.trans (congrArg some (by kernel_rfl))⟩
  f96 := ⟨Tryd.f94.name, by decide, Tryd.func94.trans (congrArg some (by kernel_rfl))⟩
  t0 := Tryd.underlying0
  a0 := Tryd.isAgg0
  z0 := Tryd.sizeOf0
  v0 := Tryd.zeroValue0
  t3 := Tryd.underlying3
  a3 := Tryd.isAgg3
  z3 := Tryd.sizeOf3
  v3 := Tryd.zeroValue3
  t4 := Tryd.underlying4
  a4 := Tryd.isAgg4
  z4 := Tryd.sizeOf4
  v4 := Tryd.zeroValue4
  t5 := Tryd.underlying5
  a5 := Tryd.isAgg5
  z5 := Tryd.sizeOf5
  v5 := Tryd.zeroValue5
  t9 := Tryd.underlying9
  a9 := Tryd.isAgg9
  z9 := Tryd.sizeOf9
  v9 := Tryd.zeroValue9
  t22 := Tryd.underlying23
  a22 := Tryd.isAgg23
  z22 := Tryd.sizeOf23
  v22 := Tryd.zeroValue23
  t23 := Tryd.underlying2
  a23 := Tryd.isAgg2
  z23 := Tryd.sizeOf2
  v23 := Tryd.zeroValue2
  t44 := Tryd.underlying104
  a44 := Tryd.isAgg104
  z44 := Tryd.sizeOf104
  v44 := Tryd.zeroValue104
  t51 := Tryd.underlying78
  a51 := Tryd.isAgg78
  z51 := Tryd.sizeOf78
  v51 := Tryd.zeroValue78
  t60 := Tryd.underlying99
  a60 := Tryd.isAgg99
  z60 := Tryd.sizeOf99
  v60 := Tryd.zeroValue99
  t61 := Tryd.underlying100
  a61 := Tryd.isAgg100
  z61 := Tryd.sizeOf100
  v61 := Tryd.zeroValue100
  t67 := Tryd.underlying107
  a67 := Tryd.isAgg107
  z67 := Tryd.sizeOf107
  v67 := Tryd.zeroValue107
  t69 := Tryd.underlying109
  a69 := Tryd.isAgg109
  z69 := Tryd.sizeOf109
  v69 := Tryd.zeroValue109
  t75 := Tryd.underlying116
  a75 := Tryd.isAgg116
  z75 := Tryd.sizeOf116
  v75 := Tryd.zeroValue116
  t79 := Tryd.underlying120
  a79 := Tryd.isAgg120
  z79 := Tryd.sizeOf120
  v79 := Tryd.zeroValue120
  t83 := Tryd.underlying132
  a83 := Tryd.isAgg132
  z83 := Tryd.sizeOf132
  v83 := Tryd.zeroValue132
  t84 := Tryd.underlying133
  a84 := Tryd.isAgg133
  z84 := Tryd.sizeOf133
  v84 := Tryd.zeroValue133 }
def Tryd.compI_ren : Go.Shelf.Ren := ⟨fun | 43 => 23 | n => n, fun | 22 => 23 | 23 => 2 | 3 => 3 | 4 => 4 | 0 => 0 | n => n, fun | n => n⟩
theorem Tryd.compI : Go.Proofs.SlLaysN.n43 Tryd.prog Tryd.compI_ren := {
  mixed := by kernel_rfl
  f43 := ⟨Tryd.f23.name, by decide, Tryd.func23.trans (congrArg some (by kernel_rfl))⟩
  t0 := Tryd.underlying0
  a0 := Tryd.isAgg0
  z0 := Tryd.sizeOf0
  v0 := Tryd.zeroValue0
  t3 := Tryd.underlying3
  a3 := Tryd.isAgg3
  z3 := Tryd.sizeOf3
  v3 := Tryd.zeroValue3
  t4 := Tryd.underlying4
  a4 := Tryd.isAgg4
  z4 := Tryd.sizeOf4
  v4 := Tryd.zeroValue4
  t22 := Tryd.underlying23
  a22 := Tryd.isAgg23
  z22 := Tryd.sizeOf23
  v22 := Tryd.zeroValue23
  t23 := Tryd.underlying2
  a23 := Tryd.isAgg2
  z23 := Tryd.sizeOf2
  v23 := Tryd.zeroValue2
  i23 := by kernel_rfl }
end Go.Proofs
namespace Go.Proofs.YtkehmbgcglbffaaDoor
open Go.RowKit Go.Sort
variable {α : Type}

theorem Own.heapK {enc : α → List Value} {k : Nat} {T : TypeId} {base : Nat} {w : World} {g cap : Nat} {xs : List α} (h : Own enc k T base w (.slice (some ⟨g, 0, none⟩) xs.length cap) xs) : ∃ cur, base ≤ g ∧ w.heap[g]? = some (.cells cur T (0, 0)) ∧ xs.length ≤ cap ∧ cap ≤ maxLen ∧ cur.size = cap * k ∧ cur.toList.take (xs.length * k) = xs.flatMap enc := by
  obtain ⟨h1, h2⟩ := h
  rcases h2 with ⟨h2, _⟩ | ⟨g', cap', cur, e1, hb, hg, hle, hmax, hsz, htk⟩
  · cases h2
  · injection e1 with e1 _ e3
    injection e1 with e1; injection e1 with e1
    subst e1; subst e3
    exact ⟨cur, hb, hg, hle, hmax, hsz, htk⟩
variable [Inhabited α]

theorem flatK_get (enc : α → List Value) (k : Nat) (hk : ∀ x, (enc x).length = k) (d : Array α) (t : Nat) (ht : t < d.size * k) : (d.toList.flatMap enc)[t]? = some (flatK enc k d)[t]! := by
  have k0 : 0 < k := by rcases Nat.eq_zero_or_pos k with h | h; · subst h; simp at ht
                        · exact h
  have hq : t / k < d.size := Nat.div_lt_of_lt_mul (by rwa [Nat.mul_comm])
  have hr : t % k < k := Nat.mod_lt _ k0
  have hx : d.toList[t / k]? = some d[t / k]! := by rw [getElem!_pos d (t / k) hq]; simp [hq]
  have hv : (enc d[t / k]!)[t % k]? = some (enc d[t / k]!)[t % k]! := by rw [getElem!_pos (enc d[t / k]!) (t % k) (by rw [hk]; exact hr)]; exact List.getElem?_eq_getElem _
  have := flat_get enc k hk d.toList (t / k) _ (t % k) _ hx hv
  rw [Nat.div_add_mod' t k] at this
  rw [get_flatK enc k d t ht]; exact this

theorem Own.holdsK {enc : α → List Value} {k : Nat} (hk : ∀ x, (enc x).length = k) {T : TypeId} {base : Nat} {w : World} {g cap : Nat} {d : Array α} (h : Own enc k T base w (.slice (some ⟨g, 0, none⟩) d.toList.length cap) d.toList) : HoldsK enc k w g 0 d := by
  obtain ⟨cur, _, hg, hle, _, hsz, htk⟩ := Own.heapK h
  intro t ht
  rw [size_flatK] at ht
  have hf := flatK_get enc k hk d t ht
  rw [← htk, List.getElem?_take, if_pos (by simpa using ht)] at hf
  refine ⟨?_, by simp [World.frozen?, hg]⟩
  rw [Nat.zero_add, cell_of_row w g t cur T (0, 0) hg]
  simpa using hf
theorem Own.sorted {enc : α → List Value} {k : Nat} (hk : ∀ x, (enc x).length = k) {T : TypeId} {base : Nat} {w : World} {g cap : Nat} {xs : List α} (h : Own enc k T base w (.slice (some ⟨g, 0, none⟩) xs.length cap) xs) (d' : Array α) (hd : d'.size = xs.length) (n : Nat) (os : Array Obj) :
    Own enc k T base (sortWorldK enc k w g 0 n d' os) (.slice (some ⟨g, 0, none⟩) xs.length cap) d'.toList ∧ w.grownBy (sortWorldK enc k w g 0 n d' os) (some g) := by
  obtain ⟨cur, hb, hg, hle, hmax, hsz, htk⟩ := Own.heapK h
  have hgl : g < w.heap.size := (Array.getElem?_eq_some_iff.1 hg).1
  have hm := Nat.mul_le_mul_right k hle
  have e : (sortWorldK enc k w g 0 n d' os).heap = (w.heap.modify g (onCells (putCells id 0 (flatK enc k d')))) ++ os := rfl
  refine ⟨⟨by rw [flat_len enc k hk], Or.inr ⟨g, cap, putCells id 0 (flatK enc k d') cur, by simp [hd], hb, ?_, by simpa [hd] using hle, hmax, by simp [putCells, hsz], ?_⟩⟩, ⟨rfl, rfl, rfl, ?_, fun q hq hne => ?_⟩⟩
  · rw [e, Array.getElem?_append_left (by simpa using hgl), Array.getElem?_modify, if_pos rfl, hg]; rfl
  · refine List.ext_getElem? fun t => ?_
    rw [List.getElem?_take]
    by_cases ht : t < d'.toList.length * k
    · rw [if_pos ht]
      have ht' : t < d'.size * k := by simpa using ht
      have htc : t < cur.size := by rw [hsz]; rw [hd] at ht'; omega
      rw [flatK_get enc k hk d' t ht']
      simp only [putCells, Array.toList_mapIdx, List.getElem?_mapIdx, Array.getElem?_toList, Array.getElem?_eq_getElem htc, Option.map_some, size_flatK, Nat.zero_le, true_and, Nat.zero_add, Nat.sub_zero, id]
      rw [if_pos ht']
    · rw [if_neg ht, List.getElem?_eq_none (by rw [flat_len enc k hk]; omega)]
  · rw [e]; simp
  · rw [e, Array.getElem?_append_left (by simpa using hq), Array.getElem?_modify, if_neg (fun h => hne (by rw [h]))]
theorem perm_of {d d' : Array α} (h : PermIn 0 d.size d d') : d'.toList.Perm d.toList ∧ d'.size = d.size := by
  obtain ⟨hsz, _, hp⟩ := h
  have e1 : d'.extract 0 d.size = d' := by rw [← hsz]; exact Array.extract_size
  rw [e1, Array.extract_size] at hp
  exact ⟨hp, hsz⟩
theorem sortedList_of {lt : α → α → Bool} {d' : Array α} {n : Nat} (hn : d'.size = n) (h : SortedIn lt 0 n d') : d'.toList.Pairwise (fun x y => lt y x = false) := by
  rw [List.pairwise_iff_getElem]
  intro i j hi hj hij
  have hi' : i < d'.size := by simpa using hi
  have hj' : j < d'.size := by simpa using hj
  have := h i j (Nat.zero_le _) hij (by omega)
  rw [getElem!_pos d' j hj', getElem!_pos d' i hi'] at this
  simpa using this
end Go.Proofs.YtkehmbgcglbffaaDoor
namespace Go.Proofs.YtkehmbgcglbffaaDoor
open Go.RowKit Go.Sort Go.PlainAid

theorem cmpw_P {x y : Opn} : ltOf rowI x y = true ↔ keyO x y := by
  unfold ltOf; rw [decide_eq_true_eq, rowI_lt]
theorem cmpn_P {x y : Opn} : ltOf rowI x y = false ↔ ¬ keyO x y := by rw [← cmpw_P]; simp
theorem swo_P : SWO (ltOf rowI) where
  irrefl x := by rw [cmpn_P]; unfold keyO; omega
  trans x y z h1 h2 := by rw [cmpw_P] at *; unfold keyO at *; omega
  ntrans x y z h1 h2 := by rw [cmpn_P] at *; unfold keyO at *; omega
set_option maxHeartbeats 1000000 in
theorem sort_P (base g cap : Nat) (ys : List Opn) (w : World)  (hown : Own encP 6 34 base w (.slice (some ⟨g, 0, none⟩) ys.length cap) ys) (hlen : ys.length ≤ 1000000) (hn : ys.Pairwise fun x y => keyO x y ∨ keyO y x) :
    Calls Tryd.prog 47 #[.slice (some ⟨g, 0, none⟩) ys.length cap, .func (.func 18) #[] #[]] w fun e w' =>
      e = .returned (.tuple #[]) ∧ (∃ zs, zs.Perm ys ∧ zs.Pairwise keyO ∧ Own encP 6 34 base w' (.slice (some ⟨g, 0, none⟩) ys.length cap) zs) ∧ w.grownBy w' (some g) := by
  have hbg : base ≤ g := (Own.lt hown g rfl).1
  have hgl : g < w.heap.size := (Own.lt hown g rfl).2
  have hown' : Own encP 6 34 base w (.slice (some ⟨g, 0, none⟩) ys.toArray.toList.length cap) ys.toArray.toList := by simpa using hown
  have eg : ∀ args w, (callFunc 18 args).run Tryd.prog w = .ok (.enter 18 args) w := Go.Proofs.enters_of Tryd.func18 (by kernel_rfl) rfl
  have hcmp : Go.Proofs.CmpLays Tryd.prog 18 #[] encP 6 rowI g 0 ys.toArray.size w := fun m os dk _ x y => by
    exact (row_d x y (sortWorldK encP 6 w g 0 m dk os)).mono fun e w' ⟨he, hb⟩ => ⟨he, grown_of hb.b hb.d⟩
  have hcon := Go.Proofs.AnyQ.slices_SortFunc Tryd.sortP 6 Tryd.isAgg34 Tryd.sizeOf34 encP (fun x => encP_len _) (fun x => encP_one _) rowI swo_P 18 #[] g 0 cap ys.toArray w eg hcmp (Own.holdsK (fun x => encP_len _) hown') hgl (by simp; omega)
  refine Calls.mono (R := _) hcon ?_
  rintro e w' ⟨he, d', n, os, hperm, hsort, rfl⟩
  obtain ⟨hp1, hsz⟩ := perm_of hperm
  have hso := sortedList_of hsz hsort
  have hsz' : d'.size = ys.length := by simpa using hsz
  have hp2 : d'.toList.Perm ys := by simpa using hp1
  obtain ⟨q1, q2⟩ := Own.sorted (enc := encP) (fun x => encP_len _) hown d' hsz' n os
  refine ⟨he, ⟨d'.toList, hp2, ?_, q1⟩, q2⟩
  have hn' : d'.toList.Pairwise fun x y => keyO x y ∨ keyO y x := (hp2.pairwise_iff (fun h => h.symm)).2 hn
  refine (hso.and hn').imp fun {x y} ⟨h1, h2⟩ => ?_
  rw [cmpn_P] at h1
  rcases h2 with h2 | h2
  · exact h2
  · exact absurd h2 h1

theorem cmpw_L {x y : Lt} : ltOf byI x y = true ↔ keyT x y := by
  unfold ltOf; rw [decide_eq_true_eq, byI_lt]
theorem cmpn_L {x y : Lt} : ltOf byI x y = false ↔ ¬ keyT x y := by rw [← cmpw_L]; simp
theorem swo_L : SWO (ltOf byI) where
  irrefl x := by rw [cmpn_L]; unfold keyT; omega
  trans x y z h1 h2 := by rw [cmpw_L] at *; unfold keyT at *; omega
  ntrans x y z h1 h2 := by rw [cmpn_L] at *; unfold keyT at *; omega
set_option maxHeartbeats 1000000 in
theorem sort_L (base g cap : Nat) (ys : List Lt) (w : World)  (hown : Own encL 4 36 base w (.slice (some ⟨g, 0, none⟩) ys.length cap) ys) (hlen : ys.length ≤ 1000000) (hn : ys.Pairwise fun x y => keyT x y ∨ keyT y x) :
    Calls Tryd.prog 52 #[.slice (some ⟨g, 0, none⟩) ys.length cap, .func (.func 20) #[] #[]] w fun e w' =>
      e = .returned (.tuple #[]) ∧ (∃ zs, zs.Perm ys ∧ zs.Pairwise keyT ∧ Own encL 4 36 base w' (.slice (some ⟨g, 0, none⟩) ys.length cap) zs) ∧ w.grownBy w' (some g) := by
  have hbg : base ≤ g := (Own.lt hown g rfl).1
  have hgl : g < w.heap.size := (Own.lt hown g rfl).2
  have hown' : Own encL 4 36 base w (.slice (some ⟨g, 0, none⟩) ys.toArray.toList.length cap) ys.toArray.toList := by simpa using hown
  have eg : ∀ args w, (callFunc 20 args).run Tryd.prog w = .ok (.enter 20 args) w := Go.Proofs.enters_of Tryd.func20 (by kernel_rfl) rfl
  have hcmp : Go.Proofs.CmpLays Tryd.prog 20 #[] encL 4 byI g 0 ys.toArray.size w := fun m os dk _ x y => by
    exact (byID_d x y (sortWorldK encL 4 w g 0 m dk os)).mono fun e w' ⟨he, hb⟩ => ⟨he, grown_of hb.b hb.d⟩
  have hcon := Go.Proofs.AnyQ.slices_SortFunc Tryd.sortL 4 Tryd.isAgg36 Tryd.sizeOf36 encL (fun x => encL_len _) (fun x => encL_one _) byI swo_L 20 #[] g 0 cap ys.toArray w eg hcmp (Own.holdsK (fun x => encL_len _) hown') hgl (by simp; omega)
  refine Calls.mono (R := _) hcon ?_
  rintro e w' ⟨he, d', n, os, hperm, hsort, rfl⟩
  obtain ⟨hp1, hsz⟩ := perm_of hperm
  have hso := sortedList_of hsz hsort
  have hsz' : d'.size = ys.length := by simpa using hsz
  have hp2 : d'.toList.Perm ys := by simpa using hp1
  obtain ⟨q1, q2⟩ := Own.sorted (enc := encL) (fun x => encL_len _) hown d' hsz' n os
  refine ⟨he, ⟨d'.toList, hp2, ?_, q1⟩, q2⟩
  have hn' : d'.toList.Pairwise fun x y => keyT x y ∨ keyT y x := (hp2.pairwise_iff (fun h => h.symm)).2 hn
  refine (hso.and hn').imp fun {x y} ⟨h1, h2⟩ => ?_
  rw [cmpn_L] at h1
  rcases h2 with h2 | h2
  · exact h2
  · exact absurd h2 h1

theorem encI_flat (S : List Int) : S.flatMap encI = S.map (Value.int .i64) := by
  induction S with
  | nil => rfl
  | cons x S ih => rw [List.flatMap_cons, ih]; rfl
theorem sort_I (base g cap : Nat) (ys : List Int) (w : World) (hown : Own encI 1 2 base w (.slice (some ⟨g, 0, none⟩) ys.length cap) ys) (hlen : ys.length ≤ 1000000) :
    Calls Tryd.prog 22 #[.slice (some ⟨g, 0, none⟩) ys.length cap] w fun e w' =>
      e = .returned (.tuple #[]) ∧ Own encI 1 2 base w' (.slice (some ⟨g, 0, none⟩) (ys.mergeSort fun x y => decide (x ≤ y)).length cap) (ys.mergeSort fun x y => decide (x ≤ y)) ∧ w.grownBy w' (some g) := by
  obtain ⟨cur, hb, hg, hle, hmax, hsz, htk⟩ := Own.heap' hown
  have hgl : g < w.heap.size := (Array.getElem?_eq_some_iff.1 hg).1
  have hH := holds_of_blockI (ss := ys) hg (by rw [← encI_flat, ← htk, Nat.mul_one])
  refine Calls.mono (R := _) (Go.Proofs.AnyG.slices_Sort_int Tryd.sortI g 0 cap ys w hH hgl (by omega)) ?_
  rintro e w' ⟨he, n, os, rfl⟩
  have hl : (ys.mergeSort fun x y => decide (x ≤ y)).length = ys.length := List.length_mergeSort _
  refine ⟨he, ?_, grownBy_sortedI _⟩
  have := ownsRow_sortedI (n := n) (os := os) (base := base) (cap := cap) (ts := ys.mergeSort fun x y => decide (x ≤ y)) hl hb hg hle hmax hsz
  unfold Own
  rw [encI_flat, hl]; exact this
theorem comp_I (base g cap : Nat) (ys : List Int) (w : World) (hown : Own encI 1 2 base w (.slice (some ⟨g, 0, none⟩) ys.length cap) ys) :
    Calls Tryd.prog 23 #[.slice (some ⟨g, 0, none⟩) ys.length cap] w fun e w' =>
      e = .returned (.slice (some ⟨g, 0, none⟩) (Lib.compact ys).length cap) ∧ w.grownBy w' (some g) := by
  obtain ⟨cur, hb, hg, hle, hmax, hsz, htk⟩ := Own.heap' hown
  have hH := holds_of_blockI (ss := ys) hg (by rw [← encI_flat, ← htk, Nat.mul_one])
  refine Calls.mono (R := _) (Go.Proofs.AnyG.slices_Compact_int Tryd.compI g 0 cap ys w hH (by unfold maxLen at hmax; omega) hle) ?_
  rintro e w' ⟨he, q, rfl⟩
  refine ⟨he, ?_⟩
  have := grownBy_sortedI (w := w) (g := g) (n := q) (os := #[]) (Lib.compact ys ++ List.replicate (ys.length - (Lib.compact ys).length) 0).toArray
  have e0 : ∀ W : World, grow W #[] = W := fun W => by unfold grow; simp
  rw [e0] at this
  exact this
theorem compact_len {ys : List Int} : (Lib.compact (ys.mergeSort fun x y => decide (x ≤ y))).length = ys.length ↔ ys.Nodup := by
  have hp := List.mergeSort_perm ys (fun x y => decide (x ≤ y))
  have hs : (ys.mergeSort fun x y => decide (x ≤ y)).Pairwise (fun x y => decide (x ≤ y) = true) := List.pairwise_mergeSort (fun a b c h1 h2 => by simp at *; omega) (fun a b => by simp; omega) ys
  generalize ys.mergeSort (fun x y => decide (x ≤ y)) = zs at hp hs
  rw [← hp.length_eq, ← hp.nodup_iff]
  unfold Lib.compact Lib.compactUpTo
  rw [List.length_map]
  have hl : (List.range zs.length).length = zs.length := List.length_range
  have key : ∀ j, j < zs.length → (Lib.keeps zs.toArray j = true ↔ j = 0 ∨ ∀ x y, zs[j]? = some x → zs[j - 1]? = some y → x ≠ y) := by
    intro j hj
    unfold Lib.keeps
    have h1 : zs.toArray[j]! = zs[j] := by simp [hj]
    have h2 : zs.toArray[j - 1]! = zs[j - 1]'(by omega) := by rw [getElem!_pos zs.toArray (j - 1) (by simp; omega)]; simp
    rw [h1, h2, decide_eq_true_eq, List.getElem?_eq_getElem hj, List.getElem?_eq_getElem (by omega : j - 1 < zs.length)]
    simp
  constructor
  · intro h
    have hall : ∀ j ∈ List.range zs.length, Lib.keeps zs.toArray j = true := by
      exact List.filter_eq_self.1 (List.Sublist.eq_of_length (List.filter_sublist (p := Lib.keeps zs.toArray)) (by rw [h, hl]))
    rw [List.nodup_iff_pairwise_ne]
    have hstrict : zs.Pairwise (· < ·) := by
      have step : ∀ k, (zs.take k).Pairwise (· < ·) := by
        intro k
        induction k with
        | zero => simp
        | succ k ih =>
          by_cases hk : k < zs.length
          · refine pwg_snoc (fun a b c h1 h2 => by omega) ih (List.getElem?_eq_getElem hk) ?_
            by_cases hk0 : k = 0
            · exact Or.inl hk0
            · right
              have hk1 : k - 1 < zs.length := by omega
              refine ⟨zs[k - 1], List.getElem?_eq_getElem hk1, ?_⟩
              have h1 := (key k hk).1 (hall k (List.mem_range.2 hk))
              rcases h1 with h1 | h1
              · exact absurd h1 hk0
              · have h2 := h1 _ _ (List.getElem?_eq_getElem hk) (List.getElem?_eq_getElem hk1)
                have h3 := pwg_get hs (show k - 1 < k by omega) (List.getElem?_eq_getElem hk1) (List.getElem?_eq_getElem hk)
                simp at h3
                omega
          · rw [List.take_of_length_le (by omega)] at ih ⊢; exact ih
      have := step zs.length
      rwa [List.take_length] at this
    exact hstrict.imp (fun h => by omega)
  · intro h
    rw [List.filter_eq_self.2, hl]
    intro j hj
    have hj' := List.mem_range.1 hj
    refine (key j hj').2 ?_
    by_cases hj0 : j = 0
    · exact Or.inl hj0
    · right
      intro x y hx hy e
      subst e
      exact pwg_get (List.nodup_iff_pairwise_ne.1 h) (show j - 1 < j by omega) hy hx rfl
set_option maxRecDepth 20000 in
theorem contains_L {xs : List Lt} {m : Nat} {ad : Option Addr} {cap : Nat} {w : World} (base : Nat) (p : Lt → Bool) (F : FuncId) (caps : Array Value) (he : entersB Tryd.prog F = true) (hbw : base ≤ w.heap.size) (hF : ∀ x, x ∈ xs → ∀ w', Below base w w' → Calls Tryd.prog F (#[] ++ [Value.agg (encL x).toArray].toArray ++ caps) w' fun e w'' => e = .returned (.bool (p x)) ∧ Below w'.heap.size w' w'') (hm : xs.length = m) (HS : SlR encL 4 w ad cap xs) : Calls Tryd.prog 24 #[.slice ad m cap, .func (.func F) #[] caps] w fun e w' => e = .returned (.bool (xs.any p)) ∧ Below w.heap.size w w' := by
  have hw := Below.refl w.heap.size w
  refine fn_enter 9 Tryd.func24 rfl rfl rfl ?_
  repeat' (first | (refine lw_pure rfl (pv_move rfl) ?_) | (refine lw_pure rfl (pv_assign rfl) ?_) | (refine is_cw ?_; first | (refine cw_seq ?_) | (refine cw_region ?_)) | (refine is_qw ?_; first | (with_reducible refine qw_then ?_)) | (refine lw_nil ?_))
  refine lw_call (f := 42) (by kernel_rfl) rfl rfl (indexf_L base p F caps he hbw hF hm HS) ?_; rintro e w1 ⟨⟨i, rfl, hi⟩, hb⟩; refine ⟨_, rfl, ?_⟩; replace hw := grow_trans hw hb; clear hb
  rcases hi with ⟨rfl, hn⟩ | ⟨i, r, rfl, hxi, hr, hn⟩
  · repeat' (first | (refine lw_pure rfl (pv_assign rfl) ?_) | (refine is_cw ?_; first | (refine cw_ret ?_)) | (refine is_qw ?_; first | (with_reducible refine qw_then ?_)) | (refine lw_nil ?_) | ((refine is_bin ?_; first | (refine lw_pure rfl (pv_geq rfl rfl) ?_))))
    refine qw_ret1 rfl rfl ⟨ret_bool ?_, hw⟩
    have : xs.any p = false := by rw [List.any_eq_false]; intro x hx; simp [hn x hx]
    rw [this]; rfl
  · repeat' (first | (refine lw_pure rfl (pv_assign rfl) ?_) | (refine is_cw ?_; first | (refine cw_ret ?_)) | (refine is_qw ?_; first | (with_reducible refine qw_then ?_)) | (refine lw_nil ?_) | ((refine is_bin ?_; first | (refine lw_pure rfl (pv_geq rfl rfl) ?_))))
    refine qw_ret1 rfl rfl ⟨ret_bool ?_, hw⟩
    have : xs.any p = true := by rw [List.any_eq_true]; exact ⟨r, List.mem_of_getElem? hxi, hr⟩
    rw [this]; simp

abbrev leI (x y : Int) : Bool := decide (x ≤ y)
theorem sort_any {base : Nat} {v : Value} {ys : List Int} {w : World} (hbw : base ≤ w.heap.size) (hown : Own encI 1 2 base w v ys) (hlen : ys.length ≤ 1000000) :
    Calls Tryd.prog 22 #[v] w fun e w' => e = .returned (.tuple #[]) ∧ Own encI 1 2 base w' v (ys.mergeSort leI) ∧ Below base w w' := by
  obtain ⟨a, cap, rfl, hs, hb⟩ := Own.slR encI_len hown
  cases ys with
  | nil =>
    refine Calls.mono (R := _) (Go.Proofs.AnyG.slices_Sort_int_none Tryd.sortI a cap w) ?_
    rintro e w' ⟨he, hw⟩
    subst hw
    exact ⟨he, by simpa using hown, Below.refl _ _⟩
  | cons y l =>
    obtain ⟨b, off, h1, _, _⟩ := hs.at (by simp)
    subst h1
    obtain ⟨hb1, hb2⟩ := hb _ rfl
    simp only at hb1 hb2; subst hb2
    refine (sort_I base b cap (y :: l) w hown hlen).mono fun e w' ⟨he, ho, hg⟩ => ⟨he, ?_, (Below.refl base w).grown hg hbw (fun k hk => by injection hk with hk; omega)⟩
    rw [List.length_mergeSort] at ho; exact ho
theorem comp_any {base : Nat} {v : Value} {ys : List Int} {w : World} (hbw : base ≤ w.heap.size) (hown : Own encI 1 2 base w v ys) :
    Calls Tryd.prog 23 #[v] w fun e w' => (∃ a c, e = .returned (.slice a (Lib.compact ys).length c)) ∧ Below base w w' := by
  obtain ⟨a, cap, rfl, hs, hb⟩ := Own.slR encI_len hown
  cases ys with
  | nil =>
    refine Calls.mono (R := _) (Go.Proofs.AnyG.slices_Compact_int_empty Tryd.compI a cap w) ?_
    rintro e w' ⟨he, hw⟩
    subst hw
    exact ⟨⟨a, cap, he⟩, Below.refl _ _⟩
  | cons y l =>
    obtain ⟨b, off, h1, _, _⟩ := hs.at (by simp)
    subst h1
    obtain ⟨hb1, hb2⟩ := hb _ rfl
    simp only at hb1 hb2; subst hb2
    exact (comp_I base b cap (y :: l) w hown).mono fun e w' ⟨he, hg⟩ => ⟨⟨_, _, he⟩, (Below.refl base w).grown hg hbw (fun k hk => by injection hk with hk; omega)⟩
theorem may_not {p : List Opn} {t : List Lt} (h : ¬ MayV p t) : Ending.returned (.bool false) = .returned (.bool (mayV p t)) := by rw [mayV_no.2 h]
set_option maxRecDepth 20000 in
set_option maxHeartbeats 4000000 in
theorem mayV_c {p : List Opn} {t : List Lt} {m n : Nat} {a b : Option Addr} {ca cb : Nat} {w : World} (hm : p.length = m) (hn : t.length = n) (HP : SlR encP 6 w a ca p) (HL : SlR encL 4 w b cb t) : Calls Tryd.prog 11 #[.slice a m ca, .slice b n cb] w fun e w' => e = .returned (.bool (mayV p t)) ∧ Below w.heap.size w w' := by
  subst hm hn
  have hw := Below.refl w.heap.size w
  have hca := HP.le
  have hcm := HP.max
  refine fn_enter 54 Tryd.func11 rfl rfl rfl ?_
  repeat' ((fail_if_success (refine is_seqb ?_)); (fail_if_success (refine is_blk ?_)); first | (refine lw_pure rfl (pv_move rfl) ?_) | (refine lw_pure rfl (pv_assign rfl) ?_) | (refine lw_call (f := 17) (by kernel_rfl) rfl rfl (rise_P rfl (HP.mono hw)) ?_; rintro e w1 ⟨rfl, hb⟩; refine ⟨_, rfl, ?_⟩; replace hw := grow_trans hw hb; clear hb) | (refine lw_call (f := 19) (by kernel_rfl) rfl rfl (rise_L rfl (HL.mono hw)) ?_; rintro e w1 ⟨rfl, hb⟩; refine ⟨_, rfl, ?_⟩; replace hw := grow_trans hw hb; clear hb) | (refine is_cw ?_; first | (refine cw_seq ?_) | (refine cw_region ?_) | (refine cw_true rfl rfl ?_) | (refine cw_skip ?_) | (refine cw_ret ?_)) | (refine is_qw ?_; first | (with_reducible refine qw_then ?_) | (with_reducible refine qw_then_ret ?_)) | (refine lw_nil ?_) | (refine is_guarded ?_; first | (refine lw_not rfl rfl rfl rfl ?_) | (refine lw_on rfl rfl (by first | assumption | exact decide_eq_true (by omega) | exact decide_eq_false (by omega) | exact dec_notT (by omega) | exact dec_notF (by omega)) ?_) | (refine lw_not rfl rfl rfl (by first | assumption | exact decide_eq_true (by omega) | exact decide_eq_false (by omega) | exact dec_notT (by omega) | exact dec_notF (by omega)) ?_) | (refine lw_gs_f rfl rfl rfl (fun hc => ?_) (fun hc => ?_) <;> (first | replace hc := of_decide_eq_true hc | replace hc := of_decide_eq_false hc | replace hc := dec_nT hc | replace hc := dec_nF hc | skip) <;> (try (exfalso; omega)))) | ((refine is_bin ?_; first | (refine lw_pure rfl (pv_gtr rfl rfl) ?_))) | ((refine is_un ?_; first | (refine lw_pure rfl (pv_not rfl) ?_))) | ((refine is_bi ?_; first | (refine lw_pure rfl (pv_lenl (tS rfl) rfl) ?_))) | (refine is_pk ?_; refine lw_pure rfl (pv_pick_t rfl rfl rfl) ?_) | (refine is_pk ?_; refine lw_pure rfl (pv_pick_t rfl (by first | assumption | exact decide_eq_true (by omega) | exact dec_notT (by omega)) rfl) ?_) | (refine is_pk ?_; refine lw_pure rfl (pv_pick_f rfl (by first | assumption | exact decide_eq_false (by omega) | exact dec_notF (by omega)) rfl) ?_) | (refine is_cw ?_; refine cw_split rfl (fun hc => ?_) (fun hc => ?_) <;> (first | replace hc := of_decide_eq_true hc | replace hc := of_decide_eq_false hc | replace hc := dec_nT hc | replace hc := dec_nF hc | skip) <;> (try (exfalso; omega))))
  all_goals first | (refine qw_ret1 rfl rfl ⟨may_not ?_, hw⟩; rintro ⟨h1, h2, h3, -⟩; first | omega | (exact absurd h2 (by assumption)) | (exact absurd h3 (by assumption))) | skip
  have hl : p.length ≤ 128 := by omega
  have h32 : t.length ≤ 32 := by omega
  have hp1 : p.Pairwise keyO := by assumption
  have ht1 : t.Pairwise keyT := by assumption
  repeat' (first | (refine is_cw ?_; first | (refine cw_block ?_)))
  refine cw_loop (σ := Nat × Value) (fun s => [(0, .slice a p.length ca), (1, .slice b t.length cb), (5, s.2), (26, .slice a p.length ca), (27, .int .i64 (p.length : Nat)), (28, .int .i64 (s.1 : Nat))]) (fun s wr => s.1 ≤ p.length ∧ Below w.heap.size w wr ∧ Own encI 1 2 w.heap.size wr s.2 ((p.take s.1).map (·.id)) ∧ ∀ j, j < s.1 → ∀ x, p[j]? = some x → MayO x) (fun s => p.length - s.1) (0, .slice none 0 0) (by repeat' (first | exact trivial | refine ⟨rfl, ?_⟩)) ⟨Nat.zero_le _, hw, Own.nil _, by omega⟩ ?_
  clear hw
  rintro ⟨k, v⟩ wr ⟨hk, hW, hO, hn⟩
  dsimp only at hk hO hn
  change CW _ _ _ _ [(0, .slice a p.length ca), (1, .slice b t.length cb), (5, v), (26, .slice a p.length ca), (27, .int .i64 (p.length : Nat)), (28, .int .i64 (k : Nat))] wr
  by_cases hlt : k < p.length
  · have hxk : p[k]? = some p[k] := List.getElem?_eq_getElem hlt
    obtain ⟨ab, ao, rfl, -, -⟩ := HP.at (by intro h; rw [h] at hlt; simp at hlt)
    generalize p[k] = x at hxk
    have HS := HP.mono hW
    have hw := Below.refl wr.heap.size wr
    repeat' (first | (refine is_cw ?_; first | (refine cw_seq ?_) | (refine cw_region ?_) | (refine is_cd ?_; refine cw_true rfl (by first | assumption | exact decide_eq_true (by omega) | exact dec_notT (by omega)) ?_) | (refine cw_skip ?_) | (refine cw_block ?_)) | (refine is_qw ?_; first | (with_reducible refine qw_then ?_)) | (refine lw_nil ?_) | ((refine is_bin ?_; first | (refine lw_pure rfl (pv_lss rfl rfl) ?_))) | ((refine is_load ?_; first | (refine lw_pure rfl (pv_loada (tA rfl) rfl (by first | exact SlR.lda (HS.mono hw) hxk) (by rfl)) ?_))) | ((refine is_ia ?_; first | (refine lw_pure rfl (pv_ian (tS rfl) rfl rfl (by omega)) ?_))))
    refine lw_varN rfl (by first | exact tyv_25 | exact tyv_26 | exact tyv_33 | exact tyv_34 | exact tyv_35 | exact tyv_36 | exact tyv_37 | exact tyv_50 | exact tyv_51 | exact tyv_81 | exact tyv_82) rfl (tZ rfl) (fun _ => rfl) rfl rfl ?_; intro N wn hN HX hb; replace hN := Nat.le_trans hw.size hN; replace hw := grow_trans hw hb; clear hb
    replace hO := hO.mono hw
    have hW2 := grow_trans hW hw
    clear HS hW
    ; clear hw; have hw := Below.refl wn.heap.size wn
    repeat' (first | (refine lw_call (f := 21) (by kernel_rfl) rfl rfl (may_o x _) ?_; rintro e w1 ⟨rfl, hb⟩; refine ⟨_, rfl, ?_⟩; replace hw := grow_trans hw hb; clear hb) | (refine is_cw ?_; first | (refine cw_seq ?_) | (refine cw_region ?_)) | (refine is_qw ?_; first | (with_reducible refine qw_then ?_)) | (refine lw_nil ?_) | ((refine is_load ?_; first | (refine lw_pure rfl (pv_loada (tA rfl) rfl (by first | exact PT.lda (HX.mono hw)) (by rfl)) ?_))) | ((refine is_un ?_; first | (refine lw_pure rfl (pv_not rfl) ?_))))
    by_cases hx : MayO x
    · rw [decide_eq_true hx]
      have htl : ((p.take k).map (·.id)).length ≤ 128 := by rw [List.length_map, List.length_take]; omega
      have hWs := grow_trans hW2 hw
      repeat' (first | (refine lw_pure rfl (pv_move rfl) ?_) | (refine is_cw ?_; first | (refine cw_region ?_) | (refine cw_false rfl rfl ?_) | (refine cw_skip ?_)) | (refine is_qw ?_; first | (with_reducible refine qw_then ?_)) | ((refine is_load ?_; first | (refine lw_pure rfl (pv_load (t1 rfl) rfl (by first | exact PT.ld0 (HX.mono hw) rfl | exact PT.ld (HX.mono hw) rfl)) ?_))) | ((refine is_fa ?_; first | (refine lw_pure rfl (pv_fa (tF rfl) rfl) ?_))))
      refine lw_bs (vs := [.int .i64 x.id]) (cs := [.int .i64 x.id]) elemI rfl rfl rfl (by omega) (by omega) rfl (by simp [Value.cells]) ?_; intro w4 HB hb hz
      refine lw_app elemI encI_len encI_one rfl rfl rfl ((hO.mono hw).mono hb) (HB.slR (xs := [x.id]) encI_len rfl (by omega)) rfl (Nat.le_trans hWs.size hb.size) (by simp; omega) (by simp [maxLen]; omega) ?_; intro v5 w5 hO5 hg5 hb5
      repeat' (first | (refine lw_pure rfl (pv_move rfl) ?_) | (refine lw_pure rfl (pv_assign rfl) ?_) | (refine is_cw ?_; first | (refine cw_region ?_)) | (refine is_qw ?_; first | (with_reducible refine qw_then ?_) | (with_reducible refine qw_in ?_)) | (refine lw_nil ?_) | ((refine is_bin ?_; first | (refine lw_pure rfl (pv_inc rfl rfl (by omega)) ?_))))
      refine qw_round (k + 1, v5) (by repeat' (first | exact trivial | refine ⟨rfl, ?_⟩)) ⟨by show k + 1 ≤ _; omega, (grow_trans hWs hb).trans hb5, ?_, ?_⟩ (by show p.length - (k + 1) < p.length - k; omega)
      · show Own _ _ _ _ _ _ ((p.take (k + 1)).map (·.id))
        rw [List.take_add_one, hxk]; simpa using hO5
      · intro j hj y hy
        by_cases hjk : j = k
        · subst hjk; rw [hxk] at hy; injection hy with hy; subst hy; exact hx
        · exact hn j (by show j < k; have : j < k + 1 := hj; omega) y hy
    · rw [decide_eq_false hx]
      repeat' (first | (refine lw_pure rfl (pv_assign rfl) ?_) | (refine is_cw ?_; first | (refine cw_seq ?_) | (refine cw_region ?_) | (refine cw_true rfl rfl ?_) | (refine cw_ret ?_)) | (refine is_qw ?_; first | (with_reducible refine qw_then ?_) | (with_reducible refine qw_then_ret ?_) | (with_reducible refine qw_in_ret ?_)) | (refine lw_nil ?_))
      exact qw_ret1 rfl rfl ⟨may_not (fun hM => hx (hM.2.2.2.1 x (List.mem_of_getElem? hxk))), grow_trans hW2 hw⟩
  · have hkl : k = p.length := by omega
    subst hkl
    rw [List.take_length] at hO
    have hml : (p.map (·.id)).length = p.length := List.length_map ..
    have hw := Below.refl wr.heap.size wr
    repeat' (first | (refine lw_pure rfl (pv_move rfl) ?_) | (refine is_cw ?_; first | (refine cw_seq ?_) | (refine cw_region ?_) | (refine is_cd ?_; refine cw_false rfl (by first | assumption | exact decide_eq_false (by omega) | exact dec_notF (by omega)) ?_) | (refine cw_exit ?_)) | (refine is_qw ?_; first | (with_reducible refine qw_then ?_) | (with_reducible refine qw_in_hit ?_) | (with_reducible refine qw_then_exit ?_)) | (refine lw_nil ?_) | ((refine is_bin ?_; first | (refine lw_pure rfl (pv_lss rfl rfl) ?_))))
    refine lw_call (f := 22) (by kernel_rfl) rfl rfl (sort_any hW.size hO (by omega)) ?_; rintro e w1 ⟨rfl, hO1, hb1⟩; refine ⟨_, rfl, ?_⟩
    replace hW := hW.trans hb1
    repeat' (first | (refine lw_pure rfl (pv_move rfl) ?_) | (refine is_cw ?_; first | (refine cw_seq ?_) | (refine cw_region ?_)) | (refine is_qw ?_; first | (with_reducible refine qw_then ?_)) | (refine lw_nil ?_))
    refine lw_call (f := 23) (by kernel_rfl) rfl rfl (comp_any hW.size hO1) ?_; rintro e w2 ⟨⟨a2, c2, rfl⟩, hb2⟩; refine ⟨_, rfl, ?_⟩
    replace hW := hW.trans hb2
    have hcl := compact_len (ys := p.map (·.id))
    rw [hml] at hcl
    generalize hq : (Lib.compact ((p.map (·.id)).mergeSort leI)).length = q at hcl ⊢
    clear hw hb1 hb2
    have hw := Below.refl w2.heap.size w2
    by_cases hqe : q = p.length
    · have hnd := hcl.1 hqe
      subst hqe
      have hFc : ∀ x, x ∈ t → ∀ w', Below w2.heap.size w2 w' → Calls Tryd.prog 25 (#[] ++ [Value.agg (encL x).toArray].toArray ++ #[]) w' fun e w'' => e = .returned (.bool (!decide (MayL x))) ∧ Below w'.heap.size w' w'' := fun x _ w' _ => by
        have := mayF_c x w'
        simpa using this
      repeat' (first | (refine lw_pure rfl (pv_move rfl) ?_) | (refine lw_pure rfl (pv_assign rfl) ?_) | (refine lw_call (f := 24) (by kernel_rfl) rfl rfl (contains_L w2.heap.size (fun x => !decide (MayL x)) 25 #[] (by kernel_rfl) (Nat.le_refl _) hFc rfl ((HL.mono hW).mono hw)) ?_; rintro e w1 ⟨rfl, hb⟩; refine ⟨_, rfl, ?_⟩; replace hw := grow_trans hw hb; clear hb) | (refine is_cw ?_; first | (refine cw_ret ?_)) | (refine is_qw ?_; first | (with_reducible refine qw_then ?_)) | (refine lw_nil ?_) | (refine is_guarded ?_; first | (refine lw_on rfl rfl (by first | assumption | exact decide_eq_true (by omega) | exact decide_eq_false (by omega) | exact dec_notT (by omega) | exact dec_notF (by omega)) ?_)) | ((refine is_bin ?_; first | (refine lw_pure rfl (pv_eql rfl rfl) ?_))) | ((refine is_un ?_; first | (refine lw_pure rfl (pv_not rfl) ?_))) | ((refine is_bi ?_; first | (refine lw_pure rfl (pv_lenl (tS rfl) rfl) ?_))) | (refine is_pk ?_; refine lw_pure rfl (pv_pick_t rfl (by first | assumption | exact decide_eq_true (by omega) | exact dec_notT (by omega)) rfl) ?_))
      refine qw_ret1 rfl rfl ⟨?_, grow_trans hW hw⟩
      have hiff : mayV p t = !(t.any fun x => !decide (MayL x)) := by
        rw [Bool.eq_iff_iff, mayV_iff]
        simp only [Bool.not_eq_true', List.any_eq_false]
        exact ⟨fun h x hx => by simp [h.2.2.2.2.2 x hx], fun h => ⟨⟨hl, h32⟩, hp1, ht1, all_of_get hn, hnd, fun x hx => by simpa using h x hx⟩⟩
      rw [hiff]
    · have hnd : ¬ (p.map (·.id)).Nodup := fun h => hqe (hcl.2 h)
      repeat' (first | (refine lw_pure rfl (pv_move rfl) ?_) | (refine lw_pure rfl (pv_assign rfl) ?_) | (refine is_cw ?_; first | (refine cw_ret ?_)) | (refine is_qw ?_; first | (with_reducible refine qw_then ?_)) | (refine lw_nil ?_) | (refine is_guarded ?_; first | (refine lw_not rfl rfl rfl (by first | assumption | exact decide_eq_true (by omega) | exact decide_eq_false (by omega) | exact dec_notT (by omega) | exact dec_notF (by omega)) ?_)) | ((refine is_bin ?_; first | (refine lw_pure rfl (pv_eql rfl rfl) ?_))) | ((refine is_bi ?_; first | (refine lw_pure rfl (pv_lenl (tS rfl) rfl) ?_))) | (refine is_pk ?_; refine lw_pure rfl (pv_pick_f rfl (by first | assumption | exact decide_eq_false (by omega) | exact dec_notF (by omega)) rfl) ?_))
      exact qw_ret1 rfl rfl ⟨may_not (fun hM => hnd hM.2.2.2.2.1), grow_trans hW hw⟩
end Go.Proofs.YtkehmbgcglbffaaDoor
namespace Go.Proofs.YtkehmbgcglbffaaDoor
open Go.RowKit Go.PlainAid

structure EvC where
  v : Int
  kind : Int
  an : Option Addr
  mn : Nat
  cn : Nat
  ax : Option Addr
  mx : Nat
  cx : Nat
abbrev encV (x : EvC) : List Value := [.int .u8 x.v, .int .u8 x.kind, .slice x.an x.mn x.cn, .slice x.ax x.mx x.cx]
theorem encV_len (x : EvC) : (encV x).length = 4 := rfl
theorem encV_one (x : EvC) : ∀ v ∈ encV x, v.oneCell' = true := by intro v hv; simp at hv; rcases hv with rfl | rfl | rfl | rfl <;> rfl
structure EvR (w : World) (x : EvC) (e : Evt) : Prop where
  v : x.v = e.v
  kind : x.kind = e.kind
  mn : e.nums.length = x.mn
  mx : e.texts.length = x.mx
  nums : SlR encI 1 w x.an x.cn e.nums
  texts : SlR encT 1 w x.ax x.cx e.texts
  h8 : 0 ≤ e.kind ∧ e.kind ≤ 255
  tx : TxtIn e.texts
theorem EvR.mono {w w' : World} {x : EvC} {e : Evt} (h : EvR w x e) (hb : Below w.heap.size w w') : EvR w' x e := ⟨h.v, h.kind, h.mn, h.mx, h.nums.mono hb, h.texts.mono hb, h.h8, h.tx⟩
theorem is_seqr {P : Program} {n : Nat} {l : Fr} {w : World} {Q : Exit → Act → World → Prop} (i : Nat) {ops : Array Oper} {d : Bool} {y : Code} (h : CW P n (.seq (.region i ops d) y) Q l w) : CW P n (.seq (.region i ops d) y) Q l w := h
section
variable {k nb : Nat} {P : Program} {n : Nat} {l : Fr} {w : World} {Q : Exit → Act → World → Prop} {ops : Array Oper} {os : List Oper} {d : Nat} {ty : TypeId} {pos : String} {af : Array Edge} {S T : TypeId}
theorem lw_bsN (E : ElemT P S T k nb) {m : Nat} {ps : List (Nat × Operand)} {vs cs : List Value} (hd : Nat.blt d n = true) (hps : ps.map (·.1) = List.range m) (hvs : evs l (ps.map (·.2)) = some vs) (hp : 0 < m) (hs : m * k ≤ 16777216) (hcs : (vs.flatMap fun v => v.cells.toList) = cs) (h1 : ∀ v ∈ vs, v.cells.size = k)
    (h : ∀ N w', w.heap.size ≤ N → PT w' N T cs → Below w.heap.size w w' → LW P n ops Q os ((d, .slice (some ⟨N, 0, none⟩) m m) :: l) w') :
    LW P n ops Q (⟨some d, .buildSlice S m ps.toArray, ty, pos, af, none⟩ :: os) l w :=
  lw_bs E hd hps hvs hp hs hcs h1 fun w' hp hb _ => h _ w' (Nat.le_refl _) hp hb
end
theorem tx_nil : TxtIn [] := fun x hx => by cases hx
end Go.Proofs.YtkehmbgcglbffaaDoor
namespace Go.Proofs.YtkehmbgcglbffaaDoor
open Go.ChangeShapes Go.WideShapes Go.ChangeAt Go.RowKit Go.Deep Go.WideElems Go.Joins
section
variable {H : Type} {enc : TypeId × Value → H} {W : World} {base : Nat} {sp : Nat → Bool} {held : Bool} {b0 : Nat} {v : Value} {d : DataW H} {p : List MemPlace}
theorem trod_u8 {P : Program} {w : World} {spare : Nat → Bool} {fuel : Nat} {t : TypeId} {c : Value} {x : DataW H × List MemPlace} (ht : P.underlying t = some (.int .u8)) (h : DataW.trod enc P w base spare held fuel t [c] = some x) : ∃ n : Int, c = .int .u8 n ∧ 0 ≤ n ∧ n ≤ 255 := by
  obtain ⟨n, e, _, hw⟩ := DataW.trod_int (k := .u8) ht h
  simp only [List.cons.injEq, and_true] at e
  simp only [Lit.wf, Bool.and_eq_true, decide_eq_true_eq] at hw
  exact ⟨n, e, hw⟩
theorem lot_dec (n : Nat) (cs : List Value) (y : DataW H × List MemPlace) (h : DataW.trod enc Tryd.prog W base sp held n 36 cs = some y) : ∃ r : Lt, cs = encL r ∧ True := by
  obtain ⟨c0, c1, c2, c3, y0, y1, y2, y3, n', rfl, h0, h1, h2, h3⟩ := trod_struct4 Tryd.underlying36 ⟨rfl, rfl, rfl, rfl⟩ ⟨by kernel_rfl, by kernel_rfl, by kernel_rfl, by kernel_rfl⟩ (by kernel_rfl) h
  obtain ⟨a, rfl, _⟩ := trod_i64 Tryd.underlying2 h0
  obtain ⟨s, rfl, _⟩ := trod_i64 Tryd.underlying3 h1
  obtain ⟨f, rfl, _⟩ := trod_i64 Tryd.underlying3 h2
  obtain ⟨g, rfl, _⟩ := trod_i64 Tryd.underlying2 h3
  exact ⟨⟨a, s, f, g⟩, rfl, trivial⟩
set_option maxRecDepth 20000 in
theorem open_dec (n : Nat) (cs : List Value) (y : DataW H × List MemPlace) (h : DataW.trod enc Tryd.prog W base sp held n 34 cs = some y) : ∃ r : Opn, cs = encP r ∧ True := by
  obtain ⟨xs, m, _, rfl, hl, hlen, hf⟩ := DataW.trod_struct Tryd.underlying34 h
  rw [show Tryd.prog.cellsOf 34 = 6 by kernel_rfl] at hl
  match xs, hlen, cs, hl with
  | [y0, y1, y2, y3, y4, y5], _, [c0, c1, c2, c3, c4, c5], _ =>
    obtain ⟨a, rfl, _⟩ := trod_i64 (c := c0) Tryd.underlying3 (hf 0 _ rfl)
    obtain ⟨b, rfl, _⟩ := trod_i64 (c := c1) Tryd.underlying2 (hf 1 _ rfl)
    obtain ⟨i, rfl, _⟩ := trod_i64 (c := c2) Tryd.underlying3 (hf 2 _ rfl)
    obtain ⟨s, rfl, _⟩ := trod_u8 (c := c3) Tryd.underlying5 (hf 3 _ rfl)
    obtain ⟨q, rfl, _⟩ := trod_i64 (c := c4) Tryd.underlying2 (hf 4 _ rfl)
    obtain ⟨l, rfl, _⟩ := trod_i64 (c := c5) Tryd.underlying2 (hf 5 _ rfl)
    exact ⟨⟨a, b, i, s, q, l⟩, rfl, trivial⟩
theorem int_dec (n : Nat) (cs : List Value) (y : DataW H × List MemPlace) (h : DataW.trod enc Tryd.prog W base sp held n 2 cs = some y) : ∃ r : Int, cs = encI r ∧ True := by
  obtain ⟨a, e, _⟩ := DataW.trod_int (k := .i64) Tryd.underlying2 h
  exact ⟨a, e, trivial⟩
theorem txt_dec (n : Nat) (cs : List Value) (y : DataW H × List MemPlace) (h : DataW.trod enc Tryd.prog W base sp held n 9 cs = some y) : ∃ r : ByteArray, cs = encT r ∧ y.1 = .lit (.string r.data.toList) := by
  obtain ⟨s, e, x, _⟩ := DataW.trod_string Tryd.underlying9 h
  exact ⟨s, e, by rw [x]⟩
set_option maxRecDepth 20000 in
theorem lots_open (hv : Value.okWide Tryd.prog W .any b0 29 v) (h : DataW.Trod enc Tryd.prog W base sp held 29 v d p) : ∃ a cap, ∃ xs : List Lt, v = .slice a xs.length cap ∧ SlR encL 4 W a cap xs ∧ ∀ x ∈ xs, True :=
  open_slP encL 4 (fun _ => True) encL_len Tryd.underlying29 (by kernel_rfl) lot_dec hv h
set_option maxRecDepth 20000 in
theorem opens_open (hv : Value.okWide Tryd.prog W .any b0 28 v) (h : DataW.Trod enc Tryd.prog W base sp held 28 v d p) : ∃ a cap, ∃ xs : List Opn, v = .slice a xs.length cap ∧ SlR encP 6 W a cap xs ∧ ∀ x ∈ xs, True :=
  open_slP encP 6 (fun _ => True) encP_len Tryd.underlying28 (by kernel_rfl) open_dec hv h
end
section
variable {H : Type} {enc : TypeId × Value → H} {P : Program} {w : World} {base : Nat} {spare : Nat → Bool} {held : Bool}
theorem open_slQ {α : Type} (encE : α → List Value) (k : Nat) (Pr : α → DataW H → Prop) {r : Reach} {b0 : Nat} {t e : TypeId} {v : Value} {d : DataW H} {p : List MemPlace} (hk : ∀ x, (encE x).length = k) (ht : P.underlying t = some (.slice e)) (hC : P.cellsOf e = k)
    (hdec : ∀ n cs y, DataW.trod enc P w base spare held n e cs = some y → ∃ x : α, cs = encE x ∧ Pr x y.1)
    (hv : Value.okWide P w r b0 t v) (h : DataW.Trod enc P w base spare held t v d p) : ∃ a cap, ∃ xs : List α, v = .slice a xs.length cap ∧ SlR encE k w a cap xs ∧ ∀ x ∈ xs, ∃ ds rest, d = .slice ds rest ∧ ∃ y ∈ ds, Pr x y := by
  rcases okWide_slice_ok ht hv with rfl | ⟨a, len, cap, rfl, hlc, hmax, hsp, hlt⟩
  · exact ⟨none, 0, [], rfl, SlR.nil w, by simp⟩
  · obtain ⟨fuel, hf⟩ := h
    rcases open_slice ht hf with ⟨h0, _⟩ | ⟨a', len', cap', m, n, D, Pl, hcs, hb, hl, hm, hmm, hx, hi⟩
    · simp [Value.cells] at h0
    · simp only [Value.cells, List.cons.injEq, Value.slice.injEq, Option.some.injEq, and_true] at hcs
      obtain ⟨rfl, rfl, rfl⟩ := hcs
      have hlm : len ≤ m := by rw [hmm]; split <;> omega
      have hE : ∀ i, i < len → ∃ x : α, w.cells? base (a.add (i * P.cellsOf e)) (P.cellsOf e) = some (encE x) ∧ Pr x (D i) := fun i h => by
        obtain ⟨cs', h1, h2⟩ := hi i (by omega)
        obtain ⟨x, rfl, hp⟩ := hdec _ _ _ h2
        exact ⟨x, h1, hp⟩
      have hL : ∀ m, m ≤ len → ∃ xs : List α, xs.length = m ∧ (∀ j x, xs[j]? = some x → w.cells? base (a.add (j * P.cellsOf e)) (P.cellsOf e) = some (encE x)) ∧ ∀ x ∈ xs, ∃ i, i < len ∧ Pr x (D i) := by
        intro m hm
        induction m with
        | zero => exact ⟨[], rfl, fun j x hx => by simp at hx, by simp⟩
        | succ m ih =>
          obtain ⟨xs, h1, h2, h3⟩ := ih (by omega)
          obtain ⟨x, hx, hp⟩ := hE m (by omega)
          refine ⟨xs ++ [x], by simp [h1], fun j y hy => ?_, fun y hy => ?_⟩
          · by_cases hj : j < xs.length
            · rw [List.getElem?_append_left hj] at hy; exact h2 j y hy
            · rw [List.getElem?_append_right (by omega)] at hy
              have : j - xs.length = 0 := by
                have := (List.getElem?_eq_some_iff.1 hy).1; simp at this; omega
              rw [this] at hy; simp at hy; subst hy
              have : j = m := by omega
              subst this; exact hx
          · rcases List.mem_append.1 hy with hy | hy
            · exact h3 y hy
            · simp at hy; subst hy; exact ⟨m, by omega, hp⟩
      obtain ⟨xs, hlen, hxs, hpr⟩ := hL len (Nat.le_refl _)
      refine ⟨some a, cap, xs, by rw [hlen], ⟨by omega, hmax, (fun h => by cases h), fun ad had _ => ?_⟩, fun x hx2 => ?_⟩
      · cases had
        refine ⟨hsp, hlt, fun j x hx i v hv => ?_⟩
        obtain ⟨_, h1, h2⟩ := World.cells?_some (hxs j x hx)
        have hik : i < k := by have := (List.getElem?_eq_some_iff.1 hv).1; rwa [hk] at this
        have h3 := h2 i (by rw [hC]; exact hik)
        rw [hv] at h3
        obtain ⟨b, off, sp⟩ := a
        simp only at hsp; subst hsp
        rw [hC] at h3
        rwa [Addr.add_lit, Addr.add_lit] at h3
      · obtain ⟨i, hi2, hp⟩ := hpr x hx2
        simp only [Prod.mk.injEq] at hx
        exact ⟨_, _, hx.1, D i, List.mem_map.2 ⟨i, List.mem_range.2 hi2, rfl⟩, hp⟩
theorem mem_weightsAll {e : TypeId} {n : Nat} {y : DataW H} (hn : n ∈ DataW.weights P e y) : ∀ {ds : List (DataW H)}, y ∈ ds → n ∈ DataW.weightsAll P e ds
  | [], h => by cases h
  | d :: r, h => by
    rw [DataW.weightsAll]
    rcases List.mem_cons.1 h with rfl | h
    · exact List.mem_append_left _ hn
    · exact List.mem_append_right _ (mem_weightsAll hn h)
end
section
variable {H : Type} {enc : TypeId × Value → H} {W : World} {base : Nat} {sp : Nat → Bool} {held : Bool} {b0 : Nat} {v : Value} {d : DataW H} {p : List MemPlace}
set_option maxRecDepth 20000 in
theorem nums_open (hv : Value.okWide Tryd.prog W .any b0 23 v) (h : DataW.Trod enc Tryd.prog W base sp held 23 v d p) : ∃ a cap, ∃ xs : List Int, v = .slice a xs.length cap ∧ SlR encI 1 W a cap xs ∧ ∀ x ∈ xs, True :=
  open_slP encI 1 (fun _ => True) encI_len Tryd.underlying23 (by kernel_rfl) int_dec hv h
set_option maxRecDepth 20000 in
theorem texts_open (hv : Value.okWide Tryd.prog W .any b0 24 v) (h : DataW.Trod enc Tryd.prog W base sp held 24 v d p) : ∃ a cap, ∃ xs : List ByteArray, v = .slice a xs.length cap ∧ SlR encT 1 W a cap xs ∧ ∀ x ∈ xs, x.size ∈ DataW.weights Tryd.prog 24 d := by
  obtain ⟨a, cap, xs, h1, h2, h3⟩ := open_slQ encT 1 (fun x y => y = .lit (.string x.data.toList)) (fun _ => rfl) Tryd.underlying24 (by kernel_rfl) txt_dec hv h
  refine ⟨a, cap, xs, h1, h2, fun x hx => ?_⟩
  obtain ⟨ds, rest, rfl, y, hy, rfl⟩ := h3 x hx
  rw [DataW.weights, Tryd.underlying24]
  refine List.mem_cons_of_mem _ (List.mem_append_left _ (mem_weightsAll ?_ hy))
  rw [DataW.weights]
  exact List.mem_singleton.2 Array.length_toList.symm
set_option maxRecDepth 20000 in
theorem ev_open (hv : Value.okWide Tryd.prog W .any b0 26 v) (h : DataW.Trod enc Tryd.prog W base sp held 26 v d p) (hwt : ∀ n ∈ DataW.weights Tryd.prog 26 d, n ≤ reachBytes) : ∃ x e, v = .agg (encV x).toArray ∧ EvR W x e := by
  obtain ⟨⟨cs⟩, rfl, hsz⟩ := okWide_struct Tryd.underlying26 hv
  have hrow : Row.okWide Tryd.prog W .any b0 26 ⟨cs⟩ := by
    have hv2 := hv
    simp only [Value.okWide, Tryd.underlying26] at hv2
    obtain ⟨cs2, h1, _, h3⟩ := hv2
    injection h1 with h1
    rw [h1]; exact h3
  obtain ⟨ts, hts, -, hcell⟩ := hrow
  obtain rfl := Option.some.inj ((show Tryd.prog.cellTypes Tryd.prog.depth 26 = some [5, 5, 23, 24] by kernel_rfl).symm.trans hts)
  obtain ⟨fuel, hf⟩ := h
  obtain ⟨xs, m, _, hx, hl, hlen, hfi⟩ := DataW.trod_struct Tryd.underlying26 hf
  rw [show Tryd.prog.cellsOf 26 = 4 by kernel_rfl] at hl
  have hl2 : cs.length = 4 := hl
  match xs, hlen, cs, hl2 with
  | [y0, y1, y2, y3], _, [c0, c1, c2, c3], _ =>
    obtain ⟨a, rfl, _⟩ := trod_u8 (c := c0) Tryd.underlying5 (hfi 0 _ rfl)
    obtain ⟨b, rfl, hb1, hb2⟩ := trod_u8 (c := c1) Tryd.underlying5 (hfi 1 _ rfl)
    simp only [Prod.mk.injEq] at hx
    obtain ⟨rfl, -⟩ := hx
    have k2 : Value.okWide Tryd.prog W .any b0 23 c2 := by
      obtain ⟨u, hu, hc⟩ := hcell 2 c2 rfl
      obtain rfl := Option.some.inj (show some 23 = some u from hu)
      simp only [Value.okWide, Tryd.underlying23]; exact hc
    have k3 : Value.okWide Tryd.prog W .any b0 24 c3 := by
      obtain ⟨u, hu, hc⟩ := hcell 3 c3 rfl
      obtain rfl := Option.some.inj (show some 24 = some u from hu)
      simp only [Value.okWide, Tryd.underlying24]; exact hc
    have g2 : DataW.trod enc Tryd.prog W base sp held m 23 [c2] = some y2 := hfi 2 _ rfl
    have g3 : DataW.trod enc Tryd.prog W base sp held m 24 [c3] = some y3 := hfi 3 _ rfl
    obtain ⟨i2, j2, m2, rfl⟩ := okWide_slice Tryd.underlying23 k2
    obtain ⟨i3, j3, m3, rfl⟩ := okWide_slice Tryd.underlying24 k3
    obtain ⟨a2, q2, ns, e2, S2, -⟩ := nums_open (d := y2.1) (p := y2.2) k2 ⟨m, g2⟩
    obtain ⟨a3, q3, tx, e3, S3, w3⟩ := texts_open (d := y3.1) (p := y3.2) k3 ⟨m, g3⟩
    injection e2 with e4 e5 e6
    injection e3 with e7 e8 e9
    subst e4 e5 e6 e7 e8 e9
    refine ⟨⟨a, b, _, _, _, _, _, _⟩, ⟨a, b, ns, tx⟩, rfl, ⟨rfl, rfl, rfl, rfl, S2, S3, ⟨hb1, hb2⟩, fun s hs => ?_⟩⟩
    have h5 := hwt s.size (by
      rw [DataW.weights, Tryd.underlying26]
      have h6 := w3 s hs
      simp only [List.map_cons, List.map_nil, DataW.weightsEach]
      exact List.mem_append_right _ (List.mem_append_right _ (List.mem_append_right _ (List.mem_append_left _ h6))))
    have h7 : reachBytes ≤ 140737488355328 := by decide
    exact Nat.le_trans h5 h7
end
end Go.Proofs.YtkehmbgcglbffaaDoor
namespace Go.Proofs.YtkehmbgcglbffaaDoor
open Go.ChangeShapes Go.WideShapes Go.ChangeAt Go.RowKit

theorem str_back (s : ByteArray) : (⟨s.data.toList.toArray⟩ : ByteArray) = s := by cases s; simp
set_option maxRecDepth 20000 in
theorem krow_dec {W : World} {n : Nat} {cs : List Value} {y : DataW Unit × List MemPlace} (h : DataW.trod (fun _ => ()) Tryd.prog W 0 (fun _ => true) false n 82 cs = some y) : cs = encK (krowOf y.1) := by
  obtain ⟨xs, m, _, rfl, hl, hlen, hf⟩ := DataW.trod_struct Tryd.underlying82 h
  have hstr : Tryd.prog.underlying 9 = some .string := Tryd.underlying9
  rw [show Tryd.prog.cellsOf 82 = 5 by kernel_rfl] at hl
  match xs, hlen, cs, hl with
  | [y0, y1, y2], _, [c0, c1, c2, c3, c4], _ =>
    have h0 := hf 0 _ rfl
    have h1 := hf 1 _ rfl
    have h2 := hf 2 _ rfl
    obtain ⟨s, e0, x0, _⟩ := DataW.trod_string hstr h0
    obtain ⟨z0, z1, z2, n', hx, g0, g1, g2⟩ := trod_array3 (c0 := c1) (c1 := c2) (c2 := c3) Tryd.underlying80 (by kernel_rfl) h1
    obtain ⟨s0, f0, w0, _⟩ := DataW.trod_string hstr g0
    obtain ⟨s1, f1, w1, _⟩ := DataW.trod_string hstr g1
    obtain ⟨s2, f2, w2, _⟩ := DataW.trod_string hstr g2
    obtain ⟨b, e4, x4⟩ := DataW.trod_bool Tryd.underlying4 h2
    have e0' : c0 = .string s := by
      have : [c0] = [Value.string s] := e0
      injection this
    have e4' : c4 = .bool b := by
      have : [c4] = [Value.bool b] := e4
      injection this
    injection f0 with f0
    injection f1 with f1
    injection f2 with f2
    subst e0' e4' f0 f1 f2 w0 w1 w2 hx x0 x4
    simp [krowOf, encK]
set_option maxRecDepth 20000 in
theorem knW_of {W : World} (h : laidMetH Tryd.prog [("souk/schema.kinds", Rows.laid_souk_schema_kinds)] W) : KnW W := by
  have h1 : laidMet Tryd.prog [("souk/schema.kinds", Rows.laid_souk_schema_kinds)] W := h
  obtain ⟨ps, ⟨g, t, cs, fuel, p, q, hg, ht, hv, hd, -, -⟩, -, -⟩ := h1
  obtain rfl := Option.some.inj ((show Tryd.prog.globalNamed "souk/schema.kinds" = some 0 by kernel_rfl).symm.trans hg)
  obtain rfl := Option.some.inj ((show (Tryd.prog.globals[0]?).map (·.type) = some 110 by kernel_rfl).symm.trans ht)
  have hcell := fun i => World.var?_cell hg hv i
  obtain ⟨xs, m, _, hx, hl, hlen, hf⟩ := DataW.trod_array Tryd.underlying110 hd
  injection hx with hx1 hx2
  have hk : kindsT = xs.map (fun y => krowOf y.1) := by
    unfold kindsT
    rw [hx1]
    simp [partsOf]
  have hC : Tryd.prog.cellsOf 82 = 5 := by kernel_rfl
  have hCt : Tryd.prog.cellsOf 110 = 115 := by kernel_rfl
  rw [hCt] at hl
  have hlt : 0 < W.heap.size := by
    refine Nat.lt_of_not_le fun hle => ?_
    have h9 := hcell 0
    have h8 : W.heap[0]? = none := Array.getElem?_eq_none hle
    have h7 : cs[0]? ≠ none := by
      rw [← Array.getElem?_toList]
      intro h; have := List.getElem?_eq_none_iff.1 h; omega
    rw [← h9] at h7
    simp [World.cell?, h8] at h7
  refine ⟨⟨by rw [kindsT_len]; omega, by omega, (fun h => by cases h), fun ad had _ => ?_⟩⟩
  cases had
  refine ⟨rfl, hlt, fun j x hj i v hi => ?_⟩
  rw [hk, List.getElem?_map, Option.map_eq_some_iff] at hj
  obtain ⟨y, hy, rfl⟩ := hj
  have hj23 : j < 23 := by have := (List.getElem?_eq_some_iff.1 hy).1; omega
  have hfj := hf j hj23
  rw [hy, hC] at hfj
  have he := krow_dec hfj
  have hi5 : i < 5 := by have := (List.getElem?_eq_some_iff.1 hi).1; rw [encK_len] at this; exact this
  rw [hcell, ← Array.getElem?_toList]
  rw [← he, List.getElem?_take, if_pos hi5, List.getElem?_drop] at hi
  rw [show (0 + j * 5 + i) = j * 5 + i by omega]
  exact hi
theorem wt_in {H : Type} {P : Program} {n : Nat} : ∀ {ts : List TypeId} {ds : List (DataW H)} {j : Nat} {t : TypeId} {d : DataW H}, ts[j]? = some t → ds[j]? = some d → n ∈ DataW.weights P t d → n ∈ DataW.weightsEach P ts ds
  | t :: ts, d :: ds, 0, _, _, h1, h2, hn => by
    simp at h1 h2; subst h1 h2
    rw [DataW.weightsEach]; exact List.mem_append_left _ hn
  | t :: ts, d :: ds, j + 1, _, _, h1, h2, hn => by
    rw [DataW.weightsEach]; exact List.mem_append_right _ (wt_in (by simpa using h1) (by simpa using h2) hn)
  | [], _, _, _, _, h1, _, _ => by simp at h1
  | _ :: _, [], _, _, _, _, h2, _ => by simp at h2
theorem wt_of {H : Type} {P : Program} {ts us : List TypeId} {ds gs : List (DataW H)} (hZ : ((DataW.weightsEach P (ts ++ us) (ds ++ gs)).all fun x => decide (x ≤ reachBytes)) = true) {j : Nat} {t : TypeId} {d : DataW H} (ht : ts[j]? = some t) (hd : ds[j]? = some d) : ∀ n ∈ DataW.weights P t d, n ≤ reachBytes := fun n hn => by
  have h1 : (ts ++ us)[j]? = some t := by rw [List.getElem?_append_left (List.getElem?_eq_some_iff.1 ht).1]; exact ht
  have h2 : (ds ++ gs)[j]? = some d := by rw [List.getElem?_append_left (List.getElem?_eq_some_iff.1 hd).1]; exact hd
  exact of_decide_eq_true (List.all_eq_true.1 hZ n (wt_in h1 h2 hn))
set_option maxRecDepth 100000 in
theorem door_met (os : Os) (args : Array Value) : laidMetH Tryd.prog [("souk/schema.kinds", Rows.laid_souk_schema_kinds)] ((World.doorLaid Tryd.prog 200 os).forCall (fun _ _ => 0) ⟨#[], args, []⟩).memory :=
  laidMetH_of_parts (laidMet_of_run' 8 (by kernel_rfl) (by kernel_rfl)) (by kernel_rfl)
end Go.Proofs.YtkehmbgcglbffaaDoor
namespace Go.Proofs.YtkehmbgcglbffaaDoor
open Go.RowKit Go.PlainAid

set_option maxRecDepth 20000 in
theorem atF_c (o : Opn) (id : Int) (N : Nat) (w : World) (h : PT w N 2 [.int .i64 id]) : Calls Tryd.prog 69 #[.agg (encP o).toArray, .pointer (some ⟨N, 0, none⟩)] w fun e w' => e = .returned (.bool (o.id == id)) ∧ Below w.heap.size w w' := by
  have hE := Ext.refl w
  have hw := Below.refl w.heap.size w
  refine fn_enter 8 Tryd.func69 rfl rfl rfl ?_
  repeat' (first | (refine lw_pure rfl (pv_move rfl) ?_) | (refine lw_pure rfl (pv_assign rfl) ?_) | (refine is_cw ?_; first | (refine cw_seq ?_) | (refine cw_region ?_) | (refine cw_ret ?_)) | (refine is_qw ?_; first | (with_reducible refine qw_then ?_) | (with_reducible refine qw_then_ret ?_)) | (refine lw_nil ?_) | ((refine is_bin ?_; first | (refine lw_pure rfl (pv_eql rfl rfl) ?_))) | ((refine is_load ?_; first | (refine lw_pure rfl (pv_load (t1 rfl) rfl (by first | fail)) ?_) | (refine lw_pure rfl (pv_loada (tA rfl) rfl (by first | fail) (by rfl)) ?_))) | ((refine is_fa ?_; first | (refine lw_pure rfl (pv_fa (tF rfl) rfl) ?_))))
  refine lw_boxN rfl rfl (cs := encP o) rfl ?_; intro N1 wn hN HA hb
  replace hw := grow_trans hw hb
  clear hb
  replace hE := hE.mono hw; replace h := h.mono hw; clear hw; have hw := Below.refl wn.heap.size wn
  repeat' (first | (refine lw_pure rfl (pv_move rfl) ?_) | (refine lw_pure rfl (pv_assign rfl) ?_) | (refine is_cw ?_; first | (refine cw_seq ?_) | (refine cw_region ?_) | (refine cw_ret ?_)) | (refine is_qw ?_; first | (with_reducible refine qw_then ?_) | (with_reducible refine qw_then_ret ?_)) | (refine lw_nil ?_) | ((refine is_bin ?_; first | (refine lw_pure rfl (pv_eql rfl rfl) ?_))) | ((refine is_load ?_; first | (refine lw_pure rfl (pv_load (t1 rfl) rfl (by first | exact PT.ld0 (HA.mono hw) rfl | exact PT.ld (HA.mono hw) rfl | exact PT.ld0 (h.mono hw) rfl | exact PT.ld (h.mono hw) rfl)) ?_) | (refine lw_pure rfl (pv_loada (tA rfl) rfl (by first | exact PT.lda (HA.mono hw) | exact PT.lda (h.mono hw)) (by rfl)) ?_))) | ((refine is_fa ?_; first | (refine lw_pure rfl (pv_fa (tF rfl) rfl) ?_))))
  exact qw_ret1 rfl rfl ⟨ret_bool rfl, (hE.mono hw).b⟩
set_option maxRecDepth 20000 in
theorem lotF_c (o : Lt) (id : Int) (N : Nat) (w : World) (h : PT w N 2 [.int .i64 id]) : Calls Tryd.prog 71 #[.agg (encL o).toArray, .pointer (some ⟨N, 0, none⟩)] w fun e w' => e = .returned (.bool (o.id == id)) ∧ Below w.heap.size w w' := by
  have hE := Ext.refl w
  have hw := Below.refl w.heap.size w
  refine fn_enter 8 Tryd.func71 rfl rfl rfl ?_
  repeat' (first | (refine lw_pure rfl (pv_move rfl) ?_) | (refine lw_pure rfl (pv_assign rfl) ?_) | (refine is_cw ?_; first | (refine cw_seq ?_) | (refine cw_region ?_) | (refine cw_ret ?_)) | (refine is_qw ?_; first | (with_reducible refine qw_then ?_) | (with_reducible refine qw_then_ret ?_)) | (refine lw_nil ?_) | ((refine is_bin ?_; first | (refine lw_pure rfl (pv_eql rfl rfl) ?_))) | ((refine is_load ?_; first | (refine lw_pure rfl (pv_load (t1 rfl) rfl (by first | fail)) ?_) | (refine lw_pure rfl (pv_loada (tA rfl) rfl (by first | fail) (by rfl)) ?_))) | ((refine is_fa ?_; first | (refine lw_pure rfl (pv_fa (tF rfl) rfl) ?_))))
  refine lw_boxN rfl rfl (cs := encL o) rfl ?_; intro N1 wn hN HA hb
  replace hw := grow_trans hw hb
  clear hb
  replace hE := hE.mono hw; replace h := h.mono hw; clear hw; have hw := Below.refl wn.heap.size wn
  repeat' (first | (refine lw_pure rfl (pv_move rfl) ?_) | (refine lw_pure rfl (pv_assign rfl) ?_) | (refine is_cw ?_; first | (refine cw_seq ?_) | (refine cw_region ?_) | (refine cw_ret ?_)) | (refine is_qw ?_; first | (with_reducible refine qw_then ?_) | (with_reducible refine qw_then_ret ?_)) | (refine lw_nil ?_) | ((refine is_bin ?_; first | (refine lw_pure rfl (pv_eql rfl rfl) ?_))) | ((refine is_load ?_; first | (refine lw_pure rfl (pv_load (t1 rfl) rfl (by first | exact PT.ld0 (HA.mono hw) rfl | exact PT.ld (HA.mono hw) rfl | exact PT.ld0 (h.mono hw) rfl | exact PT.ld (h.mono hw) rfl)) ?_) | (refine lw_pure rfl (pv_loada (tA rfl) rfl (by first | exact PT.lda (HA.mono hw) | exact PT.lda (h.mono hw)) (by rfl)) ?_))) | ((refine is_fa ?_; first | (refine lw_pure rfl (pv_fa (tF rfl) rfl) ?_))))
  exact qw_ret1 rfl rfl ⟨ret_bool rfl, (hE.mono hw).b⟩
def atR {α : Type} (l : List α) (q : α → Bool) (i : Int) : Prop := (i = -1 ∧ ∀ x ∈ l, q x = false) ∨ ∃ (k : Nat) (r : α), i = k ∧ l[k]? = some r ∧ q r = true ∧ ∀ x ∈ l.take k, q x = false
set_option maxRecDepth 20000 in
theorem at_c {p : List Opn} {m : Nat} {a : Option Addr} {ca : Nat} {w : World} (id : Int) (hm : p.length = m) (HP : SlR encP 6 w a ca p) : Calls Tryd.prog 46 #[.slice a m ca, .int .i64 id] w fun e w' => (∃ i, e = .returned (.int .i64 i) ∧ atR p (fun o => o.id == id) i) ∧ Below w.heap.size w w' := by
  have hE := Ext.refl w
  have hw := Below.refl w.heap.size w
  refine fn_enter 8 Tryd.func46 rfl rfl rfl ?_
  repeat' (first | (refine lw_pure rfl (pv_move rfl) ?_) | (refine lw_pure rfl (pv_assign rfl) ?_) | (refine is_cw ?_; first | (refine cw_seq ?_) | (refine cw_region ?_) | (refine cw_ret ?_)) | (refine is_qw ?_; first | (with_reducible refine qw_then ?_) | (with_reducible refine qw_then_ret ?_)) | (refine lw_nil ?_) | (refine lw_pure rfl (pv_makeFunc rfl rfl) ?_))
  refine lw_boxN rfl rfl (cs := [.int .i64 id]) rfl ?_; intro N wn hN HA hb
  replace hw := grow_trans hw hb
  clear hb
  replace hE := hE.mono hw; replace HP := HP.mono hw; clear hw; have hw := Below.refl wn.heap.size wn
  repeat' (first | (refine lw_pure rfl (pv_move rfl) ?_) | (refine lw_pure rfl (pv_assign rfl) ?_) | (refine is_cw ?_; first | (refine cw_seq ?_) | (refine cw_region ?_) | (refine cw_ret ?_)) | (refine is_qw ?_; first | (with_reducible refine qw_then ?_) | (with_reducible refine qw_then_ret ?_)) | (refine lw_nil ?_) | (refine lw_pure rfl (pv_makeFunc rfl rfl) ?_))
  refine lw_call (f := 68) (by kernel_rfl) rfl rfl (indexf_P wn.heap.size (fun o => o.id == id) 69 #[.pointer (some ⟨N, 0, none⟩)] (by kernel_rfl) (Nat.le_refl _) (fun x _ w' hb => by simpa using atF_c x id N w' (HA.mono hb)) hm HP) ?_; rintro e w1 ⟨⟨i, rfl, hi⟩, hb⟩; refine ⟨_, rfl, ?_⟩; replace hw := grow_trans hw hb
  repeat' (first | (refine lw_pure rfl (pv_move rfl) ?_) | (refine lw_pure rfl (pv_assign rfl) ?_) | (refine is_cw ?_; first | (refine cw_seq ?_) | (refine cw_region ?_) | (refine cw_ret ?_)) | (refine is_qw ?_; first | (with_reducible refine qw_then ?_) | (with_reducible refine qw_then_ret ?_)) | (refine lw_nil ?_) | (refine lw_pure rfl (pv_makeFunc rfl rfl) ?_))
  exact qw_ret1 rfl rfl ⟨⟨i, rfl, hi⟩, (hE.mono hw).b⟩
set_option maxRecDepth 20000 in
theorem lot_c {p : List Lt} {m : Nat} {a : Option Addr} {ca : Nat} {w : World} (id : Int) (hm : p.length = m) (HP : SlR encL 4 w a ca p) : Calls Tryd.prog 51 #[.slice a m ca, .int .i64 id] w fun e w' => (∃ i, e = .returned (.int .i64 i) ∧ atR p (fun o => o.id == id) i) ∧ Below w.heap.size w w' := by
  have hE := Ext.refl w
  have hw := Below.refl w.heap.size w
  refine fn_enter 8 Tryd.func51 rfl rfl rfl ?_
  repeat' (first | (refine lw_pure rfl (pv_move rfl) ?_) | (refine lw_pure rfl (pv_assign rfl) ?_) | (refine is_cw ?_; first | (refine cw_seq ?_) | (refine cw_region ?_) | (refine cw_ret ?_)) | (refine is_qw ?_; first | (with_reducible refine qw_then ?_) | (with_reducible refine qw_then_ret ?_)) | (refine lw_nil ?_) | (refine lw_pure rfl (pv_makeFunc rfl rfl) ?_))
  refine lw_boxN rfl rfl (cs := [.int .i64 id]) rfl ?_; intro N wn hN HA hb
  replace hw := grow_trans hw hb
  clear hb
  replace hE := hE.mono hw; replace HP := HP.mono hw; clear hw; have hw := Below.refl wn.heap.size wn
  repeat' (first | (refine lw_pure rfl (pv_move rfl) ?_) | (refine lw_pure rfl (pv_assign rfl) ?_) | (refine is_cw ?_; first | (refine cw_seq ?_) | (refine cw_region ?_) | (refine cw_ret ?_)) | (refine is_qw ?_; first | (with_reducible refine qw_then ?_) | (with_reducible refine qw_then_ret ?_)) | (refine lw_nil ?_) | (refine lw_pure rfl (pv_makeFunc rfl rfl) ?_))
  refine lw_call (f := 42) (by kernel_rfl) rfl rfl (indexf_L wn.heap.size (fun o => o.id == id) 71 #[.pointer (some ⟨N, 0, none⟩)] (by kernel_rfl) (Nat.le_refl _) (fun x _ w' hb => by simpa using lotF_c x id N w' (HA.mono hb)) hm HP) ?_; rintro e w1 ⟨⟨i, rfl, hi⟩, hb⟩; refine ⟨_, rfl, ?_⟩; replace hw := grow_trans hw hb
  repeat' (first | (refine lw_pure rfl (pv_move rfl) ?_) | (refine lw_pure rfl (pv_assign rfl) ?_) | (refine is_cw ?_; first | (refine cw_seq ?_) | (refine cw_region ?_) | (refine cw_ret ?_)) | (refine is_qw ?_; first | (with_reducible refine qw_then ?_) | (with_reducible refine qw_then_ret ?_)) | (refine lw_nil ?_) | (refine lw_pure rfl (pv_makeFunc rfl rfl) ?_))
  exact qw_ret1 rfl rfl ⟨⟨i, rfl, hi⟩, (hE.mono hw).b⟩
theorem find_none {α : Type} {l : List α} {q : α → Bool} (h : ∀ x ∈ l, q x = false) : l.find? q = none := by
  rw [List.find?_eq_none]; intro x hx; simp [h x hx]
theorem find_at {α : Type} {q : α → Bool} : ∀ {l : List α} {k : Nat} {r : α}, l[k]? = some r → q r = true → (∀ x ∈ l.take k, q x = false) → l.find? q = some r
  | [], _, _, h, _, _ => by simp at h
  | y :: l, 0, r, h, hr, _ => by simp at h; subst h; simp [hr]
  | y :: l, k + 1, r, h, hr, hn => by
    rw [List.find?_cons, hn y (by simp)]
    exact find_at (by simpa using h) hr (fun x hx => hn x (by simp [hx]))
def oZ : Opn := ⟨0, 0, 0, 0, 0, 0⟩
def lZ : Lt := ⟨0, 0, 0, 0⟩
end Go.Proofs.YtkehmbgcglbffaaDoor
namespace Go.Proofs.YtkehmbgcglbffaaDoor
open Go.PlainAid

theorem insP_perm (o : Opn) : ∀ p : List Opn, (insP p o).Perm (p ++ [o])
  | [] => List.Perm.refl _
  | x :: r => by
    unfold insP
    split
    · have : (o :: (x :: r)).Perm ((x :: r) ++ [o]) := (List.perm_append_comm (l₁ := [o]) (l₂ := x :: r))
      exact this
    · exact List.Perm.cons x (insP_perm o r)
theorem insT_perm (o : Lt) : ∀ p : List Lt, (insT p o).Perm (p ++ [o])
  | [] => List.Perm.refl _
  | x :: r => by
    unfold insT
    split
    · have : (o :: (x :: r)).Perm ((x :: r) ++ [o]) := (List.perm_append_comm (l₁ := [o]) (l₂ := x :: r))
      exact this
    · exact List.Perm.cons x (insT_perm o r)
theorem insP_pw {o : Opn} : ∀ {p : List Opn}, p.Pairwise keyO → (∀ x ∈ p, keyO x o ∨ keyO o x) → (insP p o).Pairwise keyO
  | [], _, _ => by simp [insP]
  | x :: r, hp, h => by
    obtain ⟨h1, h2⟩ := List.pairwise_cons.1 hp
    unfold insP
    split
    · rename_i hk
      refine List.pairwise_cons.2 ⟨fun y hy => ?_, hp⟩
      rcases List.mem_cons.1 hy with rfl | hy
      · exact hk
      · exact keyO_trans hk (h1 y hy)
    · rename_i hk
      refine List.pairwise_cons.2 ⟨fun y hy => ?_, insP_pw h2 (fun y hy => h y (List.mem_cons_of_mem _ hy))⟩
      rcases List.mem_append.1 ((insP_perm o r).mem_iff.1 hy) with hy | hy
      · exact h1 y hy
      · simp at hy; subst hy
        rcases h x (by simp) with h3 | h3
        · exact h3
        · exact absurd h3 hk
theorem insT_pw {o : Lt} : ∀ {p : List Lt}, p.Pairwise keyT → (∀ x ∈ p, keyT x o ∨ keyT o x) → (insT p o).Pairwise keyT
  | [], _, _ => by simp [insT]
  | x :: r, hp, h => by
    obtain ⟨h1, h2⟩ := List.pairwise_cons.1 hp
    unfold insT
    split
    · rename_i hk
      refine List.pairwise_cons.2 ⟨fun y hy => ?_, hp⟩
      rcases List.mem_cons.1 hy with rfl | hy
      · exact hk
      · exact keyT_trans hk (h1 y hy)
    · rename_i hk
      refine List.pairwise_cons.2 ⟨fun y hy => ?_, insT_pw h2 (fun y hy => h y (List.mem_cons_of_mem _ hy))⟩
      rcases List.mem_append.1 ((insT_perm o r).mem_iff.1 hy) with hy | hy
      · exact h1 y hy
      · simp at hy; subst hy
        rcases h x (by simp) with h3 | h3
        · exact h3
        · exact absurd h3 hk
theorem sortP_eq {l m : List Opn} (hp : l.Perm m) (h1 : l.Pairwise keyO) (h2 : m.Pairwise keyO) : l = m :=
  List.Perm.eq_of_pairwise (le := keyO) (fun _ _ _ _ h g => absurd g (keyO_asymm h)) h1 h2 hp
theorem sortT_eq {l m : List Lt} (hp : l.Perm m) (h1 : l.Pairwise keyT) (h2 : m.Pairwise keyT) : l = m :=
  List.Perm.eq_of_pairwise (le := keyT) (fun _ _ _ _ h g => by unfold keyT at *; omega) h1 h2 hp
theorem findP_none {p : List Opn} {id : Int} (h : findP p id = none) : ∀ x ∈ p, x.id ≠ id := by
  unfold findP at h
  rw [List.find?_eq_none] at h
  intro x hx e; exact h x hx (by simp [e])
theorem findT_none {p : List Lt} {id : Int} (h : findT p id = none) : ∀ x ∈ p, x.id ≠ id := by
  unfold findT at h
  rw [List.find?_eq_none] at h
  intro x hx e; exact h x hx (by simp [e])
theorem key_diff {x o : Opn} (h : x.id ≠ o.id) : keyO x o ∨ keyO o x := by unfold keyO; omega
theorem keyT_diff {x o : Lt} (h : x.id ≠ o.id) : keyT x o ∨ keyT o x := by unfold keyT; omega
theorem put_pw {p : List Opn} {o : Opn} (hp : p.Pairwise keyO) (h : ∀ x ∈ p, x.id ≠ o.id) : (p ++ [o]).Pairwise fun x y => keyO x y ∨ keyO y x := by
  refine List.pairwise_append.2 ⟨hp.imp Or.inl, by simp, fun x hx y hy => ?_⟩
  simp at hy; subst hy; exact key_diff (h x hx)
theorem putT_pw {p : List Lt} {o : Lt} (hp : p.Pairwise keyT) (h : ∀ x ∈ p, x.id ≠ o.id) : (p ++ [o]).Pairwise fun x y => keyT x y ∨ keyT y x := by
  refine List.pairwise_append.2 ⟨hp.imp Or.inl, by simp, fun x hx y hy => ?_⟩
  simp at hy; subst hy; exact keyT_diff (h x hx)
theorem put_sorted {p zs : List Opn} {o : Opn} (hp : p.Pairwise keyO) (h : ∀ x ∈ p, x.id ≠ o.id) (hz : zs.Perm (p ++ [o])) (hs : zs.Pairwise keyO) : zs = insP p o :=
  sortP_eq (hz.trans (insP_perm o p).symm) hs (insP_pw hp (fun x hx => key_diff (h x hx)))
theorem putT_sorted {p zs : List Lt} {o : Lt} (hp : p.Pairwise keyT) (h : ∀ x ∈ p, x.id ≠ o.id) (hz : zs.Perm (p ++ [o])) (hs : zs.Pairwise keyT) : zs = insT p o :=
  sortT_eq (hz.trans (insT_perm o p).symm) hs (insT_pw hp (fun x hx => keyT_diff (h x hx)))
/-! ### what is taken out -/
theorem map_other {p : List Opn} {id q : Int} (h : ∀ x ∈ p, x.id ≠ id) : p.map (cutP id q) = p := by
  have : ∀ x ∈ p, cutP id q x = x := fun x hx => by unfold cutP; rw [if_neg (h x hx)]
  exact (List.map_congr_left this).trans (List.map_id' p)
theorem keep_pos {p : List Opn} (h : ∀ x ∈ p, 0 < x.left) : (p.filter fun o => decide (0 < o.left)) = p := List.filter_eq_self.2 fun x hx => by simp [h x hx]
theorem cancel_eq : ∀ {p : List Opn} {k : Nat} {o : Opn}, p[k]? = some o → (p.map (·.id)).Nodup → (∀ x ∈ p, 0 < x.left) → lessP p o.id o.left = p.eraseIdx k
  | [], _, _, h, _, _ => by simp at h
  | x :: r, 0, o, h, hn, hl => by
    simp at h; subst h
    rw [List.map_cons, List.nodup_cons] at hn
    have hne : ∀ y ∈ r, y.id ≠ x.id := fun y hy e => hn.1 (List.mem_map.2 ⟨y, hy, e⟩)
    unfold lessP
    rw [List.map_cons, map_other hne, List.filter_cons_of_neg (by simp [cutP]), keep_pos (fun y hy => hl y (List.mem_cons_of_mem _ hy))]
    rfl
  | x :: r, k + 1, o, h, hn, hl => by
    have h' : r[k]? = some o := by simpa using h
    rw [List.map_cons, List.nodup_cons] at hn
    have hne : x.id ≠ o.id := fun e => hn.1 (List.mem_map.2 ⟨o, List.mem_of_getElem? h', e.symm⟩)
    have ih := cancel_eq h' hn.2 (fun y hy => hl y (List.mem_cons_of_mem _ hy))
    unfold lessP at ih ⊢
    rw [List.map_cons, show cutP o.id o.left x = x by unfold cutP; rw [if_neg hne], List.filter_cons_of_pos (by simpa using hl x (by simp)), ih]
    rfl
theorem gone_eq : ∀ {t : List Lt} {k : Nat} {o : Lt}, t[k]? = some o → t.Pairwise keyT → gone t o.id = t.eraseIdx k
  | [], _, _, h, _ => by simp at h
  | x :: r, 0, o, h, hp => by
    simp at h; subst h
    obtain ⟨h1, _⟩ := List.pairwise_cons.1 hp
    unfold gone
    rw [List.filter_cons_of_neg (by simp), List.filter_eq_self.2 (fun y hy => by have := h1 y hy; unfold keyT at this; simp; omega)]
    rfl
  | x :: r, k + 1, o, h, hp => by
    have h' : r[k]? = some o := by simpa using h
    obtain ⟨h1, h2⟩ := List.pairwise_cons.1 hp
    have hk := h1 o (List.mem_of_getElem? h')
    unfold keyT at hk
    have ih := gone_eq h' h2
    unfold gone at ih ⊢
    rw [List.filter_cons_of_pos (by simp; omega), ih]
    rfl
/-! ### less of one -/
theorem set_map : ∀ {p : List Opn} {k : Nat} {o : Opn} {q : Int}, p[k]? = some o → (p.map (·.id)).Nodup → p.set k { o with left := o.left - q } = p.map (cutP o.id q)
  | [], _, _, _, h, _ => by simp at h
  | x :: r, 0, o, q, h, hn => by
    simp at h; subst h
    rw [List.map_cons, List.nodup_cons] at hn
    have hne : ∀ y ∈ r, y.id ≠ x.id := fun y hy e => hn.1 (List.mem_map.2 ⟨y, hy, e⟩)
    rw [List.map_cons, map_other hne]
    simp [cutP]
  | x :: r, k + 1, o, q, h, hn => by
    have h' : r[k]? = some o := by simpa using h
    rw [List.map_cons, List.nodup_cons] at hn
    have hne : x.id ≠ o.id := fun e => hn.1 (List.mem_map.2 ⟨o, List.mem_of_getElem? h', e.symm⟩)
    rw [List.set_cons_succ, set_map h' hn.2, List.map_cons, show cutP o.id q x = x by unfold cutP; rw [if_neg hne]]
theorem cut_id (id q : Int) (o : Opn) : (cutP id q o).id = o.id := by unfold cutP; split <;> rfl
theorem map_ids (p : List Opn) (id q : Int) : (p.map (cutP id q)).map (·.id) = p.map (·.id) := by
  rw [List.map_map]; exact List.map_congr_left fun x _ => cut_id id q x
theorem filter_map_filter {α : Type} (P : α → Bool) (f : α → α) (l : List α) (h : ∀ x ∈ l, P x = false → P (f x) = false) : ((l.filter P).map f).filter P = (l.map f).filter P := by
  induction l with
  | nil => rfl
  | cons x l ih =>
    have ih' := ih (fun y hy => h y (List.mem_cons_of_mem _ hy))
    cases hx : P x with
    | true => rw [List.filter_cons_of_pos hx, List.map_cons, List.map_cons, List.filter_cons, List.filter_cons, ih']
    | false =>
      rw [List.filter_cons_of_neg (by simp [hx]), List.map_cons, List.filter_cons_of_neg (by simp [h x (by simp) hx]), ih']
theorem inj_of_nodup {p : List Opn} (hn : (p.map (·.id)).Nodup) {x y : Opn} (hx : x ∈ p) (hy : y ∈ p) (e : x.id = y.id) : x = y := by
  induction p with
  | nil => cases hx
  | cons z r ih =>
    rw [List.map_cons, List.nodup_cons] at hn
    rcases List.mem_cons.1 hx with rfl | hx' <;> rcases List.mem_cons.1 hy with rfl | hy'
    · rfl
    · exact absurd (List.mem_map.2 ⟨y, hy', e.symm⟩) hn.1
    · exact absurd (List.mem_map.2 ⟨x, hx', e⟩) hn.1
    · exact ih hn.2 hx' hy'
theorem cut_ne {id q : Int} {o : Opn} (h : o.id ≠ id) : cutP id q o = o := by unfold cutP; rw [if_neg h]
theorem traded_eq {p : List Opn} {i j : Nat} {a b : Opn} {q : Int} (ha : p[i]? = some a) (hb : p[j]? = some b) (hn : (p.map (·.id)).Nodup) (hl : ∀ x ∈ p, 0 < x.left) (hab : a.id ≠ b.id) (h1 : q ≤ a.left) (h2 : q ≤ b.left) :
    ((p.set i { a with left := a.left - q }).set j { b with left := b.left - q }).filter (fun o => !(o.left == 0)) = lessP (lessP p a.id q) b.id q := by
  rw [set_map ha hn]
  have hb' : (p.map (cutP a.id q))[j]? = some b := by
    rw [List.getElem?_map, hb, Option.map_some]
    unfold cutP; rw [if_neg (fun e => hab e.symm)]
  rw [set_map hb' (by rw [map_ids]; exact hn)]
  unfold lessP
  rw [filter_map_filter]
  · refine List.filter_congr fun x hx => ?_
    obtain ⟨y, hy, rfl⟩ := List.mem_map.1 hx
    obtain ⟨z, hz, rfl⟩ := List.mem_map.1 hy
    have hz0 := hl z hz
    have hge : 0 ≤ (cutP b.id q (cutP a.id q z)).left := by
      unfold cutP
      by_cases e1 : z.id = a.id
      · have hza : z = a := by
          have := List.mem_of_getElem? ha
          exact inj_of_nodup hn hz this e1
        subst hza
        simp [hab]
        omega
      · rw [if_neg e1]
        by_cases e2 : z.id = b.id
        · have hzb : z = b := inj_of_nodup hn hz (List.mem_of_getElem? hb) e2
          subst hzb
          simp; omega
        · rw [if_neg e2]; omega
    by_cases h0 : (cutP b.id q (cutP a.id q z)).left = 0
    · simp [h0]
    · have : 0 < (cutP b.id q (cutP a.id q z)).left := by omega
      simp [h0, this]
  · intro x hx hx0
    obtain ⟨y, hy, rfl⟩ := List.mem_map.1 hx
    simp only [decide_eq_false_iff_not] at hx0 ⊢
    have hy0 := hl y hy
    by_cases e1 : y.id = a.id
    · have e3 : (cutP a.id q y).id ≠ b.id := by rw [cut_id, e1]; exact hab
      rw [cut_ne e3]
      exact hx0
    · rw [cut_ne e1] at hx0
      exact absurd hy0 hx0
end Go.Proofs.YtkehmbgcglbffaaDoor
namespace Go.Proofs.YtkehmbgcglbffaaDoor
open Go.RowKit

section
variable {P : Program} {ops : Array Oper} {Q : Exit → Act → World → Prop} {md : Region.Mode} {U : World → Prop} {f : Nat}
def wpAnyF (P : Program) (md : Region.Mode) (ops : Array Oper) (Q : Exit → Act → World → Prop) (f : Nat) (U : World → Prop) : Nat → Array Bool → Act → World → Prop
  | 0, listed, a, w => Region.ready md ops listed = [] ∧ Q .normal a w
  | fuel + 1, listed, a, w =>
    (Region.ready md ops listed = [] → Q .normal a w) ∧
    ∀ i ∈ Region.ready md ops listed, wpOp P ops Q i (fun a' w' => ((listed.setIfInBounds i true).getD f true = false → U w') ∧ wpAnyF P md ops Q f U fuel (listed.setIfInBounds i true) a' w') a w
theorem wpAny_of_F : ∀ (fuel : Nat) (listed : Array Bool) (a : Act) (w : World), wpAnyF P md ops Q f U fuel listed a w → wpAny P md ops Q fuel listed a w
  | 0, _, _, _, h => h
  | fuel + 1, _, _, _, h => ⟨h.1, fun i hi => wpOp_mono (fun a' w' h' => wpAny_of_F fuel _ a' w' h'.2) (h.2 i hi)⟩
theorem wpAnyF_first {i : Nat} {oi : Oper} {v : Value} (hif : i ≠ f) (hwait : ∃ o, ops[f]? = some o ∧ ∃ e ∈ o.after, Region.binds md e = true ∧ e.on = i) (hi : ops[i]? = some oi) (hsel : ∀ (j : Nat) (o : Oper) cs b, ops[j]? = some o → o.op ≠ .select cs b)
    (hQ : ∀ c a w, Q (.panic c) (a.put oi.dst v) w → Q (.panic c) a w) :
    ∀ (fuel : Nat) (listed : Array Bool) (a : Act) (w : World),
      (∀ j oj, ops[j]? = some oj → j ≠ i → listed.getD j true = false → (∀ e ∈ oj.after, Region.binds md e = true → e.on ≠ i) → oi.apart ops oj = true) →
      i ∈ Region.ready md ops listed → listed.getD f true = false → YieldsIf P ops U oi v a → U w →
      wpAnyF P md ops Q f U fuel (listed.setIfInBounds i true) (a.put oi.dst v) w → wpAnyF P md ops Q f U (fuel + 1) listed a w := by
  intro fuel
  induction fuel with
  | zero =>
    intro listed a w _ hr _ hy hS H
    refine ⟨fun h => (by rw [h] at hr; cases hr), fun j hj => ?_⟩
    by_cases hji : j = i
    · subst hji; exact hy.wpOp hi hS ⟨fun _ => hS, H⟩
    · have := ready_mono hj hji
      rw [H.1] at this
      cases this
  | succ fuel ih =>
    intro listed a w hfree hr hf hy hS H
    refine ⟨fun h => (by rw [h] at hr; cases hr), fun j hj => ?_⟩
    by_cases hji : j = i
    · subst hji; exact hy.wpOp hi hS ⟨fun _ => hS, H⟩
    · have h1 := H.2 j (ready_mono hj hji)
      obtain ⟨hjun, oj, hoj, hall⟩ := mem_ready.1 hj
      have hun : ∀ e ∈ oj.after, Region.binds md e = true → e.on ≠ i := fun e he hb heq => by
        have h1 := hall e he hb
        have h0 := (mem_ready.1 hr).1
        rw [heq] at h1
        rcases Nat.lt_or_ge i listed.size with h' | h'
        · simp [h'] at h0 h1; rw [h0] at h1; cases h1
        · simp [Array.getElem?_eq_none h'] at h1
      have hjf : j ≠ f := fun e => by
        subst e
        obtain ⟨o, ho, e, he, hb, heq⟩ := hwait
        rw [hoj] at ho; injection ho with ho; subst ho
        exact hun e he hb heq
      have h2 := wpOp_putIf hoj (hfree j oj hoj hji hjun hun) (fun cs b => hsel i oi cs b hi) (fun cs b => hsel j oj cs b hoj) hQ hy h1
      have hfree' : ∀ k ok, ops[k]? = some ok → k ≠ i → (listed.setIfInBounds j true).getD k true = false →
          (∀ e ∈ ok.after, Region.binds md e = true → e.on ≠ i) → oi.apart ops ok = true := fun k ok hk hki hun hno => by
        refine hfree k ok hk hki ?_ hno
        by_cases hjk : j = k
        · subst hjk; exact hjun
        · rw [getD_set_ne true hjk] at hun; exact hun
      refine wpOp_mono (fun a' w' h3 => ?_) h2
      have hU' : U w' := h3.2.1 (by rw [getD_set_ne true hjf, getD_set_ne true hif]; exact hf)
      refine ⟨fun _ => hU', ih (listed.setIfInBounds j true) a' w' hfree' (ready_mono hr (Ne.symm hji)) (by rw [getD_set_ne true hjf]; exact hf) h3.1 hU' ?_⟩
      rw [Array.setIfInBounds_comm _ _ hji]
      exact h3.2.2
end
def waits (ops : Array Oper) (f i : Nat) : Bool := match ops[f]? with
  | some o => o.after.toList.any fun e => Region.binds .any e && Nat.beq e.on i
  | none => false
theorem waits_of {ops : Array Oper} {f i : Nat} (h : waits ops f i = true) : ∃ o, ops[f]? = some o ∧ ∃ e ∈ o.after, Region.binds .any e = true ∧ e.on = i := by
  unfold waits at h
  cases ho : ops[f]? with
  | none => rw [ho] at h; cases h
  | some o =>
    rw [ho] at h
    rw [List.any_eq_true] at h
    obtain ⟨e, he, h2⟩ := h
    rw [Bool.and_eq_true] at h2
    exact ⟨o, rfl, e, by simpa using he, h2.1, Nat.eq_of_beq_eq_true h2.2⟩
section
variable {n : Nat} {l : Fr} {P : Program} {w : World} {Q : Exit → Act → World → Prop} {ops : Array Oper} {U : World → Prop} {fuel : Nat} {listed : Array Bool} {f : Nat}
structure FW (P : Program) (n : Nat) (ops : Array Oper) (Q : Exit → Act → World → Prop) (f : Nat) (U : World → Prop) (fuel : Nat) (listed : Array Bool) (l : Fr) (w : World) : Prop where
  out : ∀ a, Holds n l a → wpAnyF P .any ops Q f U fuel listed a w
theorem cw_drawnF {i : Nat} {ops : Array Oper} (f : Nat) (U : World → Prop) (hm : P.follows .mixedOrders = true) (hQ : NoPanic Q) (h : NoPanic Q → FW P n ops Q f U ops.size (Array.replicate ops.size false) l w.drew) : CW P n (.region i ops true) Q l w :=
  ⟨fun a ha => wp_region_any hm (wpAny_of_F _ _ _ _ ((h hQ).out a ha))⟩
theorem fw_take (i : Nat) {d : Nat} {op : Op} {ty : TypeId} {pos : String} {af : Array Edge} {v : Value} (ho : ops[i]? = some ⟨some d, op, ty, pos, af, none⟩) (hwt : waits ops f i = true) (hif : Nat.beq i f = false) (hfl : listed.getD f true = false)
    (hs : Region.noSelect ops = true) (hf : Region.free .any ops listed i = true) (hr : (Region.ready .any ops listed).contains i = true) (hQ : NoPanic Q) (hU : U w) (hd : Nat.blt d n = true)
    (hv : ∀ w, U w → Pv P n l ⟨some d, op, ty, pos, af, none⟩ v w) (h : FW P n ops Q f U fuel (listed.setIfInBounds i true) ((d, v) :: l) w) : FW P n ops Q f U (fuel + 1) listed l w := ⟨fun a ha =>
  wpAnyF_first (fun e => by subst e; simp at hif) (waits_of hwt) ho (Region.noSelect_spec hs) (fun c a w => hQ c _ v a w) fuel listed a w (Region.free_spec ho hf) (by simpa using hr) hfl (Or.inl ⟨rfl, fun w hw => (hv w hw).out a ha⟩) hU (h.out _ (ha.put hd v))⟩
theorem fw_last {o : Oper} (hr : Region.ready .any ops listed = [f]) (ho : ops[f]? = some o) (hg : guardOn ops l o.guard = true) (hd : inD o.dst n = true) (hfs : (listed.setIfInBounds f true).getD f true = true) (he : Region.ready .any ops (listed.setIfInBounds f true) = [])
    (h : Act1 P n l o w fun v w' => QW n Q .normal (putD o.dst v l) w') : FW P n ops Q f U (fuel + 1) listed l w := ⟨fun a ha => by
  refine ⟨fun h0 => (by rw [hr] at h0; cases h0), fun j hj => ?_⟩
  rw [hr, List.mem_singleton] at hj; subst hj
  unfold wpOp; rw [ho]
  dsimp only
  rw [if_pos (wanted_of ha hg)]
  refine Or.inl (h.out a ha _ _ fun v w' hZ => ⟨fun hf => (by rw [hfs] at hf; cases hf), ?_⟩)
  have hq := hZ.out _ (ha.putD hd v)
  cases fuel with
  | zero => exact ⟨he, hq⟩
  | succ m => exact ⟨fun _ => hq, by rw [he]; simp⟩⟩
theorem act_store {T t : TypeId} {N i : Nat} {cs : List Value} {v : Value} {x y : Operand} {ty : TypeId} {pos : String} {af : Array Edge} {g : Option (Nat × Bool)} {d : Option Nat} {Z : Value → World → Prop} (hp : PT w N T cs) (ht : sizeB P t 1 = true) (hx : ev l x = some (.pointer (some ⟨N, i, none⟩))) (hy : ev l y = some v) (h1 : v.oneCell' = true) (hi : i < cs.length) (h : ∀ w', PT w' N T (cs.set i v) → w.grownBy w' (some N) → w'.heap.size = w.heap.size → Z undef w') : Act1 P n l ⟨d, .store t x y, ty, pos, af, g⟩ w Z := by
  obtain ⟨w', a, b, c, e⟩ := sv_store (d := d) (ty := ty) (pos := pos) (af := af) (g := g) (P := P) (n := n) hp ht hx hy h1 hi
  exact act_sv a (h w' b c e)
theorem act_storea {T t : TypeId} {N m : Nat} {cs vs : List Value} {x y : Operand} {ty : TypeId} {pos : String} {af : Array Edge} {g : Option (Nat × Bool)} {d : Option Nat} {Z : Value → World → Prop} (hp : PT w N T cs) (ht : sizeB P t m = true) (hx : ev l x = some (.pointer (some ⟨N, 0, none⟩))) (hy : ev l y = some (.agg vs.toArray)) (hm : vs.length = m) (hc : cs.length = m) (h1 : ∀ v ∈ vs, v.oneCell' = true) (h : ∀ w', PT w' N T vs → w.grownBy w' (some N) → w'.heap.size = w.heap.size → Z undef w') : Act1 P n l ⟨d, .store t x y, ty, pos, af, g⟩ w Z := by
  obtain ⟨w', a, b, c, e⟩ := sv_storea (d := d) (ty := ty) (pos := pos) (af := af) (g := g) (P := P) (n := n) (i := 0) hp ht hx hy hm h1 (by omega)
  refine act_sv a (h w' ?_ c e)
  have e1 : cs.take 0 ++ vs ++ cs.drop (0 + m) = vs := by rw [List.drop_of_length_le (by omega)]; simp
  rwa [e1] at b
end
theorem act_alloc {P : Program} {n : Nat} {l : Fr} {w : World} {d : Option Nat} {t ty : TypeId} {pos : String} {af : Array Edge} {g : Option (Nat × Bool)} {z : Value} {Z : Value → World → Prop} (hz : ∀ w, (zeroValue t).run P w = .ok z w) {cs : List Value} (hcs : z.cells.toList = cs) (h : ∀ N w', w.heap.size ≤ N → PT w' N t cs → Below w.heap.size w w' → Z (.pointer (some ⟨N, 0, none⟩)) w') : Act1 P n l ⟨d, .alloc t, ty, pos, af, g⟩ w Z := by
  refine act_ev (ev_alloc hz) (h _ _ (Nat.le_refl _) (hcs ▸ PT.new w _ _) (below_alloc _ _))

section
variable {n : Nat} {l : Fr} {P : Program} {w : World} {Q : Exit → Act → World → Prop} {ops : Array Oper} {U : World → Prop} {fuel : Nat} {listed : Array Bool} {f : Nat}
theorem fw_act (i : Nat) {o : Oper} (hr : Region.ready .any ops listed = [i]) (ho : ops[i]? = some o) (hg : guardOn ops l o.guard = true) (hd : inD o.dst n = true)
    (h : Act1 P n l o w fun v w' => U w' ∧ (U w' → FW P n ops Q f U fuel (listed.setIfInBounds i true) (putD o.dst v l) w')) : FW P n ops Q f U (fuel + 1) listed l w := ⟨fun a ha => by
  refine ⟨fun h0 => (by rw [hr] at h0; cases h0), fun j hj => ?_⟩
  rw [hr, List.mem_singleton] at hj; subst hj
  unfold wpOp; rw [ho]
  dsimp only
  rw [if_pos (wanted_of ha hg)]
  exact Or.inl (h.out a ha _ _ fun v w' hZ => ⟨fun _ => hZ.1, (hZ.2 hZ.1).out _ (ha.putD hd v)⟩)⟩
theorem act_pv {d : Option Nat} {op : Op} {ty : TypeId} {pos : String} {af : Array Edge} {g : Option (Nat × Bool)} {v : Value} {Z : Value → World → Prop} (hv : Pv P n l ⟨d, op, ty, pos, af, g⟩ v w) (h : Z v w) : Act1 P n l ⟨d, op, ty, pos, af, g⟩ w Z := ⟨fun a ha K Q hK => by
  unfold Oper.wp; rw [hv.out a ha]; exact hK _ _ h⟩
end
theorem own_pt_ne {α : Type} {enc : α → List Value} {k : Nat} {T T' : TypeId} {B : Nat} {w : World} {v : Value} {xs : List α} {N : Nat} {cs : List Value} (h : Own enc k T B w v xs) (hp : PT w N T' cs) (hT : T ≠ T') : v.ownBlock ≠ some N := by
  obtain ⟨_, h2⟩ := h
  rcases h2 with ⟨rfl, _⟩ | ⟨g, cap, cur, rfl, _, hg, _⟩
  · simp [Value.ownBlock]
  · intro e
    have e2 : g = N := by simpa [Value.ownBlock] using e
    subst e2
    unfold PT at hp
    rw [hg] at hp; injection hp with hp; injection hp with _ hp _; exact hT hp
section
variable {α : Type} {enc : α → List Value} {k : Nat} {T t : TypeId} {base : Nat} {w : World} {g cap : Nat} {xs : List α} {P : Program} {n : Nat} {l : Fr} {Q : Exit → Act → World → Prop} {ops : Array Oper} {os : List Oper} {ty : TypeId} {pos : String} {af : Array Edge} {x y : Operand}
theorem flat_set (hk : ∀ x, (enc x).length = k) : ∀ {xs : List α} {i : Nat} {a u : α} {f : Nat} {v : Value}, xs[i]? = some a → enc u = (enc a).set f v → f < k → (xs.set i u).flatMap enc = (xs.flatMap enc).set (i * k + f) v
  | [], _, _, _, _, _, h, _, _ => by simp at h
  | b :: r, 0, a, u, f, v, h, hu, hf => by
    simp at h; subst h
    rw [List.set_cons_zero, List.flatMap_cons, List.flatMap_cons, hu, Nat.zero_mul, Nat.zero_add, List.set_append_left _ _ (by rw [hk]; exact hf)]
  | b :: r, i + 1, a, u, f, v, h, hu, hf => by
    have h' : r[i]? = some a := by simpa using h
    rw [List.set_cons_succ, List.flatMap_cons, List.flatMap_cons, flat_set hk h' hu hf, List.set_append_right _ _ (by rw [hk, Nat.add_mul]; omega), hk]
    congr 2
    rw [Nat.add_mul]; omega
theorem lw_storeF (hk : ∀ x, (enc x).length = k) (ht : sizeB P t 1 = true) {i f o : Nat} {v : Value} {a u : α} (hx : ev l x = some (.pointer (some ⟨g, o, none⟩))) (ho : o = i * k + f) (hy : ev l y = some v) (h1 : v.oneCell' = true) (hO : Own enc k T base w (.slice (some ⟨g, 0, none⟩) xs.length cap) xs) (ha : xs[i]? = some a) (hu : enc u = (enc a).set f v) (hf : f < k)
    (h : ∀ w', Own enc k T base w' (.slice (some ⟨g, 0, none⟩) xs.length cap) (xs.set i u) → w.grownBy w' (some g) → w'.heap.size = w.heap.size → LW P n ops Q os l w') : LW P n ops Q (⟨none, .store t x y, ty, pos, af, none⟩ :: os) l w := by
  subst ho
  obtain ⟨cur, hb, hg, hle, hmax, hsz, htk⟩ := Own.heap' hO
  have hi : i < xs.length := (List.getElem?_eq_some_iff.1 ha).1
  have hik : i * k + f < xs.length * k := by
    have := Nat.mul_le_mul_right k (show i + 1 ≤ xs.length from hi); rw [Nat.add_mul, Nat.one_mul] at this; omega
  have hck : xs.length * k ≤ cap * k := Nat.mul_le_mul_right k hle
  have hp : PT w g T cur.toList := by unfold PT; simpa using hg
  obtain ⟨w', a1, b1, c1, e1⟩ := sv_store (P := P) (n := n) (l := l) (d := none) (ty := ty) (pos := pos) (af := af) (g := none) hp ht hx hy h1 (by rw [Array.length_toList, hsz]; omega)
  refine lw_skip a1 (h w' ⟨by rw [flat_len enc k hk, List.length_set], Or.inr ⟨g, cap, (cur.toList.set (i * k + f) v).toArray, by rw [List.length_set], hb, b1, by rw [List.length_set]; exact hle, hmax, by simp [hsz], ?_⟩⟩ c1 e1)
  rw [List.length_set, flat_set hk ha hu hf, ← htk]
  simp only [List.take_set]
end
end Go.Proofs.YtkehmbgcglbffaaDoor
namespace Go.Proofs.YtkehmbgcglbffaaDoor
open Go.RowKit Go.PlainAid

theorem own_ne_T {α β : Type} {enc : α → List Value} {enc' : β → List Value} {k k' : Nat} {T T' : TypeId} {B B' : Nat} {w : World} {v v' : Value} {xs : List α} {ys : List β} (h : Own enc k T B w v xs) (h' : Own enc' k' T' B' w v' ys) (hT : T ≠ T') : v.ownBlock = none ∨ v.ownBlock ≠ v'.ownBlock := by
  obtain ⟨_, h2⟩ := h
  obtain ⟨_, h2'⟩ := h'
  rcases h2 with ⟨rfl, _⟩ | ⟨g, cap, cur, rfl, _, hg, _⟩
  · exact Or.inl rfl
  · rcases h2' with ⟨rfl, _⟩ | ⟨g', cap', cur', rfl, _, hg', _⟩
    · exact Or.inr (by simp [Value.ownBlock])
    · refine Or.inr fun e => ?_
      have e2 : g = g' := by simpa [Value.ownBlock] using e
      subst e2
      rw [hg] at hg'; injection hg' with hg'; injection hg' with _ hg' _; exact hT hg'
structure WkO (base : Nat) (w : World) (N : Nat) (p : List Opn) (t : List Lt) (vo vt : Value) : Prop where
  pt : PT w N 51 [vo, vt]
  o : Own encP 6 34 base w vo p
  t : Own encL 4 36 base w vt t
  n : base ≤ N
theorem WkO.mono {base N : Nat} {w w' : World} {p : List Opn} {t : List Lt} {vo vt : Value} (h : WkO base w N p t vo vt) (hb : Below w.heap.size w w') : WkO base w' N p t vo vt := ⟨h.pt.mono hb, h.o.mono hb, h.t.mono hb, h.n⟩
set_option maxRecDepth 20000 in
set_option maxHeartbeats 4000000 in
theorem placed_c {p : List Opn} {t : List Lt} {ev0 : Evt} {w0 w : World} {N : Nat} {a : Option Addr} {c : Nat} {n0 n1 n2 n3 n4 n5 : Int} {vo vt : Value} (hev : ev0.nums = [n0, n1, n2, n3, n4, n5]) (hb0 : Below w0.heap.size w0 w) (hW : WkO w0.heap.size w N p t vo vt) (HN : SlR encI 1 w0 a c [n0, n1, n2, n3, n4, n5]) (hp1 : p.Pairwise keyO) (hl : p.length ≤ 128) (h3 : n3 = 1 ∨ n3 = 2) :
    Calls Tryd.prog 30 #[.pointer (some ⟨N, 0, none⟩), .slice a 6 c] w fun e w' => e = .returned (.int .i64 (placedR p t ev0).2.2) ∧ ((placedR p t ev0).2.2 = 0 → ∃ vo vt, WkO w0.heap.size w' N (placedR p t ev0).1 (placedR p t ev0).2.1 vo vt) ∧ Below w0.heap.size w0 w' := by
  obtain ⟨HW, HO, HT, hNb⟩ := hW
  obtain ⟨ab, ao, rfl, -, -⟩ := HN.at (by simp)
  obtain ⟨oa, oc, rfl, HOs, -⟩ := Own.slR encP_len HO
  have hx0 : [n0, n1, n2, n3, n4, n5][0]? = some n0 := rfl
  have hx1 : [n0, n1, n2, n3, n4, n5][1]? = some n1 := rfl
  have hx2 : [n0, n1, n2, n3, n4, n5][2]? = some n2 := rfl
  have hx3 : [n0, n1, n2, n3, n4, n5][3]? = some n3 := rfl
  have hx4 : [n0, n1, n2, n3, n4, n5][4]? = some n4 := rfl
  have hx5 : [n0, n1, n2, n3, n4, n5][5]? = some n5 := rfl
  have hR : placedR p t ev0 = if (findP p n0).isSome then ([], [], 6) else if p.length = 128 then ([], [], 40) else (insP p ⟨n1, n0, n2, n3, n4, n5⟩, t, 0) := by unfold placedR nth; rw [hev]; rfl
  rw [hR]
  clear hR hev
  have HNw := HN.mono hb0
  have hw := Below.refl w.heap.size w
  refine fn_enter 56 Tryd.func30 rfl rfl rfl ?_
  repeat' (first | (refine lw_pure rfl (pv_assign rfl) ?_) | (refine is_cw ?_; first | (refine cw_seq ?_) | (refine cw_region ?_) | (refine cw_block ?_)) | (refine is_qw ?_; first | (with_reducible refine qw_then ?_)) | (refine lw_nil ?_))
  refine cw_drawn (fun w' => Below w.heap.size w w') (by kernel_rfl) (by repeat (first | exact NoPanic.body | with_reducible refine NoPanic.then ?_ | with_reducible refine NoPanic.inBlock ?_)) (fun hNP => ?_)
  have hS := hw.drew
  (refine at0 0 rfl (fun w' hq => pv_move rfl) ?_)
  (refine at0 1 rfl (fun w' hq => pv_nilp rfl) ?_)
  (refine at0 2 rfl (fun w' hq => pv_fa (tF rfl) rfl) ?_)
  (refine at0 3 rfl (fun w' hq => pv_load (t1 rfl) rfl (by first | exact PT.ld0 (HW.mono hq) rfl | exact PT.ld (HW.mono hq) rfl | exact SlR.ld (HNw.mono hq) hx0 rfl | exact SlR.ld1 (HNw.mono hq) hx0 rfl)) ?_)
  (refine at0 4 rfl (fun w' hq => pv_move rfl) ?_)
  (refine at0 5 rfl (fun w' hq => pv_ia (tS rfl) rfl rfl (by omega)) ?_)
  (refine at0 6 rfl (fun w' hq => pv_load (t1 rfl) rfl (by first | exact PT.ld0 (HW.mono hq) rfl | exact PT.ld (HW.mono hq) rfl | exact SlR.ld (HNw.mono hq) hx0 rfl | exact SlR.ld1 (HNw.mono hq) hx0 rfl)) ?_)
  refine aw_act 7 (by kernel_rfl) rfl rfl rfl ?_
  refine act_call (f := 46) (by kernel_rfl) rfl (at_c n0 rfl (HOs.mono hS)) ?_; rintro e1 w1 ⟨⟨i, rfl, hi⟩, hb1⟩; refine ⟨_, rfl, grow_trans hS hb1, fun hS => ?_⟩
  (refine at0 8 rfl (fun w' hq => pv_geq rfl rfl) ?_)
  (refine at0 9 rfl (fun w' hq => pv_assign rfl) ?_)
  refine aw_done (by kernel_rfl) ?_
  replace hw := hS; clear hS hNP
  have hb2 := grow_trans hb0 hw
  rcases hi with ⟨rfl, hn⟩ | ⟨k, r, rfl, hxk, hr, hn⟩
  · have hf : findP p n0 = none := find_none hn
    rw [hf]
    by_cases h128 : p.length = 128
    · rw [if_neg (by simp), if_pos h128]
      repeat' (first | (refine lw_pure rfl (pv_move rfl) ?_) | (refine lw_pure rfl (pv_assign rfl) ?_) | (refine is_cw ?_; first | (refine cw_seq ?_) | (refine cw_region ?_) | (refine cw_false rfl rfl ?_) | (refine is_cd ?_; refine cw_true rfl (by first | assumption | exact decide_eq_true (by omega) | exact dec_notT (by omega)) ?_) | (refine cw_ret ?_)) | (refine is_qw ?_; first | (with_reducible refine qw_then ?_) | (with_reducible refine qw_then_ret ?_) | (with_reducible refine qw_in_ret ?_)) | (refine lw_nil ?_) | ((refine is_bin ?_; first | (refine lw_pure rfl (pv_eql rfl rfl) ?_))) | ((refine is_load ?_; first | (refine lw_pure rfl (pv_load (t1 rfl) rfl (by first | exact PT.ld0 (HW.mono hw) rfl | exact PT.ld (HW.mono hw) rfl)) ?_))) | ((refine is_fa ?_; first | (refine lw_pure rfl (pv_fa (tF rfl) rfl) ?_))) | ((refine is_bi ?_; first | (refine lw_pure rfl (pv_lenl (tS rfl) rfl) ?_))) | (refine lw_pure rfl (pv_nilp rfl) ?_))
      exact qw_ret1 rfl rfl ⟨rfl, by simp, hb2⟩
    · rw [if_neg (by simp), if_neg h128]
      repeat' (first | (refine lw_pure rfl (pv_move rfl) ?_) | (refine lw_pure rfl (pv_assign rfl) ?_) | (refine is_cw ?_; first | (refine cw_seq ?_) | (refine cw_region ?_) | (refine cw_false rfl rfl ?_) | (refine is_cd ?_; refine cw_false rfl (by first | assumption | exact decide_eq_false (by omega) | exact dec_notF (by omega)) ?_) | (refine cw_skip ?_)) | (refine is_qw ?_; first | (with_reducible refine qw_then ?_) | (with_reducible refine qw_in ?_)) | (refine lw_nil ?_) | ((refine is_bin ?_; first | (refine lw_pure rfl (pv_eql rfl rfl) ?_))) | ((refine is_load ?_; first | (refine lw_pure rfl (pv_load (t1 rfl) rfl (by first | exact PT.ld0 (HW.mono hw) rfl | exact PT.ld (HW.mono hw) rfl)) ?_))) | ((refine is_fa ?_; first | (refine lw_pure rfl (pv_fa (tF rfl) rfl) ?_))) | ((refine is_bi ?_; first | (refine lw_pure rfl (pv_lenl (tS rfl) rfl) ?_))) | (refine lw_pure rfl (pv_nilp rfl) ?_))
      have hs8 : 0 ≤ n3 ∧ n3 ≤ 255 := by omega
      have hO2 := HO.mono hw
      have hT2 := HT.mono hw
      have hwz := hb2.size
      refine cw_drawnF 29 (fun w' => Below w0.heap.size w0 w' ∧ PT w' N 51 [.slice oa p.length oc, vt]) (by kernel_rfl) (by repeat (first | exact NoPanic.body | with_reducible refine NoPanic.then ?_ | with_reducible refine NoPanic.inBlock ?_)) (fun hNP => ?_)
      have hU := And.intro hb2.drew ((HW.mono hw).mono (below_drew _))
      first | (refine fw_take 0 rfl (by kernel_rfl) rfl rfl (by kernel_rfl) (by kernel_rfl) (by kernel_rfl) hNP hU rfl (fun w' hq => pv_move rfl) ?_)
      first | (refine fw_take 1 rfl (by kernel_rfl) rfl rfl (by kernel_rfl) (by kernel_rfl) (by kernel_rfl) hNP hU rfl (fun w' hq => pv_move rfl) ?_)
      first | (refine fw_take 2 rfl (by kernel_rfl) rfl rfl (by kernel_rfl) (by kernel_rfl) (by kernel_rfl) hNP hU rfl (fun w' hq => pv_nilp rfl) ?_)
      first | (refine fw_take 3 rfl (by kernel_rfl) rfl rfl (by kernel_rfl) (by kernel_rfl) (by kernel_rfl) hNP hU rfl (fun w' hq => pv_fa (tF rfl) rfl) ?_)
      first | (refine fw_take 4 rfl (by kernel_rfl) rfl rfl (by kernel_rfl) (by kernel_rfl) (by kernel_rfl) hNP hU rfl (fun w' hq => pv_load (t1 rfl) rfl (by first | exact PT.ld0 hq.2 rfl | exact PT.ld hq.2 rfl)) ?_) | (refine fw_take 4 rfl (by kernel_rfl) rfl rfl (by kernel_rfl) (by kernel_rfl) (by kernel_rfl) hNP hU rfl (fun w' hq => pv_loada (tA rfl) rfl (by first | exact PT.lda hq.2) (by rfl)) ?_) | (refine fw_take 4 rfl (by kernel_rfl) rfl rfl (by kernel_rfl) (by kernel_rfl) (by kernel_rfl) hNP hU rfl (fun w' hq => pv_load (t1 rfl) rfl (by first | exact SlR.ld (HN.mono hq.1) hx0 rfl | exact SlR.ld1 (HN.mono hq.1) hx0 rfl | exact SlR.ld (HN.mono hq.1) hx1 rfl | exact SlR.ld1 (HN.mono hq.1) hx1 rfl | exact SlR.ld (HN.mono hq.1) hx2 rfl | exact SlR.ld1 (HN.mono hq.1) hx2 rfl | exact SlR.ld (HN.mono hq.1) hx3 rfl | exact SlR.ld1 (HN.mono hq.1) hx3 rfl | exact SlR.ld (HN.mono hq.1) hx4 rfl | exact SlR.ld1 (HN.mono hq.1) hx4 rfl | exact SlR.ld (HN.mono hq.1) hx5 rfl | exact SlR.ld1 (HN.mono hq.1) hx5 rfl)) ?_) | (refine fw_take 4 rfl (by kernel_rfl) rfl rfl (by kernel_rfl) (by kernel_rfl) (by kernel_rfl) hNP hU rfl (fun w' hq => pv_loada (tA rfl) rfl (by first | exact SlR.lda (HN.mono hq.1) hx0 | exact SlR.lda (HN.mono hq.1) hx1 | exact SlR.lda (HN.mono hq.1) hx2 | exact SlR.lda (HN.mono hq.1) hx3 | exact SlR.lda (HN.mono hq.1) hx4 | exact SlR.lda (HN.mono hq.1) hx5) (by rfl)) ?_)
      first | (refine fw_take 5 rfl (by kernel_rfl) rfl rfl (by kernel_rfl) (by kernel_rfl) (by kernel_rfl) hNP hU rfl (fun w' hq => pv_move rfl) ?_)
      first | (refine fw_take 6 rfl (by kernel_rfl) rfl rfl (by kernel_rfl) (by kernel_rfl) (by kernel_rfl) hNP hU rfl (fun w' hq => pv_ian (tS rfl) rfl rfl (by omega)) ?_) | (refine fw_take 6 rfl (by kernel_rfl) rfl rfl (by kernel_rfl) (by kernel_rfl) (by kernel_rfl) hNP hU rfl (fun w' hq => pv_ia (tS rfl) rfl rfl (by omega)) ?_)
      first | (refine fw_take 7 rfl (by kernel_rfl) rfl rfl (by kernel_rfl) (by kernel_rfl) (by kernel_rfl) hNP hU rfl (fun w' hq => pv_load (t1 rfl) rfl (by first | exact PT.ld0 hq.2 rfl | exact PT.ld hq.2 rfl)) ?_) | (refine fw_take 7 rfl (by kernel_rfl) rfl rfl (by kernel_rfl) (by kernel_rfl) (by kernel_rfl) hNP hU rfl (fun w' hq => pv_loada (tA rfl) rfl (by first | exact PT.lda hq.2) (by rfl)) ?_) | (refine fw_take 7 rfl (by kernel_rfl) rfl rfl (by kernel_rfl) (by kernel_rfl) (by kernel_rfl) hNP hU rfl (fun w' hq => pv_load (t1 rfl) rfl (by first | exact SlR.ld (HN.mono hq.1) hx0 rfl | exact SlR.ld1 (HN.mono hq.1) hx0 rfl | exact SlR.ld (HN.mono hq.1) hx1 rfl | exact SlR.ld1 (HN.mono hq.1) hx1 rfl | exact SlR.ld (HN.mono hq.1) hx2 rfl | exact SlR.ld1 (HN.mono hq.1) hx2 rfl | exact SlR.ld (HN.mono hq.1) hx3 rfl | exact SlR.ld1 (HN.mono hq.1) hx3 rfl | exact SlR.ld (HN.mono hq.1) hx4 rfl | exact SlR.ld1 (HN.mono hq.1) hx4 rfl | exact SlR.ld (HN.mono hq.1) hx5 rfl | exact SlR.ld1 (HN.mono hq.1) hx5 rfl)) ?_) | (refine fw_take 7 rfl (by kernel_rfl) rfl rfl (by kernel_rfl) (by kernel_rfl) (by kernel_rfl) hNP hU rfl (fun w' hq => pv_loada (tA rfl) rfl (by first | exact SlR.lda (HN.mono hq.1) hx0 | exact SlR.lda (HN.mono hq.1) hx1 | exact SlR.lda (HN.mono hq.1) hx2 | exact SlR.lda (HN.mono hq.1) hx3 | exact SlR.lda (HN.mono hq.1) hx4 | exact SlR.lda (HN.mono hq.1) hx5) (by rfl)) ?_)
      first | (refine fw_take 8 rfl (by kernel_rfl) rfl rfl (by kernel_rfl) (by kernel_rfl) (by kernel_rfl) hNP hU rfl (fun w' hq => pv_move rfl) ?_)
      first | (refine fw_take 9 rfl (by kernel_rfl) rfl rfl (by kernel_rfl) (by kernel_rfl) (by kernel_rfl) hNP hU rfl (fun w' hq => pv_ian (tS rfl) rfl rfl (by omega)) ?_) | (refine fw_take 9 rfl (by kernel_rfl) rfl rfl (by kernel_rfl) (by kernel_rfl) (by kernel_rfl) hNP hU rfl (fun w' hq => pv_ia (tS rfl) rfl rfl (by omega)) ?_)
      first | (refine fw_take 10 rfl (by kernel_rfl) rfl rfl (by kernel_rfl) (by kernel_rfl) (by kernel_rfl) hNP hU rfl (fun w' hq => pv_load (t1 rfl) rfl (by first | exact PT.ld0 hq.2 rfl | exact PT.ld hq.2 rfl)) ?_) | (refine fw_take 10 rfl (by kernel_rfl) rfl rfl (by kernel_rfl) (by kernel_rfl) (by kernel_rfl) hNP hU rfl (fun w' hq => pv_loada (tA rfl) rfl (by first | exact PT.lda hq.2) (by rfl)) ?_) | (refine fw_take 10 rfl (by kernel_rfl) rfl rfl (by kernel_rfl) (by kernel_rfl) (by kernel_rfl) hNP hU rfl (fun w' hq => pv_load (t1 rfl) rfl (by first | exact SlR.ld (HN.mono hq.1) hx0 rfl | exact SlR.ld1 (HN.mono hq.1) hx0 rfl | exact SlR.ld (HN.mono hq.1) hx1 rfl | exact SlR.ld1 (HN.mono hq.1) hx1 rfl | exact SlR.ld (HN.mono hq.1) hx2 rfl | exact SlR.ld1 (HN.mono hq.1) hx2 rfl | exact SlR.ld (HN.mono hq.1) hx3 rfl | exact SlR.ld1 (HN.mono hq.1) hx3 rfl | exact SlR.ld (HN.mono hq.1) hx4 rfl | exact SlR.ld1 (HN.mono hq.1) hx4 rfl | exact SlR.ld (HN.mono hq.1) hx5 rfl | exact SlR.ld1 (HN.mono hq.1) hx5 rfl)) ?_) | (refine fw_take 10 rfl (by kernel_rfl) rfl rfl (by kernel_rfl) (by kernel_rfl) (by kernel_rfl) hNP hU rfl (fun w' hq => pv_loada (tA rfl) rfl (by first | exact SlR.lda (HN.mono hq.1) hx0 | exact SlR.lda (HN.mono hq.1) hx1 | exact SlR.lda (HN.mono hq.1) hx2 | exact SlR.lda (HN.mono hq.1) hx3 | exact SlR.lda (HN.mono hq.1) hx4 | exact SlR.lda (HN.mono hq.1) hx5) (by rfl)) ?_)
      first | (refine fw_take 11 rfl (by kernel_rfl) rfl rfl (by kernel_rfl) (by kernel_rfl) (by kernel_rfl) hNP hU rfl (fun w' hq => pv_move rfl) ?_)
      first | (refine fw_take 12 rfl (by kernel_rfl) rfl rfl (by kernel_rfl) (by kernel_rfl) (by kernel_rfl) hNP hU rfl (fun w' hq => pv_ian (tS rfl) rfl rfl (by omega)) ?_) | (refine fw_take 12 rfl (by kernel_rfl) rfl rfl (by kernel_rfl) (by kernel_rfl) (by kernel_rfl) hNP hU rfl (fun w' hq => pv_ia (tS rfl) rfl rfl (by omega)) ?_)
      first | (refine fw_take 13 rfl (by kernel_rfl) rfl rfl (by kernel_rfl) (by kernel_rfl) (by kernel_rfl) hNP hU rfl (fun w' hq => pv_load (t1 rfl) rfl (by first | exact PT.ld0 hq.2 rfl | exact PT.ld hq.2 rfl)) ?_) | (refine fw_take 13 rfl (by kernel_rfl) rfl rfl (by kernel_rfl) (by kernel_rfl) (by kernel_rfl) hNP hU rfl (fun w' hq => pv_loada (tA rfl) rfl (by first | exact PT.lda hq.2) (by rfl)) ?_) | (refine fw_take 13 rfl (by kernel_rfl) rfl rfl (by kernel_rfl) (by kernel_rfl) (by kernel_rfl) hNP hU rfl (fun w' hq => pv_load (t1 rfl) rfl (by first | exact SlR.ld (HN.mono hq.1) hx0 rfl | exact SlR.ld1 (HN.mono hq.1) hx0 rfl | exact SlR.ld (HN.mono hq.1) hx1 rfl | exact SlR.ld1 (HN.mono hq.1) hx1 rfl | exact SlR.ld (HN.mono hq.1) hx2 rfl | exact SlR.ld1 (HN.mono hq.1) hx2 rfl | exact SlR.ld (HN.mono hq.1) hx3 rfl | exact SlR.ld1 (HN.mono hq.1) hx3 rfl | exact SlR.ld (HN.mono hq.1) hx4 rfl | exact SlR.ld1 (HN.mono hq.1) hx4 rfl | exact SlR.ld (HN.mono hq.1) hx5 rfl | exact SlR.ld1 (HN.mono hq.1) hx5 rfl)) ?_) | (refine fw_take 13 rfl (by kernel_rfl) rfl rfl (by kernel_rfl) (by kernel_rfl) (by kernel_rfl) hNP hU rfl (fun w' hq => pv_loada (tA rfl) rfl (by first | exact SlR.lda (HN.mono hq.1) hx0 | exact SlR.lda (HN.mono hq.1) hx1 | exact SlR.lda (HN.mono hq.1) hx2 | exact SlR.lda (HN.mono hq.1) hx3 | exact SlR.lda (HN.mono hq.1) hx4 | exact SlR.lda (HN.mono hq.1) hx5) (by rfl)) ?_)
      first | (refine fw_take 14 rfl (by kernel_rfl) rfl rfl (by kernel_rfl) (by kernel_rfl) (by kernel_rfl) hNP hU rfl (fun w' hq => pv_move rfl) ?_)
      first | (refine fw_take 15 rfl (by kernel_rfl) rfl rfl (by kernel_rfl) (by kernel_rfl) (by kernel_rfl) hNP hU rfl (fun w' hq => pv_ian (tS rfl) rfl rfl (by omega)) ?_) | (refine fw_take 15 rfl (by kernel_rfl) rfl rfl (by kernel_rfl) (by kernel_rfl) (by kernel_rfl) hNP hU rfl (fun w' hq => pv_ia (tS rfl) rfl rfl (by omega)) ?_)
      first | (refine fw_take 16 rfl (by kernel_rfl) rfl rfl (by kernel_rfl) (by kernel_rfl) (by kernel_rfl) hNP hU rfl (fun w' hq => pv_load (t1 rfl) rfl (by first | exact PT.ld0 hq.2 rfl | exact PT.ld hq.2 rfl)) ?_) | (refine fw_take 16 rfl (by kernel_rfl) rfl rfl (by kernel_rfl) (by kernel_rfl) (by kernel_rfl) hNP hU rfl (fun w' hq => pv_loada (tA rfl) rfl (by first | exact PT.lda hq.2) (by rfl)) ?_) | (refine fw_take 16 rfl (by kernel_rfl) rfl rfl (by kernel_rfl) (by kernel_rfl) (by kernel_rfl) hNP hU rfl (fun w' hq => pv_load (t1 rfl) rfl (by first | exact SlR.ld (HN.mono hq.1) hx0 rfl | exact SlR.ld1 (HN.mono hq.1) hx0 rfl | exact SlR.ld (HN.mono hq.1) hx1 rfl | exact SlR.ld1 (HN.mono hq.1) hx1 rfl | exact SlR.ld (HN.mono hq.1) hx2 rfl | exact SlR.ld1 (HN.mono hq.1) hx2 rfl | exact SlR.ld (HN.mono hq.1) hx3 rfl | exact SlR.ld1 (HN.mono hq.1) hx3 rfl | exact SlR.ld (HN.mono hq.1) hx4 rfl | exact SlR.ld1 (HN.mono hq.1) hx4 rfl | exact SlR.ld (HN.mono hq.1) hx5 rfl | exact SlR.ld1 (HN.mono hq.1) hx5 rfl)) ?_) | (refine fw_take 16 rfl (by kernel_rfl) rfl rfl (by kernel_rfl) (by kernel_rfl) (by kernel_rfl) hNP hU rfl (fun w' hq => pv_loada (tA rfl) rfl (by first | exact SlR.lda (HN.mono hq.1) hx0 | exact SlR.lda (HN.mono hq.1) hx1 | exact SlR.lda (HN.mono hq.1) hx2 | exact SlR.lda (HN.mono hq.1) hx3 | exact SlR.lda (HN.mono hq.1) hx4 | exact SlR.lda (HN.mono hq.1) hx5) (by rfl)) ?_)
      first | (refine fw_take 17 rfl (by kernel_rfl) rfl rfl (by kernel_rfl) (by kernel_rfl) (by kernel_rfl) hNP hU rfl (fun w' hq => pv_conv8 (tCv rfl rfl) rfl hs8) ?_) | (refine fw_take 17 rfl (by kernel_rfl) rfl rfl (by kernel_rfl) (by kernel_rfl) (by kernel_rfl) hNP hU rfl (fun w' hq => pv_conv (tCv rfl rfl) rfl (by omega)) ?_)
      first | (refine fw_take 18 rfl (by kernel_rfl) rfl rfl (by kernel_rfl) (by kernel_rfl) (by kernel_rfl) hNP hU rfl (fun w' hq => pv_move rfl) ?_)
      first | (refine fw_take 19 rfl (by kernel_rfl) rfl rfl (by kernel_rfl) (by kernel_rfl) (by kernel_rfl) hNP hU rfl (fun w' hq => pv_ian (tS rfl) rfl rfl (by omega)) ?_) | (refine fw_take 19 rfl (by kernel_rfl) rfl rfl (by kernel_rfl) (by kernel_rfl) (by kernel_rfl) hNP hU rfl (fun w' hq => pv_ia (tS rfl) rfl rfl (by omega)) ?_)
      first | (refine fw_take 20 rfl (by kernel_rfl) rfl rfl (by kernel_rfl) (by kernel_rfl) (by kernel_rfl) hNP hU rfl (fun w' hq => pv_load (t1 rfl) rfl (by first | exact PT.ld0 hq.2 rfl | exact PT.ld hq.2 rfl)) ?_) | (refine fw_take 20 rfl (by kernel_rfl) rfl rfl (by kernel_rfl) (by kernel_rfl) (by kernel_rfl) hNP hU rfl (fun w' hq => pv_loada (tA rfl) rfl (by first | exact PT.lda hq.2) (by rfl)) ?_) | (refine fw_take 20 rfl (by kernel_rfl) rfl rfl (by kernel_rfl) (by kernel_rfl) (by kernel_rfl) hNP hU rfl (fun w' hq => pv_load (t1 rfl) rfl (by first | exact SlR.ld (HN.mono hq.1) hx0 rfl | exact SlR.ld1 (HN.mono hq.1) hx0 rfl | exact SlR.ld (HN.mono hq.1) hx1 rfl | exact SlR.ld1 (HN.mono hq.1) hx1 rfl | exact SlR.ld (HN.mono hq.1) hx2 rfl | exact SlR.ld1 (HN.mono hq.1) hx2 rfl | exact SlR.ld (HN.mono hq.1) hx3 rfl | exact SlR.ld1 (HN.mono hq.1) hx3 rfl | exact SlR.ld (HN.mono hq.1) hx4 rfl | exact SlR.ld1 (HN.mono hq.1) hx4 rfl | exact SlR.ld (HN.mono hq.1) hx5 rfl | exact SlR.ld1 (HN.mono hq.1) hx5 rfl)) ?_) | (refine fw_take 20 rfl (by kernel_rfl) rfl rfl (by kernel_rfl) (by kernel_rfl) (by kernel_rfl) hNP hU rfl (fun w' hq => pv_loada (tA rfl) rfl (by first | exact SlR.lda (HN.mono hq.1) hx0 | exact SlR.lda (HN.mono hq.1) hx1 | exact SlR.lda (HN.mono hq.1) hx2 | exact SlR.lda (HN.mono hq.1) hx3 | exact SlR.lda (HN.mono hq.1) hx4 | exact SlR.lda (HN.mono hq.1) hx5) (by rfl)) ?_)
      first | (refine fw_take 21 rfl (by kernel_rfl) rfl rfl (by kernel_rfl) (by kernel_rfl) (by kernel_rfl) hNP hU rfl (fun w' hq => pv_move rfl) ?_)
      first | (refine fw_take 22 rfl (by kernel_rfl) rfl rfl (by kernel_rfl) (by kernel_rfl) (by kernel_rfl) hNP hU rfl (fun w' hq => pv_ian (tS rfl) rfl rfl (by omega)) ?_) | (refine fw_take 22 rfl (by kernel_rfl) rfl rfl (by kernel_rfl) (by kernel_rfl) (by kernel_rfl) hNP hU rfl (fun w' hq => pv_ia (tS rfl) rfl rfl (by omega)) ?_)
      first | (refine fw_take 23 rfl (by kernel_rfl) rfl rfl (by kernel_rfl) (by kernel_rfl) (by kernel_rfl) hNP hU rfl (fun w' hq => pv_load (t1 rfl) rfl (by first | exact PT.ld0 hq.2 rfl | exact PT.ld hq.2 rfl)) ?_) | (refine fw_take 23 rfl (by kernel_rfl) rfl rfl (by kernel_rfl) (by kernel_rfl) (by kernel_rfl) hNP hU rfl (fun w' hq => pv_loada (tA rfl) rfl (by first | exact PT.lda hq.2) (by rfl)) ?_) | (refine fw_take 23 rfl (by kernel_rfl) rfl rfl (by kernel_rfl) (by kernel_rfl) (by kernel_rfl) hNP hU rfl (fun w' hq => pv_load (t1 rfl) rfl (by first | exact SlR.ld (HN.mono hq.1) hx0 rfl | exact SlR.ld1 (HN.mono hq.1) hx0 rfl | exact SlR.ld (HN.mono hq.1) hx1 rfl | exact SlR.ld1 (HN.mono hq.1) hx1 rfl | exact SlR.ld (HN.mono hq.1) hx2 rfl | exact SlR.ld1 (HN.mono hq.1) hx2 rfl | exact SlR.ld (HN.mono hq.1) hx3 rfl | exact SlR.ld1 (HN.mono hq.1) hx3 rfl | exact SlR.ld (HN.mono hq.1) hx4 rfl | exact SlR.ld1 (HN.mono hq.1) hx4 rfl | exact SlR.ld (HN.mono hq.1) hx5 rfl | exact SlR.ld1 (HN.mono hq.1) hx5 rfl)) ?_) | (refine fw_take 23 rfl (by kernel_rfl) rfl rfl (by kernel_rfl) (by kernel_rfl) (by kernel_rfl) hNP hU rfl (fun w' hq => pv_loada (tA rfl) rfl (by first | exact SlR.lda (HN.mono hq.1) hx0 | exact SlR.lda (HN.mono hq.1) hx1 | exact SlR.lda (HN.mono hq.1) hx2 | exact SlR.lda (HN.mono hq.1) hx3 | exact SlR.lda (HN.mono hq.1) hx4 | exact SlR.lda (HN.mono hq.1) hx5) (by rfl)) ?_)
      first | (refine fw_take 24 rfl (by kernel_rfl) rfl rfl (by kernel_rfl) (by kernel_rfl) (by kernel_rfl) hNP hU rfl (fun w' hq => tyB_34 rfl rfl rfl) ?_)
      refine fw_act 25 (by kernel_rfl) rfl rfl rfl ?_
      refine act_bs (vs := [.agg (encP ⟨n1, n0, n2, n3, n4, n5⟩).toArray]) (cs := encP ⟨n1, n0, n2, n3, n4, n5⟩) elemP rfl rfl (by omega) (by omega) rfl (by simp [Value.cells, encP]) ?_; intro wb HB hbb; have hO3 := (hO2.mono (below_drew _)).mono hbb; have hT3 := (hT2.mono (below_drew _)).mono hbb; have hbz := hbb.size; refine ⟨⟨grow_trans hU.1 hbb, hU.2.mono hbb⟩, fun hU => ?_⟩
      refine fw_act 26 (by kernel_rfl) rfl rfl rfl ?_
      refine act_app elemP encP_len encP_one rfl rfl hO3 (HB.slR (xs := [⟨n1, n0, n2, n3, n4, n5⟩]) encP_len rfl (by omega)) rfl hU.1.size (by simp; omega) (by simp [maxLen]; omega) ?_; intro v9 w9 hO9 hg9 hb9; refine ⟨⟨hU.1.grown hg9 hU.1.size (fun q hq => (Own.lt hO3 q hq).1), hU.2.grown hg9 (fun e => own_pt_ne hO3 hU.2 (by decide) e)⟩, fun hU => ?_⟩
      first | (refine fw_act 27 (by kernel_rfl) rfl rfl rfl ?_; refine act_pv (pv_nilp rfl) ?_; refine ⟨hU, fun hU => ?_⟩)
      first | (refine fw_take 28 rfl (by kernel_rfl) rfl rfl (by kernel_rfl) (by kernel_rfl) (by kernel_rfl) hNP hU rfl (fun w' hq => pv_fa (tF rfl) rfl) ?_)
      refine fw_last (by kernel_rfl) rfl rfl rfl rfl (by kernel_rfl) ?_
      obtain ⟨hb3, HW3⟩ := hU; clear hNP
      obtain ⟨va, vc, rfl, -, -⟩ := Own.slR encP_len hO9; refine act_store HW3 (tZ rfl) rfl rfl rfl (by simp) ?_; intro wz HWz hgz hzz
      have hT9 := hT3.kept hg9 (own_ne_T hT3 hO3 (by decide))
      have hTz := hT9.kept hgz (Or.inr (own_pt_ne hT9 HW3 (by decide)))
      have hOz := hO9.kept hgz (Or.inr (own_pt_ne hO9 HW3 (by decide)))
      have hbz4 := hb3.grown hgz hb3.size (by intro q hq; injection hq with hq; omega)
      obtain ⟨va', vc', hv', hSz, hvb⟩ := Own.slR encP_len hOz
      injection hv' with hv1 _ hv3; subst hv1 hv3
      obtain ⟨vb, vo2, rfl, -, -⟩ := hSz.at (by simp)
      obtain ⟨hvb1, hvb2⟩ := hvb _ rfl
      simp only at hvb1 hvb2; subst hvb2
      have hw := Below.refl wz.heap.size wz
      have hids : ∀ x ∈ p, x.id ≠ n0 := findP_none hf
      have hll : (p ++ [(⟨n1, n0, n2, n3, n4, n5⟩ : Opn)]).length ≤ 1000000 := by simp; omega
      repeat' (first | (refine lw_pure rfl (pv_move rfl) ?_) | (refine is_cw ?_; first | (refine cw_seq ?_) | (refine cw_region ?_)) | (refine is_qw ?_; first | (with_reducible refine qw_then ?_)) | ((refine is_load ?_; first | (refine lw_pure rfl (pv_load (t1 rfl) rfl (by first | exact PT.ld0 (HWz.mono hw) rfl | exact PT.ld (HWz.mono hw) rfl)) ?_))) | ((refine is_fa ?_; first | (refine lw_pure rfl (pv_fa (tF rfl) rfl) ?_))) | (refine lw_pure rfl (pv_nilp rfl) ?_))
      refine lw_call (f := 47) (by kernel_rfl) rfl rfl (sort_P w0.heap.size vb vc _ wz hOz hll (put_pw hp1 hids)) ?_; rintro e1 w5 ⟨rfl, ⟨zs, hz1, hz2, hOs2⟩, hg5⟩; refine ⟨_, rfl, ?_⟩
      have hze := put_sorted hp1 hids hz1 hz2
      have hT5 := hTz.kept hg5 (own_ne_T hTz hOz (by decide))
      have hW5 := HWz.grown hg5 (own_pt_ne hOz HWz (by decide))
      have hb5 := hbz4.grown hg5 hbz4.size (by intro q hq; injection hq with hq; omega)
      have hw := Below.refl w5.heap.size w5
      repeat' (first | (refine lw_pure rfl (pv_assign rfl) ?_) | (refine is_cw ?_; first | (refine cw_seq ?_) | (refine cw_region ?_) | (refine cw_ret ?_)) | (refine is_qw ?_; first | (with_reducible refine qw_then ?_)) | (refine lw_nil ?_))
      refine qw_ret1 rfl rfl ⟨rfl, fun _ => ⟨_, _, ⟨hW5, ?_, hT5, hNb⟩⟩, hb5⟩
      rw [← hze]
      rw [show (p ++ [(⟨n1, n0, n2, n3, n4, n5⟩ : Opn)]).length = zs.length from hz1.length_eq.symm] at hOs2 ⊢
      exact hOs2
  · have hf : findP p n0 = some r := find_at hxk hr hn
    rw [hf, if_pos (by rfl)]
    repeat' (first | (refine lw_pure rfl (pv_assign rfl) ?_) | (refine is_cw ?_; first | (refine cw_seq ?_) | (refine cw_region ?_) | (refine cw_true rfl rfl ?_) | (refine cw_ret ?_)) | (refine is_qw ?_; first | (with_reducible refine qw_then ?_) | (with_reducible refine qw_then_ret ?_) | (with_reducible refine qw_in_ret ?_)) | (refine lw_nil ?_))
    exact qw_ret1 rfl rfl ⟨rfl, by simp, hb2⟩
end Go.Proofs.YtkehmbgcglbffaaDoor
