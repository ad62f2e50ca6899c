/-
  Contracts of a kind's fields (layer 5): the row of a kind, what it has in a version, Fields; the document's. Conditions: the table of kinds lies in memory (KnW).
-/
import Derived.Test.YtkehmbgcglbffaaDoorEb
namespace Go.Proofs.YtkehmbgcglbffaaDoor
open Go.RowKit Go.PlainAid

theorem ar3 : arB Tryd.prog 80 3 1 = true := by kernel_rfl
theorem ar23 : arB Tryd.prog 110 23 5 = true := by kernel_rfl
theorem elemB : ElemT Tryd.prog 65 85 1 1 := elem_of Tryd.underlying65 (by kernel_rfl) (by omega)
theorem tyb3 (a b c : ByteArray) : (Tryd.prog).built 80 [(0, .string a), (1, .string b), (2, .string c)] = some (List.toArray [.string a, .string b, .string c]) := by kernel_rfl
theorem kind_at {k : Int} (h : 1 ≤ k ∧ k ≤ 23) : kindsT[(k - 1).toNat]? = some (kindR k) := by
  have hl := kindsT_len
  unfold kindR
  rw [if_pos h, List.getD_eq_getElem?_getD, List.getElem?_eq_getElem (by omega)]; rfl
theorem kind_out {k : Int} (h : ¬ (1 ≤ k ∧ k ≤ 23)) : kindR k = blankK := by unfold kindR; rw [if_neg h]
set_option maxRecDepth 20000 in
set_option maxHeartbeats 2000000 in
theorem event_c (k : Int) (h8 : 0 ≤ k ∧ k ≤ 255) {w : World} (hK : KnW w) : Calls Tryd.prog 43 #[.int .u8 k] w fun e w' => e = .returned (.agg (encK (kindR k)).toArray) ∧ Below w.heap.size w w' := by
  have hw := Below.refl w.heap.size w
  refine fn_enter 16 Tryd.func43 rfl rfl rfl ?_
  repeat' (first | (refine is_cw ?_; first | (refine cw_seq ?_) | (refine cw_region ?_)))
  refine lw_allocN rfl (by first | exact tyv_25 | exact tyv_26 | exact tyv_33 | exact tyv_34 | exact tyv_35 | exact tyv_36 | exact tyv_37 | exact tyv_50 | exact tyv_51 | exact tyv_81 | exact tyv_82) rfl ?_; intro N w1 hN H hb
  replace hw := grow_trans hw hb
  have HK := hK.s.mono hw
  clear hb
  have hE := Ext.mk hw
  clear hw
  have hw := Below.refl w1.heap.size w1
  by_cases hk : 1 ≤ k ∧ k ≤ 23
  · have hx := kind_at hk
    repeat' (first | (refine lw_pure rfl (pv_move rfl) ?_) | (refine is_cw ?_; first | (refine cw_seq ?_) | (refine cw_region ?_) | (refine cw_false rfl (by first | assumption | exact decide_eq_false (by omega) | exact dec_notF (by omega)) ?_) | (refine cw_skip ?_)) | (refine is_qw ?_; first | (with_reducible refine qw_then ?_)) | (refine lw_nil ?_) | (refine is_guarded ?_; first | (refine lw_on rfl rfl (by first | assumption | exact decide_eq_true (by omega) | exact decide_eq_false (by omega) | exact dec_notT (by omega) | exact dec_notF (by omega)) ?_)) | ((refine is_bin ?_; first | (refine lw_pure rfl (pv_sub8 rfl rfl (by omega)) ?_) | (refine lw_pure rfl (pv_lss rfl rfl) ?_) | (refine lw_pure rfl (pv_gtr rfl rfl) ?_))) | ((refine is_load ?_; first | (refine lw_pure rfl (pv_loada (tA rfl) rfl (by first | exact SlR.lda (HK.mono hw) hx) (by rfl)) ?_))) | ((refine is_ia ?_; first | (refine lw_pure rfl (pv_iaa ar23 rfl rfl (by omega)) ?_))) | (refine lw_pure rfl (pv_pick_f rfl (by first | assumption | exact decide_eq_false (by omega) | exact dec_notF (by omega)) rfl) ?_) | (refine lw_pure rfl (pv_conv (tCv rfl rfl) rfl (by omega)) ?_))
    all_goals refine lw_storea (vs := encK (kindR k)) (H.mono hw) (tZ rfl) rfl rfl rfl rfl (by simp [encK, Value.oneCell']) ?_; intro w2 H2 hg hz
    all_goals replace hE := (hE.mono hw).grown hg (by intro q hq; injection hq with hq; omega)
    all_goals (clear hw hg; have hw := Below.refl w2.heap.size w2)
    all_goals repeat' (first | (refine is_cw ?_; first | (refine cw_ret ?_)) | (refine is_qw ?_; first | (with_reducible refine qw_then ?_)) | (refine lw_nil ?_))
    all_goals exact qw_retc rfl rfl (agg_ld (tA rfl) rfl (fun i u hu => H2.ld0 hu)) ⟨rfl, hE.b⟩
  · rw [kind_out hk]
    repeat' (first | (refine lw_pure rfl (pv_move rfl) ?_) | (refine lw_pure rfl (pv_built rfl rfl (tyb3 _ _ _)) ?_) | (refine is_cw ?_; first | (refine cw_seq ?_) | (refine cw_region ?_) | (refine cw_true rfl rfl ?_) | (refine cw_true rfl (by first | assumption | exact decide_eq_true (by omega) | exact dec_notT (by omega)) ?_)) | (refine is_qw ?_; first | (with_reducible refine qw_then ?_)) | (refine lw_nil ?_) | (refine is_guarded ?_; first | (refine lw_on rfl rfl (by first | assumption | exact decide_eq_true (by omega) | exact decide_eq_false (by omega) | exact dec_notT (by omega) | exact dec_notF (by omega)) ?_) | (refine lw_not rfl rfl rfl (by first | assumption | exact decide_eq_true (by omega) | exact decide_eq_false (by omega) | exact dec_notT (by omega) | exact dec_notF (by omega)) ?_) | (refine lw_gs_f rfl rfl rfl (fun hc => ?_) (fun hc => ?_) <;> (first | replace hc := of_decide_eq_true hc | replace hc := of_decide_eq_false hc | replace hc := dec_nT hc | replace hc := dec_nF hc | skip) <;> (try (exfalso; omega)))) | ((refine is_bin ?_; first | (refine lw_pure rfl (pv_lss rfl rfl) ?_) | (refine lw_pure rfl (pv_gtr rfl rfl) ?_))) | ((refine is_bd ?_; first | (refine lw_pure rfl (tyB_82 rfl rfl rfl) ?_))) | (refine lw_pure rfl (pv_pick_t rfl (by first | assumption | exact decide_eq_true (by omega) | exact dec_notT (by omega)) rfl) ?_) | (refine lw_pure rfl (pv_pick_f rfl (by first | assumption | exact decide_eq_false (by omega) | exact dec_notF (by omega)) rfl) ?_) | (refine lw_pure rfl (pv_conv (tCv rfl rfl) rfl (by omega)) ?_))
    all_goals refine lw_storea (vs := encK blankK) (H.mono hw) (tZ rfl) rfl rfl rfl rfl (by simp [encK, Value.oneCell']) ?_; intro w2 H2 hg hz
    all_goals replace hE := (hE.mono hw).grown hg (by intro q hq; injection hq with hq; omega)
    all_goals (clear hw hg; have hw := Below.refl w2.heap.size w2)
    all_goals repeat' (first | (refine is_cw ?_; first | (refine cw_ret ?_)) | (refine is_qw ?_; first | (with_reducible refine qw_then ?_) | (with_reducible refine qw_then_ret ?_)) | (refine lw_nil ?_))
    all_goals exact qw_retc rfl rfl (agg_ld (tA rfl) rfl (fun i u hu => H2.ld0 hu)) ⟨rfl, hE.b⟩
/-- what is told of a kind's fields -/
def fBytes (R : Option (ByteArray × Bool)) : List Int := match R with | some p => bytesI p.1 | none => []
def fText (R : Option (ByteArray × Bool)) : Bool := match R with | some p => p.2 | none => false
def toldF (r : KRow) (v : Int) : Option (ByteArray × Bool) := if 1 ≤ v ∧ v ≤ 3 then (if (32 : Int) ∈ bytesI (fieldV r v) then none else some (fieldV r v, r.text)) else none
theorem toldF_eq (v k : Int) : toldF (kindR k) v = fieldsR v k := rfl
theorem field_at {r : KRow} {v : Int} (h : 1 ≤ v ∧ v ≤ 3) : (encK r)[1 + (v - 1).toNat * 1]? = some (.string (fieldV r v)) := by
  have : v = 1 ∨ v = 2 ∨ v = 3 := by omega
  rcases this with rfl | rfl | rfl <;> rfl
theorem own_ne_it {α : Type} {enc : α → List Value} {k : Nat} {T : TypeId} {B : Nat} {w : World} {v : Value} {xs : List α} {I p : Nat} {s : ByteArray} (h : Own enc k T B w v xs) (hI : ItS w I s p) : v.ownBlock ≠ some I := by
  obtain ⟨_, h2⟩ := h
  rcases h2 with ⟨rfl, _⟩ | ⟨g, cap, cur, rfl, _, hg, _⟩
  · simp [Value.ownBlock]
  · intro e
    have e2 : g = I := by simpa [Value.ownBlock] using e
    subst e2
    unfold ItS at hI
    rw [hg] at hI; cases hI
theorem own_blk_ne' {α : Type} {enc : α → List Value} {k : Nat} {T T' : TypeId} {B : Nat} {w : World} {v : Value} {xs : List α} {N : Nat} {cs : List Value} (h : Own enc k T B w v xs) (hp : PT w N T' cs) (hT : T ≠ T') : v.ownBlock ≠ some N := by
  obtain ⟨_, h2⟩ := h
  rcases h2 with ⟨rfl, _⟩ | ⟨g, cap, cur, rfl, _, hg, _⟩
  · simp [Value.ownBlock]
  · intro e
    have e2 : g = N := by simpa [Value.ownBlock] using e
    subst e2
    unfold PT at hp
    rw [hg] at hp; injection hp with hp; injection hp with _ hp _; exact hT hp
theorem pt_ne_it {w : World} {N : Nat} {T : TypeId} {cs : List Value} {I p : Nat} {s : ByteArray} (h : PT w N T cs) (hI : ItS w I s p) : N ≠ I := by
  rintro rfl
  unfold ItS at hI; unfold PT at h
  rw [h] at hI; cases hI
set_option maxRecDepth 20000 in
set_option maxHeartbeats 2000000 in
theorem told_c (r : KRow) (v : Int) (ha : Asc (fieldV r v)) (hsz : (fieldV r v).size ≤ 1000) (w : World) : Calls Tryd.prog 44 #[.agg (encK r).toArray, .int .u8 v] w fun e w' => (∃ sv, e = .returned (.tuple #[sv, .bool (fText (toldF r v)), .bool (toldF r v).isSome]) ∧ Own encB 1 85 w.heap.size w' sv (fBytes (toldF r v))) ∧ Below w.heap.size w w' := by
  have hw := Below.refl w.heap.size w
  refine fn_enter 34 Tryd.func44 rfl rfl rfl ?_
  repeat' (first | (refine is_cw ?_; first | (refine cw_seq ?_) | (refine cw_region ?_)))
  refine lw_boxN rfl rfl (cs := encK r) rfl ?_; intro N w1 hN H hb
  replace hw := grow_trans hw hb
  clear hb
  have hN0 : w.heap.size ≤ N := hN
  by_cases hv : 1 ≤ v ∧ v ≤ 3
  · have hS := field_at (r := r) hv
    have hT : toldF r v = if (32 : Int) ∈ bytesI (fieldV r v) then none else some (fieldV r v, r.text) := by unfold toldF; rw [if_pos hv]
    generalize hSe : fieldV r v = S at ha hsz hS hT
    have hE := Ext.mk hw
    have hE0 := hw.size
    clear hw
    have hw := Below.refl w1.heap.size w1
    repeat' (first | (refine lw_pure rfl (pv_move rfl) ?_) | (refine lw_pure rfl (pv_assign rfl) ?_) | (refine lw_pure rfl (pv_load (t1 rfl) rfl ((H.mono hw).ld hS)) ?_) | (refine is_cw ?_; first | (refine cw_seq ?_) | (refine cw_region ?_) | (refine cw_false rfl (by first | assumption | exact decide_eq_false (by omega) | exact dec_notF (by omega)) ?_) | (refine cw_skip ?_)) | (refine is_qw ?_; first | (with_reducible refine qw_then ?_)) | (refine lw_nil ?_) | (refine is_guarded ?_; first | (refine lw_on rfl rfl (by first | assumption | exact decide_eq_true (by omega) | exact decide_eq_false (by omega) | exact dec_notT (by omega) | exact dec_notF (by omega)) ?_)) | ((refine is_bin ?_; first | (refine lw_pure rfl (pv_sub8 rfl rfl (by omega)) ?_) | (refine lw_pure rfl (pv_lss rfl rfl) ?_) | (refine lw_pure rfl (pv_gtr rfl rfl) ?_))) | ((refine is_fa ?_; first | (refine lw_pure rfl (pv_fa (tF rfl) rfl) ?_))) | ((refine is_ia ?_; first | (refine lw_pure rfl (pv_iaa ar3 rfl rfl (by omega)) ?_))) | (refine lw_pure rfl (pv_pick_f rfl (by first | assumption | exact decide_eq_false (by omega) | exact dec_notF (by omega)) rfl) ?_))
    refine lw_rangeS (tStr rfl) rfl rfl ?_; intro I w2 hI HI hb
    have hI0 : w.heap.size ≤ I := Nat.le_trans hE0 (Nat.le_trans hw.size hI)
    replace hE := hE.mono (grow_trans hw hb)
    replace H := H.mono (grow_trans hw hb)
    clear hw hb
    have hw := Below.refl w2.heap.size w2
    have hbl := bytesI_len S
    repeat' (first | (refine is_cw ?_; first | (refine cw_block ?_)) | (refine is_qw ?_; first | (with_reducible refine qw_then ?_)) | (refine lw_nil ?_))
    refine cw_loop (σ := Nat × Value) (fun s => [(2, .pointer (some ⟨N, 0, none⟩)), (4, s.2), (20, .pointer (some ⟨I, 0, none⟩))]) (fun s wr => (s.1 ≤ S.size ∧ Below w.heap.size w wr) ∧ ItS wr I S s.1 ∧ Own encB 1 85 w.heap.size wr s.2 ((bytesI S).take s.1) ∧ PT wr N 82 (encK r) ∧ ¬ (32 : Int) ∈ (bytesI S).take s.1) (fun s => S.size - s.1) (0, .slice none 0 0) (by repeat' (first | exact trivial | refine ⟨rfl, ?_⟩)) ⟨⟨Nat.zero_le _, hE.b⟩, HI, Own.nil _, H, by simp⟩ ?_
    clear hw hE HI H
    rintro ⟨p, sl⟩ wr ⟨⟨hp, hW⟩, HI, hO, H, hn⟩
    dsimp only at hp HI hO hn
    change CW _ _ _ _ [(2, .pointer (some ⟨N, 0, none⟩)), (4, sl), (20, .pointer (some ⟨I, 0, none⟩))] wr
    have hne := own_ne_it hO HI
    have hne2 := pt_ne_it H HI
    have hw := Below.refl wr.heap.size wr
    repeat' (first | (refine is_cw ?_; first | (refine cw_seq ?_) | (refine cw_region ?_)))
    refine lw_nextS ha rfl rfl HI (fun hend => ?_) (fun w3 hlt HI3 hg hz => ?_)
    · have hps : p = S.size := by omega
      subst hps
      rw [← hbl, List.take_length] at hO hn
      rw [if_neg hn] at hT
      rw [hT]
      repeat' (first | (refine is_cw ?_; first | (refine cw_seq ?_) | (refine cw_false rfl rfl ?_) | (refine cw_exit ?_)) | (refine is_qw ?_; first | (with_reducible refine qw_then ?_) | (with_reducible refine qw_in_hit ?_) | (with_reducible refine qw_then_exit ?_)) | (refine lw_nil ?_) | (refine lw_pure rfl (pv_extract rfl rfl) ?_))
      refine cw_drawn (fun w' => Below wr.heap.size wr w') (by kernel_rfl) (by repeat (first | exact NoPanic.body | with_reducible refine NoPanic.then ?_ | with_reducible refine NoPanic.inBlock ?_)) (fun hNP => ?_)
      have hS := hw.drew
      (refine aw_take 0 rfl (by kernel_rfl) (by kernel_rfl) (by kernel_rfl) hNP hS rfl (fun w' hq => pv_move rfl) ?_)
      (refine aw_take 1 rfl (by kernel_rfl) (by kernel_rfl) (by kernel_rfl) hNP hS rfl (fun w' hq => pv_fa (tF rfl) rfl) ?_)
      (refine aw_take 2 rfl (by kernel_rfl) (by kernel_rfl) (by kernel_rfl) hNP hS rfl (fun w' hq => pv_load (t1 rfl) rfl (by first | exact PT.ld0 (H.mono hq) rfl | exact PT.ld (H.mono hq) rfl)) ?_)
      (refine aw_take 3 rfl (by kernel_rfl) (by kernel_rfl) (by kernel_rfl) hNP hS rfl (fun w' hq => pv_assign rfl) ?_)
      (refine aw_take 4 rfl (by kernel_rfl) (by kernel_rfl) (by kernel_rfl) hNP hS rfl (fun w' hq => pv_assign rfl) ?_)
      (refine aw_take 5 rfl (by kernel_rfl) (by kernel_rfl) (by kernel_rfl) hNP hS rfl (fun w' hq => pv_assign rfl) ?_)
      refine aw_done (by kernel_rfl) ?_
      replace hw := hS; clear hS hNP
      have hW2 := grow_trans hW hw
      repeat' (first | (refine is_cw ?_; first | (refine cw_ret ?_)) | (refine is_qw ?_; first | (with_reducible refine qw_then ?_)))
      exact qw_ret3 rfl rfl rfl rfl ⟨⟨_, rfl, hO.mono hw⟩, hW2⟩
    · replace hO := hO.kept hg (Or.inr hne)
      replace H := H.grown hg (fun e => hne2 (by injection e with e; exact e.symm))
      replace hW := hW.grown hg hW.size (by intro q hq; injection hq with hq; omega)
      clear hw hg hz HI
      have hw := Below.refl w3.heap.size w3
      have hb0 := bytesI_bd S _ (bt_mem hlt)
      by_cases h32 : bt S p = 32
      · have hm : (32 : Int) ∈ bytesI S := h32 ▸ bt_mem hlt
        rw [if_pos hm] at hT
        rw [hT]
        repeat' (first | (refine lw_pure rfl (pv_move rfl) ?_) | (refine lw_pure rfl (pv_assign rfl) ?_) | (refine is_cw ?_; first | (refine cw_seq ?_) | (refine cw_region ?_) | (refine cw_true rfl rfl ?_) | (refine cw_true rfl (by first | assumption | exact decide_eq_true (by omega) | exact dec_notT (by omega)) ?_) | (refine cw_skip ?_) | (refine cw_block ?_) | (refine cw_ret ?_)) | (refine is_qw ?_; first | (with_reducible refine qw_then ?_) | (with_reducible refine qw_then_ret ?_) | (with_reducible refine qw_in_ret ?_)) | (refine lw_nil ?_) | ((refine is_bin ?_; first | (refine lw_pure rfl (pv_eql rfl rfl) ?_))) | (refine lw_pure rfl (pv_extract rfl rfl) ?_))
        exact qw_ret3 rfl rfl rfl rfl ⟨⟨_, rfl, Own.nil _⟩, hW⟩
      · have htl : ((bytesI S).take p).length ≤ 1000 := by rw [List.length_take]; omega
        repeat' (first | (refine lw_pure rfl (pv_move rfl) ?_) | (refine lw_pure rfl (pv_assign rfl) ?_) | (refine lw_pure rfl (pv_conv8 (tCv rfl rfl) rfl (by omega)) ?_) | (refine is_cw ?_; first | (refine cw_seq ?_) | (refine cw_region ?_) | (refine cw_true rfl rfl ?_) | (refine cw_false rfl (by first | assumption | exact decide_eq_false (by omega) | exact dec_notF (by omega)) ?_) | (refine cw_skip ?_) | (refine cw_block ?_)) | (refine is_qw ?_; first | (with_reducible refine qw_then ?_)) | (refine lw_nil ?_) | ((refine is_bin ?_; first | (refine lw_pure rfl (pv_eql rfl rfl) ?_))) | (refine lw_pure rfl (pv_extract rfl rfl) ?_))
        refine lw_bs (vs := [.int .u8 (bt S p)]) (cs := [.int .u8 (bt S p)]) elemB rfl rfl rfl (by omega) (by omega) rfl (by simp [Value.cells]) ?_; intro w4 HB hb hz
        refine lw_app elemB encB_len encB_one rfl rfl rfl (hO.mono hb) (HB.slR (xs := [bt S p]) encB_len rfl (by omega)) rfl (Nat.le_trans hW.size hb.size) (by simp; omega) (by simp [maxLen]; omega) ?_; intro v5 w5 hO5 hg5 hb5
        have hbw := hb.size
        repeat' (first | (refine lw_pure rfl (pv_assign rfl) ?_) | (refine is_qw ?_; first | (with_reducible refine qw_in ?_)) | (refine lw_nil ?_))
        refine qw_round (p + 1, v5) (by repeat' (first | exact trivial | refine ⟨rfl, ?_⟩)) ⟨⟨by show p + 1 ≤ _; omega, (grow_trans hW hb).trans hb5⟩, ?_, ?_, ?_, ?_⟩ (by show S.size - (p + 1) < S.size - p; omega)
        · exact (HI3.mono hb).kept hg5 (own_ne_it (hO.mono hb) (HI3.mono hb))
        · show Own _ _ _ _ _ _ ((bytesI S).take (p + 1))
          rw [bytesI_take S hlt]; exact hO5
        · exact (H.mono hb).grown hg5 (own_blk_ne' (hO.mono hb) (H.mono hb) (by decide))
        · show ¬ (32 : Int) ∈ (bytesI S).take (p + 1)
          rw [bytesI_take S hlt, List.mem_append]
          rintro (h | h)
          · exact hn h
          · simp at h; exact h32 h.symm
  · have hT : toldF r v = none := by unfold toldF; rw [if_neg hv]
    rw [hT]
    repeat' (first | (refine lw_pure rfl (pv_move rfl) ?_) | (refine lw_pure rfl (pv_assign rfl) ?_) | (refine is_cw ?_; first | (refine cw_seq ?_) | (refine cw_region ?_) | (refine cw_true rfl rfl ?_) | (refine cw_true rfl (by first | assumption | exact decide_eq_true (by omega) | exact dec_notT (by omega)) ?_) | (refine cw_ret ?_)) | (refine is_qw ?_; first | (with_reducible refine qw_then ?_) | (with_reducible refine qw_then_ret ?_)) | (refine lw_nil ?_) | (refine is_guarded ?_; first | (refine lw_on rfl rfl (by first | assumption | exact decide_eq_true (by omega) | exact decide_eq_false (by omega) | exact dec_notT (by omega) | exact dec_notF (by omega)) ?_) | (refine lw_not rfl rfl rfl (by first | assumption | exact decide_eq_true (by omega) | exact decide_eq_false (by omega) | exact dec_notT (by omega) | exact dec_notF (by omega)) ?_) | (refine lw_gs_f rfl rfl rfl (fun hc => ?_) (fun hc => ?_) <;> (first | replace hc := of_decide_eq_true hc | replace hc := of_decide_eq_false hc | replace hc := dec_nT hc | replace hc := dec_nF hc | skip) <;> (try (exfalso; omega)))) | ((refine is_bin ?_; first | (refine lw_pure rfl (pv_lss rfl rfl) ?_) | (refine lw_pure rfl (pv_gtr rfl rfl) ?_))) | (refine lw_pure rfl (pv_pick_t rfl (by first | assumption | exact decide_eq_true (by omega) | exact dec_notT (by omega)) rfl) ?_) | (refine lw_pure rfl (pv_pick_f rfl (by first | assumption | exact decide_eq_false (by omega) | exact dec_notF (by omega)) rfl) ?_))
    all_goals exact qw_ret3 rfl rfl rfl rfl ⟨⟨_, rfl, Own.nil _⟩, hw⟩
end Go.Proofs.YtkehmbgcglbffaaDoor
