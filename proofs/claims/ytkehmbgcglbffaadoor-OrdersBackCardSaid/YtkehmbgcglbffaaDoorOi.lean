/-
  Contract of layer 22's work: traded. Conditions: what stands in memory, as it names it.
-/
import Derived.Test.YtkehmbgcglbffaaDoorOh
namespace Go.Proofs.YtkehmbgcglbffaaDoor
open Go.RowKit Go.PlainAid

set_option maxRecDepth 20000 in
theorem zeroF_c (o : Opn) (w : World) : Calls Tryd.prog 50 #[.agg (encP o).toArray] w fun e w' => e = .returned (.bool (o.left == 0)) ∧ Below w.heap.size w w' := by
  have hE := Ext.refl w
  have hw := Below.refl w.heap.size w
  refine fn_enter 6 Tryd.func50 rfl rfl rfl ?_
  repeat' (first | (refine is_cw ?_; first | (refine cw_seq ?_) | (refine cw_region ?_)))
  refine lw_boxN rfl rfl (cs := encP o) rfl ?_; intro N1 wn hN HA hb
  replace hw := grow_trans hw hb
  clear hb
  replace hE := hE.mono hw; clear hw; have hw := Below.refl wn.heap.size wn
  repeat' (first | (refine lw_pure rfl (pv_assign rfl) ?_) | (refine is_cw ?_; first | (refine cw_seq ?_) | (refine cw_region ?_) | (refine cw_ret ?_)) | (refine is_qw ?_; first | (with_reducible refine qw_then ?_)) | (refine lw_nil ?_) | ((refine is_bin ?_; first | (refine lw_pure rfl (pv_eql rfl rfl) ?_))) | ((refine is_load ?_; first | (refine lw_pure rfl (pv_load (t1 rfl) rfl (by first | exact PT.ld0 (HA.mono hw) rfl | exact PT.ld (HA.mono hw) rfl)) ?_))) | ((refine is_fa ?_; first | (refine lw_pure rfl (pv_fa (tF rfl) rfl) ?_))))
  exact qw_ret1 rfl rfl ⟨ret_bool rfl, (hE.mono hw).b⟩
set_option maxRecDepth 20000 in
set_option maxHeartbeats 8000000 in
theorem traded_c {p : List Opn} {t : List Lt} {ev0 : Evt} {w0 w : World} {N m : Nat} {a : Option Addr} {c : Nat} {ns : List Int} {n0 n1 n3 : Int} {vo vt : Value} (hev : ev0.nums = ns) (hm : ns.length = m) (hx0 : ns[0]? = some n0) (hx1 : ns[1]? = some n1) (hx3 : ns[3]? = some n3) (hq : 1 ≤ n3 ∧ n3 ≤ 1048576) (hb0 : Below w0.heap.size w0 w) (hW : WkO w0.heap.size w N p t vo vt) (HN : SlR encI 1 w0 a c ns) (hnd : (p.map (·.id)).Nodup) (hpos : ∀ x ∈ p, 0 < x.left ∧ x.left ≤ 1048576) :
    Calls Tryd.prog 32 #[.pointer (some ⟨N, 0, none⟩), .slice a m c] w fun e w' => e = .returned (.int .i64 (tradedR p t ev0).2.2) ∧ ((tradedR p t ev0).2.2 = 0 → ∃ vo vt, WkO w0.heap.size w' N (tradedR p t ev0).1 (tradedR p t ev0).2.1 vo vt) ∧ Below w0.heap.size w0 w' := by
  subst hm
  have hlen : 3 < ns.length := (List.getElem?_eq_some_iff.1 hx3).1
  obtain ⟨HW, HO, HT, hNb⟩ := hW
  obtain ⟨ab, ao, rfl, -, -⟩ := HN.at (by intro h; rw [h] at hlen; simp at hlen)
  obtain ⟨oa, oc, rfl, HOs, hob⟩ := Own.slR encP_len HO
  have hn0 := nth_eq hev hx0
  have hn1 := nth_eq hev hx1
  have hn3 := nth_eq hev hx3
  have hR : tradedR p t ev0 = match findP p n0, findP p n1 with | some a, some b => if n0 = n1 ∨ a.left < n3 ∨ b.left < n3 then ([], [], 1) else (lessP (lessP p n0 n3) n1 n3, t, 0) | _, _ => ([], [], 5) := by
    unfold tradedR; rw [hn0, hn1, hn3]; rfl
  have HNw := HN.mono hb0
  have hw := Below.refl w.heap.size w
  refine fn_enter 94 Tryd.func32 rfl rfl rfl ?_
  repeat' (first | (refine lw_pure rfl (pv_assign rfl) ?_) | (refine is_cw ?_; first | (refine cw_seq ?_) | (refine cw_region ?_)) | (refine is_qw ?_; first | (with_reducible refine qw_then ?_)) | (refine lw_nil ?_))
  refine cw_drawn (fun w' => Below w.heap.size w w') (by kernel_rfl) (by repeat (first | exact NoPanic.body | with_reducible refine NoPanic.then ?_ | with_reducible refine NoPanic.inBlock ?_)) (fun hNP => ?_)
  have hS := hw.drew
  (refine aw_take 0 rfl (by kernel_rfl) (by kernel_rfl) (by kernel_rfl) hNP hS rfl (fun w' hq => pv_move rfl) ?_)
  (refine aw_take 1 rfl (by kernel_rfl) (by kernel_rfl) (by kernel_rfl) hNP hS rfl (fun w' hq => pv_nilp rfl) ?_)
  (refine aw_take 2 rfl (by kernel_rfl) (by kernel_rfl) (by kernel_rfl) hNP hS rfl (fun w' hq => pv_fa (tF rfl) rfl) ?_)
  (refine aw_take 3 rfl (by kernel_rfl) (by kernel_rfl) (by kernel_rfl) hNP hS rfl (fun w' hq => pv_load (t1 rfl) rfl (by first | exact PT.ld0 (HW.mono hq) rfl | exact PT.ld (HW.mono hq) rfl | exact SlR.ld (HNw.mono hq) hx0 rfl | exact SlR.ld1 (HNw.mono hq) hx0 rfl | exact SlR.ld (HNw.mono hq) hx1 rfl | exact SlR.ld1 (HNw.mono hq) hx1 rfl | exact SlR.ld (HNw.mono hq) hx3 rfl | exact SlR.ld1 (HNw.mono hq) hx3 rfl)) ?_)
  (refine aw_take 4 rfl (by kernel_rfl) (by kernel_rfl) (by kernel_rfl) hNP hS rfl (fun w' hq => pv_move rfl) ?_)
  (refine aw_take 5 rfl (by kernel_rfl) (by kernel_rfl) (by kernel_rfl) hNP hS rfl (fun w' hq => pv_ia (tS rfl) rfl rfl (by omega)) ?_)
  (refine aw_take 6 rfl (by kernel_rfl) (by kernel_rfl) (by kernel_rfl) hNP hS rfl (fun w' hq => pv_load (t1 rfl) rfl (by first | exact PT.ld0 (HW.mono hq) rfl | exact PT.ld (HW.mono hq) rfl | exact SlR.ld (HNw.mono hq) hx0 rfl | exact SlR.ld1 (HNw.mono hq) hx0 rfl | exact SlR.ld (HNw.mono hq) hx1 rfl | exact SlR.ld1 (HNw.mono hq) hx1 rfl | exact SlR.ld (HNw.mono hq) hx3 rfl | exact SlR.ld1 (HNw.mono hq) hx3 rfl)) ?_)
  (refine aw_take 8 rfl (by kernel_rfl) (by kernel_rfl) (by kernel_rfl) hNP hS rfl (fun w' hq => pv_move rfl) ?_)
  (refine aw_take 9 rfl (by kernel_rfl) (by kernel_rfl) (by kernel_rfl) hNP hS rfl (fun w' hq => pv_nilp rfl) ?_)
  (refine aw_take 10 rfl (by kernel_rfl) (by kernel_rfl) (by kernel_rfl) hNP hS rfl (fun w' hq => pv_fa (tF rfl) rfl) ?_)
  (refine aw_take 11 rfl (by kernel_rfl) (by kernel_rfl) (by kernel_rfl) hNP hS rfl (fun w' hq => pv_load (t1 rfl) rfl (by first | exact PT.ld0 (HW.mono hq) rfl | exact PT.ld (HW.mono hq) rfl | exact SlR.ld (HNw.mono hq) hx0 rfl | exact SlR.ld1 (HNw.mono hq) hx0 rfl | exact SlR.ld (HNw.mono hq) hx1 rfl | exact SlR.ld1 (HNw.mono hq) hx1 rfl | exact SlR.ld (HNw.mono hq) hx3 rfl | exact SlR.ld1 (HNw.mono hq) hx3 rfl)) ?_)
  (refine aw_take 12 rfl (by kernel_rfl) (by kernel_rfl) (by kernel_rfl) hNP hS rfl (fun w' hq => pv_move rfl) ?_)
  (refine aw_take 13 rfl (by kernel_rfl) (by kernel_rfl) (by kernel_rfl) hNP hS rfl (fun w' hq => pv_ia (tS rfl) rfl rfl (by omega)) ?_)
  (refine aw_take 14 rfl (by kernel_rfl) (by kernel_rfl) (by kernel_rfl) hNP hS rfl (fun w' hq => pv_load (t1 rfl) rfl (by first | exact PT.ld0 (HW.mono hq) rfl | exact PT.ld (HW.mono hq) rfl | exact SlR.ld (HNw.mono hq) hx0 rfl | exact SlR.ld1 (HNw.mono hq) hx0 rfl | exact SlR.ld (HNw.mono hq) hx1 rfl | exact SlR.ld1 (HNw.mono hq) hx1 rfl | exact SlR.ld (HNw.mono hq) hx3 rfl | exact SlR.ld1 (HNw.mono hq) hx3 rfl)) ?_)
  (refine aw_take 16 rfl (by kernel_rfl) (by kernel_rfl) (by kernel_rfl) hNP hS rfl (fun w' hq => pv_move rfl) ?_)
  (refine aw_take 17 rfl (by kernel_rfl) (by kernel_rfl) (by kernel_rfl) hNP hS rfl (fun w' hq => pv_ian (tS rfl) rfl rfl (by omega)) ?_)
  (refine aw_take 18 rfl (by kernel_rfl) (by kernel_rfl) (by kernel_rfl) hNP hS rfl (fun w' hq => pv_load (t1 rfl) rfl (by first | exact PT.ld0 (HW.mono hq) rfl | exact PT.ld (HW.mono hq) rfl | exact SlR.ld (HNw.mono hq) hx0 rfl | exact SlR.ld1 (HNw.mono hq) hx0 rfl | exact SlR.ld (HNw.mono hq) hx1 rfl | exact SlR.ld1 (HNw.mono hq) hx1 rfl | exact SlR.ld (HNw.mono hq) hx3 rfl | exact SlR.ld1 (HNw.mono hq) hx3 rfl)) ?_)
  refine aw_act 7 (by kernel_rfl) rfl rfl rfl ?_
  refine act_call (f := 46) (by kernel_rfl) rfl (at_c n0 rfl (HOs.mono hS)) ?_; rintro e1 w1 ⟨⟨i, rfl, hi⟩, hb1⟩; refine ⟨_, rfl, grow_trans hS hb1, fun hS => ?_⟩
  refine aw_act 15 (by kernel_rfl) rfl rfl rfl ?_
  refine act_call (f := 46) (by kernel_rfl) rfl (at_c n1 rfl (HOs.mono hS)) ?_; rintro e1 w1 ⟨⟨j, rfl, hj⟩, hb1⟩; refine ⟨_, rfl, grow_trans hS hb1, fun hS => ?_⟩
  (refine aw_take 19 rfl (by kernel_rfl) (by kernel_rfl) (by kernel_rfl) hNP hS rfl (fun w' hq => pv_assign rfl) ?_)
  (refine aw_take 20 rfl (by kernel_rfl) (by kernel_rfl) (by kernel_rfl) hNP hS rfl (fun w' hq => pv_assign rfl) ?_)
  (refine aw_take 21 rfl (by kernel_rfl) (by kernel_rfl) (by kernel_rfl) hNP hS rfl (fun w' hq => pv_assign rfl) ?_)
  refine aw_done (by kernel_rfl) ?_
  replace hw := hS; clear hS hNP
  have hb2 := grow_trans hb0 hw
  rcases hi with ⟨rfl, hi⟩ | ⟨i, r, rfl, hxi, hri, hi⟩
  · have hf : findP p n0 = none := find_none hi
    rw [hf] at hR
    rw [hR]
    rcases hj with ⟨rfl, hj⟩ | ⟨j, s, rfl, hxj, hrj, hj⟩
    all_goals repeat' (first | (refine lw_pure rfl (pv_move rfl) ?_) | (refine lw_pure rfl (pv_assign rfl) ?_) | (refine is_cw ?_; first | (refine cw_seq ?_) | (refine cw_region ?_) | (refine cw_true rfl rfl ?_) | (refine cw_block ?_) | (refine cw_ret ?_)) | (refine is_qw ?_; first | (with_reducible refine qw_then ?_) | (with_reducible refine qw_then_ret ?_) | (with_reducible refine qw_in_ret ?_)) | (refine lw_nil ?_) | (refine is_guarded ?_; first | (refine lw_not rfl rfl rfl rfl ?_)) | ((refine is_bin ?_; first | (refine lw_pure rfl (pv_lss rfl rfl) ?_))) | (refine lw_pure rfl (pv_pick_t rfl rfl rfl) ?_))
    all_goals exact qw_ret1 rfl rfl ⟨rfl, by simp, hb2⟩
  · have hf : findP p n0 = some r := find_at hxi hri hi
    have hrid : r.id = n0 := by simpa using hri
    rcases hj with ⟨rfl, hj⟩ | ⟨j, s, rfl, hxj, hrj, hj⟩
    · have hg : findP p n1 = none := find_none hj
      rw [hf, hg] at hR
      rw [hR]
      repeat' (first | (refine lw_pure rfl (pv_move rfl) ?_) | (refine lw_pure rfl (pv_assign rfl) ?_) | (refine is_cw ?_; first | (refine cw_seq ?_) | (refine cw_region ?_) | (refine cw_true rfl rfl ?_) | (refine cw_block ?_) | (refine cw_ret ?_)) | (refine is_qw ?_; first | (with_reducible refine qw_then ?_) | (with_reducible refine qw_then_ret ?_) | (with_reducible refine qw_in_ret ?_)) | (refine lw_nil ?_) | (refine is_guarded ?_; first | (refine lw_on rfl rfl rfl ?_)) | ((refine is_bin ?_; first | (refine lw_pure rfl (pv_lss rfl rfl) ?_))) | (refine lw_pure rfl (pv_pick_f rfl rfl rfl) ?_))
      all_goals exact qw_ret1 rfl rfl ⟨rfl, by simp, hb2⟩
    · have hg : findP p n1 = some s := find_at hxj hrj hj
      have hsid : s.id = n1 := by simpa using hrj
      rw [hf, hg] at hR
      dsimp only at hR
      rw [hR]
      have hlti : i < p.length := (List.getElem?_eq_some_iff.1 hxi).1
      have hltj : j < p.length := (List.getElem?_eq_some_iff.1 hxj).1
      have hij : i = j ↔ n0 = n1 := by
        constructor
        · rintro rfl; rw [hxi] at hxj; injection hxj with hxj; subst hxj; rw [← hrid, ← hsid]
        · intro e
          have hrs : r = s := inj_of_nodup hnd (List.mem_of_getElem? hxi) (List.mem_of_getElem? hxj) (by rw [hrid, hsid, e])
          subst hrs
          have h1 : (p.map (·.id))[i]? = some r.id := by rw [List.getElem?_map, hxi]; rfl
          have h2 : (p.map (·.id))[j]? = some r.id := by rw [List.getElem?_map, hxj]; rfl
          rcases Nat.lt_trichotomy i j with h3 | h3 | h3
          · exact absurd rfl (pwg_get (List.nodup_iff_pairwise_ne.1 hnd) h3 h1 h2)
          · exact h3
          · exact absurd rfl (pwg_get (List.nodup_iff_pairwise_ne.1 hnd) h3 h2 h1)
      obtain ⟨ob, oo, rfl, -, -⟩ := HOs.at (by intro h; rw [h] at hlti; simp at hlti)
      obtain ⟨hob1, hob2⟩ := hob _ rfl
      simp only at hob1 hob2; subst hob2
      have hrl := hpos r (List.mem_of_getElem? hxi)
      have hsl := hpos s (List.mem_of_getElem? hxj)
      have HOw := HOs
      by_cases hbad : n0 = n1 ∨ r.left < n3 ∨ s.left < n3
      · rw [if_pos hbad]
        repeat' (first | (refine lw_pure rfl (pv_move rfl) ?_) | (refine lw_pure rfl (pv_assign rfl) ?_) | (refine is_cw ?_; first | (refine cw_seq ?_) | (refine cw_region ?_) | (refine cw_true rfl rfl ?_) | (refine cw_false rfl rfl ?_) | (refine cw_true rfl (by first | assumption | exact decide_eq_true (by omega) | exact dec_notT (by omega)) ?_) | (refine cw_block ?_) | (refine cw_ret ?_)) | (refine is_qw ?_; first | (with_reducible refine qw_then ?_) | (with_reducible refine qw_then_ret ?_) | (with_reducible refine qw_in_ret ?_)) | (refine lw_nil ?_) | (refine is_guarded ?_; first | (refine lw_not rfl rfl rfl rfl ?_) | (refine lw_on rfl rfl rfl ?_) | (refine lw_on rfl rfl (by first | assumption | exact decide_eq_true (by omega) | exact decide_eq_false (by omega) | exact dec_notT (by omega) | exact dec_notF (by omega)) ?_) | (refine lw_not rfl rfl rfl (by first | assumption | exact decide_eq_true (by omega) | exact decide_eq_false (by omega) | exact dec_notT (by omega) | exact dec_notF (by omega)) ?_) | (refine lw_gs_f rfl rfl rfl (fun hc => ?_) (fun hc => ?_) <;> (first | replace hc := of_decide_eq_true hc | replace hc := of_decide_eq_false hc | replace hc := dec_nT hc | replace hc := dec_nF hc | skip) <;> (try (exfalso; omega)))) | ((refine is_bin ?_; first | (refine lw_pure rfl (pv_lss rfl rfl) ?_) | (refine lw_pure rfl (pv_eql rfl rfl) ?_) | (refine lw_pure rfl (pv_gtr rfl rfl) ?_))) | ((refine is_load ?_; first | (refine lw_pure rfl (pv_load (t1 rfl) rfl (by first | exact PT.ld0 (HW.mono hw) rfl | exact PT.ld (HW.mono hw) rfl | exact SlR.ld (HOw.mono hw) hxi rfl | exact SlR.ld1 (HOw.mono hw) hxi rfl | exact SlR.ld (HOw.mono hw) hxj rfl | exact SlR.ld1 (HOw.mono hw) hxj rfl)) ?_))) | ((refine is_fa ?_; first | (refine lw_pure rfl (pv_fa (tF rfl) rfl) ?_))) | ((refine is_ia ?_; first | (refine lw_pure rfl (pv_ian (tS rfl) rfl rfl (by omega)) ?_))) | (refine lw_pure rfl (pv_pick_t rfl rfl rfl) ?_) | (refine lw_pure rfl (pv_pick_f rfl rfl rfl) ?_) | (refine lw_pure rfl (pv_pick_t rfl (by first | assumption | exact decide_eq_true (by omega) | exact dec_notT (by omega)) rfl) ?_) | (refine lw_pure rfl (pv_pick_f rfl (by first | assumption | exact decide_eq_false (by omega) | exact dec_notF (by omega)) rfl) ?_) | (refine lw_pure rfl (pv_nilp rfl) ?_))
        all_goals first | (exfalso; omega) | exact qw_ret1 rfl rfl ⟨rfl, by simp, hb2⟩
      · rw [if_neg hbad]
        have hne : ¬ i = j := fun e => hbad (Or.inl (hij.1 e))
        have hg1 : ¬ r.left < n3 := fun e => hbad (Or.inr (Or.inl e))
        have hg2 : ¬ s.left < n3 := fun e => hbad (Or.inr (Or.inr e))
        repeat' (first | (refine lw_pure rfl (pv_move rfl) ?_) | (refine lw_pure rfl (pv_assign rfl) ?_) | (refine is_cw ?_; first | (refine cw_seq ?_) | (refine cw_region ?_) | (refine cw_false rfl rfl ?_) | (refine cw_false rfl (by first | assumption | exact decide_eq_false (by omega) | exact dec_notF (by omega)) ?_) | (refine cw_skip ?_) | (refine cw_block ?_)) | (refine is_qw ?_; first | (with_reducible refine qw_then ?_) | (with_reducible refine qw_in ?_)) | (refine lw_nil ?_) | (refine is_guarded ?_; first | (refine lw_on rfl rfl rfl ?_) | (refine lw_on rfl rfl (by first | assumption | exact decide_eq_true (by omega) | exact decide_eq_false (by omega) | exact dec_notT (by omega) | exact dec_notF (by omega)) ?_)) | ((refine is_bin ?_; first | (refine lw_pure rfl (pv_lss rfl rfl) ?_) | (refine lw_pure rfl (pv_eql rfl rfl) ?_) | (refine lw_pure rfl (pv_gtr rfl rfl) ?_) | (refine lw_pure rfl (pv_sub rfl rfl (by omega)) ?_))) | ((refine is_load ?_; first | (refine lw_pure rfl (pv_load (t1 rfl) rfl (by first | exact PT.ld0 (HW.mono hw) rfl | exact PT.ld (HW.mono hw) rfl | exact SlR.ld (HOw.mono hw) hxi rfl | exact SlR.ld1 (HOw.mono hw) hxi rfl | exact SlR.ld (HOw.mono hw) hxj rfl | exact SlR.ld1 (HOw.mono hw) hxj rfl)) ?_))) | ((refine is_fa ?_; first | (refine lw_pure rfl (pv_fa (tF rfl) rfl) ?_))) | ((refine is_ia ?_; first | (refine lw_pure rfl (pv_ian (tS rfl) rfl rfl (by omega)) ?_))) | (refine lw_pure rfl (pv_pick_f rfl rfl rfl) ?_) | (refine lw_pure rfl (pv_pick_f rfl (by first | assumption | exact decide_eq_false (by omega) | exact dec_notF (by omega)) rfl) ?_) | (refine lw_pure rfl (pv_nilp rfl) ?_))
        refine lw_storeF (i := i) (f := 5) (u := { r with left := r.left - n3 }) encP_len (tZ rfl) rfl (by omega) rfl rfl (HO.mono hw) hxi rfl (by omega) ?_; intro w3 hO3 hg3 hz3
        have HW3 := (HW.mono hw).grown hg3 (own_pt_ne (HO.mono hw) (HW.mono hw) (by decide))
        have hT3 := (HT.mono hw).kept hg3 (own_ne_T (HT.mono hw) (HO.mono hw) (by decide))
        have hb3 := hb2.grown hg3 hb2.size (by intro q hq; injection hq with hq; omega)
        have hl3 : (p.set i { r with left := r.left - n3 }).length = p.length := List.length_set
        rw [← hl3] at hO3
        obtain ⟨a3, c3, hv3, HO3, -⟩ := Own.slR encP_len hO3
        injection hv3 with hv31 _ hv33; subst hv31 hv33
        have hxj3 : (p.set i { r with left := r.left - n3 })[j]? = some s := by rw [List.getElem?_set, if_neg hne]; exact hxj
        have hltj3 : j < (p.set i { r with left := r.left - n3 }).length := by omega
        clear hw
        have hw := Below.refl w3.heap.size w3
        repeat' (first | (refine lw_pure rfl (pv_move rfl) ?_) | (refine is_cw ?_; first | (refine cw_seq ?_) | (refine cw_region ?_)) | (refine is_qw ?_; first | (with_reducible refine qw_then ?_)) | (refine lw_nil ?_) | ((refine is_bin ?_; first | (refine lw_pure rfl (pv_sub rfl rfl (by omega)) ?_))) | ((refine is_load ?_; first | (refine lw_pure rfl (pv_load (t1 rfl) rfl (by first | exact PT.ld0 (HW3.mono hw) rfl | exact PT.ld (HW3.mono hw) rfl | exact SlR.ld (HO3.mono hw) hxj3 rfl | exact SlR.ld1 (HO3.mono hw) hxj3 rfl)) ?_))) | ((refine is_fa ?_; first | (refine lw_pure rfl (pv_fa (tF rfl) rfl) ?_))) | ((refine is_ia ?_; first | (refine lw_pure rfl (pv_ian (tS rfl) rfl rfl (by omega)) ?_))) | (refine lw_pure rfl (pv_nilp rfl) ?_))
        refine lw_storeF (i := j) (f := 5) (u := { s with left := s.left - n3 }) encP_len (tZ rfl) rfl (by omega) rfl rfl hO3 hxj3 rfl (by omega) ?_; intro w4 hO4 hg4 hz4
        have HW4 := HW3.grown hg4 (own_pt_ne hO3 HW3 (by decide))
        have hT4 := hT3.kept hg4 (own_ne_T hT3 hO3 (by decide))
        have hb4 := hb3.grown hg4 hb3.size (by intro q hq; injection hq with hq; omega)
        have hl4 : ((p.set i { r with left := r.left - n3 }).set j { s with left := s.left - n3 }).length = (p.set i { r with left := r.left - n3 }).length := List.length_set
        rw [← hl4] at hO4
        clear hw
        have hw := Below.refl w4.heap.size w4
        have hte := traded_eq (q := n3) hxi hxj hnd (fun x hx => (hpos x hx).1) (by rw [hrid, hsid]; exact fun e => hbad (Or.inl e)) (by omega) (by omega)
        repeat' (first | (refine lw_pure rfl (pv_move rfl) ?_) | (refine is_cw ?_; first | (refine cw_seq ?_) | (refine cw_region ?_)) | (refine is_qw ?_; first | (with_reducible refine qw_then ?_)) | (refine lw_nil ?_) | ((refine is_load ?_; first | (refine lw_pure rfl (pv_load (t1 rfl) rfl (by first | exact PT.ld0 (HW4.mono hw) rfl | exact PT.ld (HW4.mono hw) rfl)) ?_))) | ((refine is_fa ?_; first | (refine lw_pure rfl (pv_fa (tF rfl) rfl) ?_))) | (refine lw_pure rfl (pv_nilp rfl) ?_))
        rw [← hl3, ← hl4]
        refine lw_call (f := 49) (by kernel_rfl) rfl rfl (delfg_P w0.heap.size (fun o => o.left == 0) 50 #[] (by kernel_rfl) hb4.size (fun x _ w' _ => by simpa using zeroF_c x w') hO4) ?_; rintro e1 w5 ⟨⟨v', rfl, hO5⟩, hg5, hb5⟩; refine ⟨_, rfl, ?_⟩
        have HW5 := HW4.grown hg5 (own_pt_ne hO4 HW4 (by decide))
        have hT5 := hT4.kept hg5 (own_ne_T hT4 hO4 (by decide))
        have hb6 := hb4.trans hb5
        obtain ⟨va, vc, rfl, -, -⟩ := Own.slR encP_len hO5
        clear hw
        have hw := Below.refl w5.heap.size w5
        repeat' (first | ((refine is_fa ?_; first | (refine lw_pure rfl (pv_fa (tF rfl) rfl) ?_))) | (refine lw_pure rfl (pv_nilp rfl) ?_))
        refine lw_store HW5 (tZ rfl) rfl rfl rfl (by simp) ?_; intro w6 HW6 hg6 hz6
        have hO6 := hO5.kept hg6 (Or.inr (own_pt_ne hO5 HW5 (by decide)))
        have hT6 := hT5.kept hg6 (Or.inr (own_pt_ne hT5 HW5 (by decide)))
        have hb7 := hb6.grown hg6 hb6.size (by intro q hq; injection hq with hq; omega)
        have hw := Below.refl w6.heap.size w6
        repeat' (first | (refine lw_pure rfl (pv_assign rfl) ?_) | (refine is_cw ?_; first | (refine cw_seq ?_) | (refine cw_region ?_) | (refine cw_ret ?_)) | (refine is_qw ?_; first | (with_reducible refine qw_then ?_)) | (refine lw_nil ?_))
        refine qw_ret1 rfl rfl ⟨rfl, fun _ => ⟨_, _, ⟨HW6, ?_, hT6, hNb⟩⟩, hb7⟩
        rw [hte, hrid, hsid] at hO6 ⊢; exact hO6
end Go.Proofs.YtkehmbgcglbffaaDoor
