/-
  Part 4 of the texts of: StmtTells: its row and its card: whatever the input: true; the input reads as it did. Conditions: what the row prints (the table of functions reads as the program's text lays it).
-/
import Derived.Test.YtnffmbfdfhokeaaGreatDoorZK3
namespace Go.Proofs.YtnffmbfdfhokeaaGreatDoor
open Go.RowKit Go.PlainAid

set_option maxRecDepth 20000 in
theorem zeroF_c (o : Opn) (w : World) : Calls Tryz.prog 92 #[.agg (encP o).toArray] w fun e w' => e = .returned (.bool (o.left == 0)) ∧ Below w.heap.size w w' := by
  have hE := Ext.refl w
  have hw := Below.refl w.heap.size w
  refine fn_enter 6 Tryz.func92 rfl rfl rfl ?_
  repeat' (first | (refine is_cw ?_; first | (refine cw_seq ?_) | (refine cw_region ?_)))
  refine lw_boxN rfl rfl (cs := encP o) rfl ?_; intro N1 wn hN HA hb
  replace hw := grow_trans hw hb
  clear hb
  replace hE := hE.mono hw; clear hw; have hw := Below.refl wn.heap.size wn
  repeat' (first | (refine lw_pure rfl (pv_assign rfl) ?_) | (refine is_cw ?_; first | (refine cw_seq ?_) | (refine cw_region ?_) | (refine cw_ret ?_)) | (refine is_qw ?_; first | (with_reducible refine qw_then ?_)) | (refine lw_nil ?_) | ((refine is_bin ?_; first | (refine lw_pure rfl (pv_eql rfl rfl) ?_))) | ((refine is_load ?_; first | (refine lw_pure rfl (pv_load (t1 rfl) rfl (by first | exact PT.ld0 (HA.mono hw) rfl | exact PT.ld (HA.mono hw) rfl)) ?_))) | ((refine is_fa ?_; first | (refine lw_pure rfl (pv_fa (tF rfl) rfl) ?_))))
  exact qw_ret1 rfl rfl ⟨ret_bool rfl, (hE.mono hw).b⟩
set_option maxRecDepth 20000 in
set_option maxHeartbeats 8000000 in
theorem traded_c {p : List Opn} {t : List Lt} {ev0 : Evt} {w0 w : World} {N m : Nat} {a : Option Addr} {c : Nat} {ns : List Int} {n0 n1 n3 : Int} {vo vt : Value} (hev : ev0.nums = ns) (hm : ns.length = m) (hx0 : ns[0]? = some n0) (hx1 : ns[1]? = some n1) (hx3 : ns[3]? = some n3) (hq : 1 ≤ n3 ∧ n3 ≤ 1048576) (hb0 : Below w0.heap.size w0 w) (hW : WkO w0.heap.size w N p t vo vt) (HN : SlR encI 1 w0 a c ns) (hnd : (p.map (·.id)).Nodup) (hpos : ∀ x ∈ p, 0 < x.left ∧ x.left ≤ 1048576) :
    Calls Tryz.prog 67 #[.pointer (some ⟨N, 0, none⟩), .slice a m c] w fun e w' => e = .returned (.int .i64 (tradedR p t ev0).2.2) ∧ ((tradedR p t ev0).2.2 = 0 → ∃ vo vt, WkO w0.heap.size w' N (tradedR p t ev0).1 (tradedR p t ev0).2.1 vo vt) ∧ Below w0.heap.size w0 w' := by
  subst hm
  have hlen : 3 < ns.length := (List.getElem?_eq_some_iff.1 hx3).1
  obtain ⟨HW, HO, HT, hNb⟩ := hW
  obtain ⟨ab, ao, rfl, -, -⟩ := HN.at (by intro h; rw [h] at hlen; simp at hlen)
  obtain ⟨oa, oc, rfl, HOs, hob⟩ := Own.slR encP_len HO
  have hn0 := nth_eq hev hx0
  have hn1 := nth_eq hev hx1
  have hn3 := nth_eq hev hx3
  have hR : tradedR p t ev0 = match findP p n0, findP p n1 with | some a, some b => if n0 = n1 ∨ a.left < n3 ∨ b.left < n3 then ([], [], 1) else (lessP (lessP p n0 n3) n1 n3, t, 0) | _, _ => ([], [], 5) := by
    unfold tradedR; rw [hn0, hn1, hn3]; rfl
  have HNw := HN.mono hb0
  have hw := Below.refl w.heap.size w
  refine fn_enter 94 Tryz.func67 rfl rfl rfl ?_
  repeat' (first | (refine lw_pure rfl (pv_assign rfl) ?_) | (refine is_cw ?_; first | (refine cw_seq ?_) | (refine cw_region ?_)) | (refine is_qw ?_; first | (with_reducible refine qw_then ?_)) | (refine lw_nil ?_))
  refine cw_drawn (fun w' => Below w.heap.size w w') (by kernel_rfl) (by repeat (first | exact NoPanic.body | with_reducible refine NoPanic.then ?_ | with_reducible refine NoPanic.inBlock ?_)) (fun hNP => ?_)
  have hS := hw.drew
  (refine at0 0 rfl (fun w' hq => pv_move rfl) ?_)
  (refine at0 1 rfl (fun w' hq => pv_nilp rfl) ?_)
  (refine at0 2 rfl (fun w' hq => pv_fa (tF rfl) rfl) ?_)
  (refine at0 3 rfl (fun w' hq => pv_load (t1 rfl) rfl (by first | exact PT.ld0 (HW.mono hq) rfl | exact PT.ld (HW.mono hq) rfl | exact SlR.ld (HNw.mono hq) hx0 rfl | exact SlR.ld1 (HNw.mono hq) hx0 rfl | exact SlR.ld (HNw.mono hq) hx1 rfl | exact SlR.ld1 (HNw.mono hq) hx1 rfl | exact SlR.ld (HNw.mono hq) hx3 rfl | exact SlR.ld1 (HNw.mono hq) hx3 rfl)) ?_)
  (refine at0 4 rfl (fun w' hq => pv_move rfl) ?_)
  (refine at0 5 rfl (fun w' hq => pv_ia (tS rfl) rfl rfl (by omega)) ?_)
  (refine at0 6 rfl (fun w' hq => pv_load (t1 rfl) rfl (by first | exact PT.ld0 (HW.mono hq) rfl | exact PT.ld (HW.mono hq) rfl | exact SlR.ld (HNw.mono hq) hx0 rfl | exact SlR.ld1 (HNw.mono hq) hx0 rfl | exact SlR.ld (HNw.mono hq) hx1 rfl | exact SlR.ld1 (HNw.mono hq) hx1 rfl | exact SlR.ld (HNw.mono hq) hx3 rfl | exact SlR.ld1 (HNw.mono hq) hx3 rfl)) ?_)
  (refine at0 8 rfl (fun w' hq => pv_move rfl) ?_)
  (refine at0 9 rfl (fun w' hq => pv_nilp rfl) ?_)
  (refine at0 10 rfl (fun w' hq => pv_fa (tF rfl) rfl) ?_)
  (refine at0 11 rfl (fun w' hq => pv_load (t1 rfl) rfl (by first | exact PT.ld0 (HW.mono hq) rfl | exact PT.ld (HW.mono hq) rfl | exact SlR.ld (HNw.mono hq) hx0 rfl | exact SlR.ld1 (HNw.mono hq) hx0 rfl | exact SlR.ld (HNw.mono hq) hx1 rfl | exact SlR.ld1 (HNw.mono hq) hx1 rfl | exact SlR.ld (HNw.mono hq) hx3 rfl | exact SlR.ld1 (HNw.mono hq) hx3 rfl)) ?_)
  (refine at0 12 rfl (fun w' hq => pv_move rfl) ?_)
  (refine at0 13 rfl (fun w' hq => pv_ia (tS rfl) rfl rfl (by omega)) ?_)
  (refine at0 14 rfl (fun w' hq => pv_load (t1 rfl) rfl (by first | exact PT.ld0 (HW.mono hq) rfl | exact PT.ld (HW.mono hq) rfl | exact SlR.ld (HNw.mono hq) hx0 rfl | exact SlR.ld1 (HNw.mono hq) hx0 rfl | exact SlR.ld (HNw.mono hq) hx1 rfl | exact SlR.ld1 (HNw.mono hq) hx1 rfl | exact SlR.ld (HNw.mono hq) hx3 rfl | exact SlR.ld1 (HNw.mono hq) hx3 rfl)) ?_)
  (refine at0 16 rfl (fun w' hq => pv_move rfl) ?_)
  (refine at0 17 rfl (fun w' hq => pv_ian (tS rfl) rfl rfl (by omega)) ?_)
  (refine at0 18 rfl (fun w' hq => pv_load (t1 rfl) rfl (by first | exact PT.ld0 (HW.mono hq) rfl | exact PT.ld (HW.mono hq) rfl | exact SlR.ld (HNw.mono hq) hx0 rfl | exact SlR.ld1 (HNw.mono hq) hx0 rfl | exact SlR.ld (HNw.mono hq) hx1 rfl | exact SlR.ld1 (HNw.mono hq) hx1 rfl | exact SlR.ld (HNw.mono hq) hx3 rfl | exact SlR.ld1 (HNw.mono hq) hx3 rfl)) ?_)
  refine aw_act 7 (by kernel_rfl) rfl rfl rfl ?_
  refine act_call (f := 85) (by kernel_rfl) rfl (at_c n0 rfl (HOs.mono hS)) ?_; rintro e1 w1 ⟨⟨i, rfl, hi⟩, hb1⟩; refine ⟨_, rfl, grow_trans hS hb1, fun hS => ?_⟩
  refine aw_act 15 (by kernel_rfl) rfl rfl rfl ?_
  refine act_call (f := 85) (by kernel_rfl) rfl (at_c n1 rfl (HOs.mono hS)) ?_; rintro e1 w1 ⟨⟨j, rfl, hj⟩, hb1⟩; refine ⟨_, rfl, grow_trans hS hb1, fun hS => ?_⟩
  (refine at0 19 rfl (fun w' hq => pv_assign rfl) ?_)
  (refine at0 20 rfl (fun w' hq => pv_assign rfl) ?_)
  (refine at0 21 rfl (fun w' hq => pv_assign rfl) ?_)
  refine aw_done (by kernel_rfl) ?_
  replace hw := hS; clear hS hNP
  have hb2 := grow_trans hb0 hw
  rcases hi with ⟨rfl, hi⟩ | ⟨i, r, rfl, hxi, hri, hi⟩
  · have hf : findP p n0 = none := find_none hi
    rw [hf] at hR
    rw [hR]
    rcases hj with ⟨rfl, hj⟩ | ⟨j, s, rfl, hxj, hrj, hj⟩
    all_goals repeat' (first | (refine lw_pure rfl (pv_move rfl) ?_) | (refine lw_pure rfl (pv_assign rfl) ?_) | (refine is_cw ?_; first | (refine cw_seq ?_) | (refine cw_region ?_) | (refine cw_true rfl rfl ?_) | (refine cw_block ?_) | (refine cw_ret ?_)) | (refine is_qw ?_; first | (with_reducible refine qw_then ?_) | (with_reducible refine qw_then_ret ?_) | (with_reducible refine qw_in_ret ?_)) | (refine lw_nil ?_) | (refine is_guarded ?_; first | (refine lw_not rfl rfl rfl rfl ?_)) | ((refine is_bin ?_; first | (refine lw_pure rfl (pv_lss rfl rfl) ?_))) | (refine lw_pure rfl (pv_pick_t rfl rfl rfl) ?_))
    all_goals exact qw_ret1 rfl rfl ⟨rfl, by simp, hb2⟩
  · have hf : findP p n0 = some r := find_at hxi hri hi
    have hrid : r.id = n0 := by simpa using hri
    rcases hj with ⟨rfl, hj⟩ | ⟨j, s, rfl, hxj, hrj, hj⟩
    · have hg : findP p n1 = none := find_none hj
      rw [hf, hg] at hR
      rw [hR]
      repeat' (first | (refine lw_pure rfl (pv_move rfl) ?_) | (refine lw_pure rfl (pv_assign rfl) ?_) | (refine is_cw ?_; first | (refine cw_seq ?_) | (refine cw_region ?_) | (refine cw_true rfl rfl ?_) | (refine cw_block ?_) | (refine cw_ret ?_)) | (refine is_qw ?_; first | (with_reducible refine qw_then ?_) | (with_reducible refine qw_then_ret ?_) | (with_reducible refine qw_in_ret ?_)) | (refine lw_nil ?_) | (refine is_guarded ?_; first | (refine lw_on rfl rfl rfl ?_)) | ((refine is_bin ?_; first | (refine lw_pure rfl (pv_lss rfl rfl) ?_))) | (refine lw_pure rfl (pv_pick_f rfl rfl rfl) ?_))
      all_goals exact qw_ret1 rfl rfl ⟨rfl, by simp, hb2⟩
    · have hg : findP p n1 = some s := find_at hxj hrj hj
      have hsid : s.id = n1 := by simpa using hrj
      rw [hf, hg] at hR
      dsimp only at hR
      rw [hR]
      have hlti : i < p.length := (List.getElem?_eq_some_iff.1 hxi).1
      have hltj : j < p.length := (List.getElem?_eq_some_iff.1 hxj).1
      have hij : i = j ↔ n0 = n1 := by
        constructor
        · rintro rfl; rw [hxi] at hxj; injection hxj with hxj; subst hxj; rw [← hrid, ← hsid]
        · intro e
          have hrs : r = s := inj_of_nodup hnd (List.mem_of_getElem? hxi) (List.mem_of_getElem? hxj) (by rw [hrid, hsid, e])
          subst hrs
          have h1 : (p.map (·.id))[i]? = some r.id := by rw [List.getElem?_map, hxi]; rfl
          have h2 : (p.map (·.id))[j]? = some r.id := by rw [List.getElem?_map, hxj]; rfl
          rcases Nat.lt_trichotomy i j with h3 | h3 | h3
          · exact absurd rfl (pwg_get (List.nodup_iff_pairwise_ne.1 hnd) h3 h1 h2)
          · exact h3
          · exact absurd rfl (pwg_get (List.nodup_iff_pairwise_ne.1 hnd) h3 h2 h1)
      obtain ⟨ob, oo, rfl, -, -⟩ := HOs.at (by intro h; rw [h] at hlti; simp at hlti)
      obtain ⟨hob1, hob2⟩ := hob _ rfl
      simp only at hob1 hob2; subst hob2
      have hrl := hpos r (List.mem_of_getElem? hxi)
      have hsl := hpos s (List.mem_of_getElem? hxj)
      have HOw := HOs
      by_cases hbad : n0 = n1 ∨ r.left < n3 ∨ s.left < n3
      · rw [if_pos hbad]
        repeat' (first | (refine lw_pure rfl (pv_move rfl) ?_) | (refine lw_pure rfl (pv_assign rfl) ?_) | (refine is_cw ?_; first | (refine cw_seq ?_) | (refine cw_region ?_) | (refine cw_true rfl rfl ?_) | (refine cw_false rfl rfl ?_) | (refine cw_true rfl (by first | assumption | exact decide_eq_true (by omega) | exact dec_notT (by omega)) ?_) | (refine cw_block ?_) | (refine cw_ret ?_)) | (refine is_qw ?_; first | (with_reducible refine qw_then ?_) | (with_reducible refine qw_then_ret ?_) | (with_reducible refine qw_in_ret ?_)) | (refine lw_nil ?_) | (refine is_guarded ?_; first | (refine lw_not rfl rfl rfl rfl ?_) | (refine lw_on rfl rfl rfl ?_) | (refine lw_on rfl rfl (by first | assumption | exact decide_eq_true (by omega) | exact decide_eq_false (by omega) | exact dec_notT (by omega) | exact dec_notF (by omega)) ?_) | (refine lw_not rfl rfl rfl (by first | assumption | exact decide_eq_true (by omega) | exact decide_eq_false (by omega) | exact dec_notT (by omega) | exact dec_notF (by omega)) ?_) | (refine lw_gs_f rfl rfl rfl (fun hc => ?_) (fun hc => ?_) <;> (first | replace hc := of_decide_eq_true hc | replace hc := of_decide_eq_false hc | replace hc := dec_nT hc | replace hc := dec_nF hc | skip) <;> (try (exfalso; omega)))) | ((refine is_bin ?_; first | (refine lw_pure rfl (pv_lss rfl rfl) ?_) | (refine lw_pure rfl (pv_eql rfl rfl) ?_) | (refine lw_pure rfl (pv_gtr rfl rfl) ?_))) | ((refine is_load ?_; first | (refine lw_pure rfl (pv_load (t1 rfl) rfl (by first | exact PT.ld0 (HW.mono hw) rfl | exact PT.ld (HW.mono hw) rfl | exact SlR.ld (HOw.mono hw) hxi rfl | exact SlR.ld1 (HOw.mono hw) hxi rfl | exact SlR.ld (HOw.mono hw) hxj rfl | exact SlR.ld1 (HOw.mono hw) hxj rfl)) ?_))) | ((refine is_fa ?_; first | (refine lw_pure rfl (pv_fa (tF rfl) rfl) ?_))) | ((refine is_ia ?_; first | (refine lw_pure rfl (pv_ian (tS rfl) rfl rfl (by omega)) ?_))) | (refine lw_pure rfl (pv_pick_t rfl rfl rfl) ?_) | (refine lw_pure rfl (pv_pick_f rfl rfl rfl) ?_) | (refine lw_pure rfl (pv_pick_t rfl (by first | assumption | exact decide_eq_true (by omega) | exact dec_notT (by omega)) rfl) ?_) | (refine lw_pure rfl (pv_pick_f rfl (by first | assumption | exact decide_eq_false (by omega) | exact dec_notF (by omega)) rfl) ?_) | (refine lw_pure rfl (pv_nilp rfl) ?_))
        all_goals first | (exfalso; omega) | exact qw_ret1 rfl rfl ⟨rfl, by simp, hb2⟩
      · rw [if_neg hbad]
        have hne : ¬ i = j := fun e => hbad (Or.inl (hij.1 e))
        have hg1 : ¬ r.left < n3 := fun e => hbad (Or.inr (Or.inl e))
        have hg2 : ¬ s.left < n3 := fun e => hbad (Or.inr (Or.inr e))
        repeat' (first | (refine lw_pure rfl (pv_move rfl) ?_) | (refine lw_pure rfl (pv_assign rfl) ?_) | (refine is_cw ?_; first | (refine cw_seq ?_) | (refine cw_region ?_) | (refine cw_false rfl rfl ?_) | (refine cw_false rfl (by first | assumption | exact decide_eq_false (by omega) | exact dec_notF (by omega)) ?_) | (refine cw_skip ?_) | (refine cw_block ?_)) | (refine is_qw ?_; first | (with_reducible refine qw_then ?_) | (with_reducible refine qw_in ?_)) | (refine lw_nil ?_) | (refine is_guarded ?_; first | (refine lw_on rfl rfl rfl ?_) | (refine lw_on rfl rfl (by first | assumption | exact decide_eq_true (by omega) | exact decide_eq_false (by omega) | exact dec_notT (by omega) | exact dec_notF (by omega)) ?_)) | ((refine is_bin ?_; first | (refine lw_pure rfl (pv_lss rfl rfl) ?_) | (refine lw_pure rfl (pv_eql rfl rfl) ?_) | (refine lw_pure rfl (pv_gtr rfl rfl) ?_) | (refine lw_pure rfl (pv_sub rfl rfl (by omega)) ?_))) | ((refine is_load ?_; first | (refine lw_pure rfl (pv_load (t1 rfl) rfl (by first | exact PT.ld0 (HW.mono hw) rfl | exact PT.ld (HW.mono hw) rfl | exact SlR.ld (HOw.mono hw) hxi rfl | exact SlR.ld1 (HOw.mono hw) hxi rfl | exact SlR.ld (HOw.mono hw) hxj rfl | exact SlR.ld1 (HOw.mono hw) hxj rfl)) ?_))) | ((refine is_fa ?_; first | (refine lw_pure rfl (pv_fa (tF rfl) rfl) ?_))) | ((refine is_ia ?_; first | (refine lw_pure rfl (pv_ian (tS rfl) rfl rfl (by omega)) ?_))) | (refine lw_pure rfl (pv_pick_f rfl rfl rfl) ?_) | (refine lw_pure rfl (pv_pick_f rfl (by first | assumption | exact decide_eq_false (by omega) | exact dec_notF (by omega)) rfl) ?_) | (refine lw_pure rfl (pv_nilp rfl) ?_))
        refine lw_storeF (i := i) (f := 5) (u := { r with left := r.left - n3 }) encP_len (tZ rfl) rfl (by omega) rfl rfl (HO.mono hw) hxi rfl (by omega) ?_; intro w3 hO3 hg3 hz3
        have HW3 := (HW.mono hw).grown hg3 (own_pt_ne (HO.mono hw) (HW.mono hw) (by decide))
        have hT3 := (HT.mono hw).kept hg3 (own_ne_T (HT.mono hw) (HO.mono hw) (by decide))
        have hb3 := hb2.grown hg3 hb2.size (by intro q hq; injection hq with hq; omega)
        have hl3 : (p.set i { r with left := r.left - n3 }).length = p.length := List.length_set
        rw [← hl3] at hO3
        obtain ⟨a3, c3, hv3, HO3, -⟩ := Own.slR encP_len hO3
        injection hv3 with hv31 _ hv33; subst hv31 hv33
        have hxj3 : (p.set i { r with left := r.left - n3 })[j]? = some s := by rw [List.getElem?_set, if_neg hne]; exact hxj
        have hltj3 : j < (p.set i { r with left := r.left - n3 }).length := by omega
        clear hw
        have hw := Below.refl w3.heap.size w3
        repeat' (first | (refine lw_pure rfl (pv_move rfl) ?_) | (refine is_cw ?_; first | (refine cw_seq ?_) | (refine cw_region ?_)) | (refine is_qw ?_; first | (with_reducible refine qw_then ?_)) | (refine lw_nil ?_) | ((refine is_bin ?_; first | (refine lw_pure rfl (pv_sub rfl rfl (by omega)) ?_))) | ((refine is_load ?_; first | (refine lw_pure rfl (pv_load (t1 rfl) rfl (by first | exact PT.ld0 (HW3.mono hw) rfl | exact PT.ld (HW3.mono hw) rfl | exact SlR.ld (HO3.mono hw) hxj3 rfl | exact SlR.ld1 (HO3.mono hw) hxj3 rfl)) ?_))) | ((refine is_fa ?_; first | (refine lw_pure rfl (pv_fa (tF rfl) rfl) ?_))) | ((refine is_ia ?_; first | (refine lw_pure rfl (pv_ian (tS rfl) rfl rfl (by omega)) ?_))) | (refine lw_pure rfl (pv_nilp rfl) ?_))
        refine lw_storeF (i := j) (f := 5) (u := { s with left := s.left - n3 }) encP_len (tZ rfl) rfl (by omega) rfl rfl hO3 hxj3 rfl (by omega) ?_; intro w4 hO4 hg4 hz4
        have HW4 := HW3.grown hg4 (own_pt_ne hO3 HW3 (by decide))
        have hT4 := hT3.kept hg4 (own_ne_T hT3 hO3 (by decide))
        have hb4 := hb3.grown hg4 hb3.size (by intro q hq; injection hq with hq; omega)
        have hl4 : ((p.set i { r with left := r.left - n3 }).set j { s with left := s.left - n3 }).length = (p.set i { r with left := r.left - n3 }).length := List.length_set
        rw [← hl4] at hO4
        clear hw
        have hw := Below.refl w4.heap.size w4
        have hte := traded_eq (q := n3) hxi hxj hnd (fun x hx => (hpos x hx).1) (by rw [hrid, hsid]; exact fun e => hbad (Or.inl e)) (by omega) (by omega)
        repeat' (first | (refine lw_pure rfl (pv_move rfl) ?_) | (refine is_cw ?_; first | (refine cw_seq ?_) | (refine cw_region ?_)) | (refine is_qw ?_; first | (with_reducible refine qw_then ?_)) | (refine lw_nil ?_) | ((refine is_load ?_; first | (refine lw_pure rfl (pv_load (t1 rfl) rfl (by first | exact PT.ld0 (HW4.mono hw) rfl | exact PT.ld (HW4.mono hw) rfl)) ?_))) | ((refine is_fa ?_; first | (refine lw_pure rfl (pv_fa (tF rfl) rfl) ?_))) | (refine lw_pure rfl (pv_nilp rfl) ?_))
        rw [← hl3, ← hl4]
        refine lw_call (f := 91) (by kernel_rfl) rfl rfl (delfg_P w0.heap.size (fun o => o.left == 0) 92 #[] (by kernel_rfl) hb4.size (fun x _ w' _ => by simpa using zeroF_c x w') hO4) ?_; rintro e1 w5 ⟨⟨v', rfl, hO5⟩, hg5, hb5⟩; refine ⟨_, rfl, ?_⟩
        have HW5 := HW4.grown hg5 (own_pt_ne hO4 HW4 (by decide))
        have hT5 := hT4.kept hg5 (own_ne_T hT4 hO4 (by decide))
        have hb6 := hb4.trans hb5
        obtain ⟨va, vc, rfl, -, -⟩ := Own.slR encP_len hO5
        clear hw
        have hw := Below.refl w5.heap.size w5
        repeat' (first | ((refine is_fa ?_; first | (refine lw_pure rfl (pv_fa (tF rfl) rfl) ?_))) | (refine lw_pure rfl (pv_nilp rfl) ?_))
        refine lw_store HW5 (tZ rfl) rfl rfl rfl (by simp) ?_; intro w6 HW6 hg6 hz6
        have hO6 := hO5.kept hg6 (Or.inr (own_pt_ne hO5 HW5 (by decide)))
        have hT6 := hT5.kept hg6 (Or.inr (own_pt_ne hT5 HW5 (by decide)))
        have hb7 := hb6.grown hg6 hb6.size (by intro q hq; injection hq with hq; omega)
        have hw := Below.refl w6.heap.size w6
        repeat' (first | (refine lw_pure rfl (pv_assign rfl) ?_) | (refine is_cw ?_; first | (refine cw_seq ?_) | (refine cw_region ?_) | (refine cw_ret ?_)) | (refine is_qw ?_; first | (with_reducible refine qw_then ?_)) | (refine lw_nil ?_))
        refine qw_ret1 rfl rfl ⟨rfl, fun _ => ⟨_, _, ⟨HW6, ?_, hT6, hNb⟩⟩, hb7⟩
        rw [hte, hrid, hsid] at hO6 ⊢; exact hO6
end Go.Proofs.YtnffmbfdfhokeaaGreatDoor
namespace Go.Proofs.YtnffmbfdfhokeaaGreatDoor
open Go.RowKit Go.PlainAid Go.ChangeShapes Go.WideShapes Go.Maps

section
variable {κ ν : Type} [DecidableEq κ] {eK : κ → Value} {eV : ν → Value} {P : Program} {n : Nat} {l : Fr} {w : World} {B : Nat} {Q : Exit → Act → World → Prop} {ops : Array Oper} {os : List Oper} {d : Option Nat} {ty : TypeId} {pos : String} {af : Array Edge} {g : Option (Nat × Bool)} {T K V : TypeId} {x y z : Operand}
theorem lw_insertM (ht : P.underlying T = some (.map K V)) (E : KeyE P K eK) {m : List (κ × ν)} (k : κ) (v : ν) (hx : ev l x = some (.map (some B))) (hy : ev l y = some (eK k)) (hz : ev l z = some (eV v)) (h : Mp eK eV w B m)
    (hc : ∀ w', Mp eK eV w' B (putM m k v) → w.grownBy w' (some B) → w'.heap.size = w.heap.size → LW P n ops Q os l w') : LW P n ops Q (⟨none, .insert T x y z, ty, pos, af, none⟩ :: os) l w :=
  lw_skips (Φ := fun w' => Mp eK eV w' B (putM m k v) ∧ w.grownBy w' (some B) ∧ w'.heap.size = w.heap.size) (fun A hA => by
    obtain ⟨w', h1, h2⟩ := run_updateM (w := w) ht E h k v
    exact ⟨w', by simp [execOp, hA.ev hx, hA.ev hy, hA.ev hz, h1], h2⟩) fun w' ⟨h1, h2, h3⟩ => hc w' h1 h2 h3
end
def kU (q : Fin 256) : Value := .int .u8 (q.val : Int)
def vF (f : Option Nat) : Value := match f with | some f => .func (.func f) #[] #[] | none => .nilFunc
theorem keyU : KeyE Tryz.prog 5 kU := ⟨int_keyed Tryz.underlying5, fun q => ⟨_, keyOf_int_mk Tryz.underlying5 (by have := q.isLt; simp only [Lit.wf, Bool.and_eq_true, decide_eq_true_eq]; exact ⟨show (0 : Int) ≤ _ by omega, show _ ≤ (255 : Int) by omega⟩)⟩, fun a b h => by
  simp only [kU, Value.int.injEq, true_and] at h
  exact Fin.ext (by omega)⟩
theorem zF (w : World) : (zeroValue 81).run Tryz.prog w = .ok (vF none) w := by kernel_rfl
def doesM : List (Fin 256 × Option Nat) := [(11, some 65), (12, some 66), (13, some 67), (14, some 68), (16, some 68), (18, some 69), (19, some 69)]
set_option maxRecDepth 20000 in
set_option maxHeartbeats 1000000 in
theorem does_c (w : World) : Calls Tryz.prog 38 #[] w fun e w' => (∃ N, e = .returned (.map (some N)) ∧ Mp kU vF w' N doesM ∧ w.heap.size ≤ N) ∧ Below w.heap.size w w' := by
  have hW := Below.refl w.heap.size w
  refine fn_enter 3 Tryz.func38 rfl rfl rfl ?_
  have hw := Below.refl w.heap.size w
  repeat' (first | (refine lw_pure rfl (pv_assign rfl) ?_) | (refine is_cw ?_; first | (refine cw_seq ?_) | (refine cw_region ?_)) | (refine is_qw ?_; first | (with_reducible refine qw_then ?_)) | (refine lw_nil ?_))
  refine lw_makeMap kU vF rfl ?_; intro N w1 hN HM hb
  replace hW := hW.trans hb
  refine lw_insertM (eV := vF) Tryz.underlying83 keyU 11 (some 65) rfl rfl rfl HM ?_; clear HM; intro w1 HM hg hz; replace hW := hW.grown hg hW.size (by intro q hq; injection hq with hq; omega); clear hg hz
  refine lw_insertM (eV := vF) Tryz.underlying83 keyU 12 (some 66) rfl rfl rfl HM ?_; clear HM; intro w1 HM hg hz; replace hW := hW.grown hg hW.size (by intro q hq; injection hq with hq; omega); clear hg hz
  refine lw_insertM (eV := vF) Tryz.underlying83 keyU 13 (some 67) rfl rfl rfl HM ?_; clear HM; intro w1 HM hg hz; replace hW := hW.grown hg hW.size (by intro q hq; injection hq with hq; omega); clear hg hz
  refine lw_insertM (eV := vF) Tryz.underlying83 keyU 14 (some 68) rfl rfl rfl HM ?_; clear HM; intro w1 HM hg hz; replace hW := hW.grown hg hW.size (by intro q hq; injection hq with hq; omega); clear hg hz
  refine lw_insertM (eV := vF) Tryz.underlying83 keyU 16 (some 68) rfl rfl rfl HM ?_; clear HM; intro w1 HM hg hz; replace hW := hW.grown hg hW.size (by intro q hq; injection hq with hq; omega); clear hg hz
  refine lw_insertM (eV := vF) Tryz.underlying83 keyU 18 (some 69) rfl rfl rfl HM ?_; clear HM; intro w1 HM hg hz; replace hW := hW.grown hg hW.size (by intro q hq; injection hq with hq; omega); clear hg hz
  refine lw_insertM (eV := vF) Tryz.underlying83 keyU 19 (some 69) rfl rfl rfl HM ?_; clear HM; intro w1 HM hg hz; replace hW := hW.grown hg hW.size (by intro q hq; injection hq with hq; omega); clear hg hz
  clear hw
  have hw := Below.refl w1.heap.size w1
  repeat' (first | (refine lw_pure rfl (pv_move rfl) ?_) | (refine lw_pure rfl (pv_assign rfl) ?_) | (refine is_cw ?_; first | (refine cw_ret ?_)) | (refine is_qw ?_; first | (with_reducible refine qw_then ?_)) | (refine lw_nil ?_))
  exact qw_ret1 rfl rfl ⟨⟨N, rfl, HM, hN⟩, hW⟩
theorem fld11 : fieldsR 3 11 = some ({ data := #[111, 97, 105, 115, 112, 113] }, false) := by kernel_rfl
theorem fld12 : fieldsR 3 12 = some ({ data := #[111] }, false) := by kernel_rfl
theorem fld13 : fieldsR 3 13 = some ({ data := #[111, 111, 112, 113, 122] }, false) := by kernel_rfl
theorem fld14 : fieldsR 3 14 = some ({ data := #[99, 97, 105, 113, 109, 109, 116] }, false) := by kernel_rfl
theorem fld16 : fieldsR 3 16 = some ({ data := #[99, 97, 105, 113, 109, 116] }, false) := by kernel_rfl
theorem fld18 : fieldsR 3 18 = some ({ data := #[99, 97, 109, 122] }, false) := by kernel_rfl
theorem fld19 : fieldsR 3 19 = some ({ data := #[99] }, false) := by kernel_rfl
theorem nums11 {e : Evt} (h : mayE e = true) (hv : e.v = 3) (hk : e.kind = 11) : ∃ n0 n1 n2 n3 n4 n5, e.nums = [n0, n1, n2, n3, n4, n5] ∧ (1 ≤ n0 ∧ n0 ≤ 1099511627776) ∧ (1 ≤ n1 ∧ n1 ≤ 64) ∧ (1 ≤ n2 ∧ n2 ≤ 16) ∧ (1 ≤ n3 ∧ n3 ≤ 2) ∧ (1 ≤ n4 ∧ n4 ≤ 1073741824) ∧ (1 ≤ n5 ∧ n5 ≤ 1048576) := by
  have h1 : allR 3 [111, 97, 105, 115, 112, 113] e.nums = true := (may_nums h hv hk fld11).1
  obtain ⟨n0, r0, e0, f0, h1⟩ := all_cons h1
  obtain ⟨n1, r1, rfl, f1, h1⟩ := all_cons h1
  obtain ⟨n2, r2, rfl, f2, h1⟩ := all_cons h1
  obtain ⟨n3, r3, rfl, f3, h1⟩ := all_cons h1
  obtain ⟨n4, r4, rfl, f4, h1⟩ := all_cons h1
  obtain ⟨n5, r5, rfl, f5, h1⟩ := all_cons h1
  have h2 := all_nil h1; subst h2
  exact ⟨n0, n1, n2, n3, n4, n5, e0, fits_lo f0 bnd_o, fits_lo f1 bnd_a, fits_lo f2 bnd_i, fits_lo f3 bnd_s, fits_lo f4 bnd_p, fits_lo f5 bnd_q⟩
theorem nums12 {e : Evt} (h : mayE e = true) (hv : e.v = 3) (hk : e.kind = 12) : ∃ n0, e.nums = [n0] ∧ (1 ≤ n0 ∧ n0 ≤ 1099511627776) := by
  have h1 : allR 3 [111] e.nums = true := (may_nums h hv hk fld12).1
  obtain ⟨n0, r0, e0, f0, h1⟩ := all_cons h1
  have h2 := all_nil h1; subst h2
  exact ⟨n0, e0, fits_lo f0 bnd_o⟩
theorem nums13 {e : Evt} (h : mayE e = true) (hv : e.v = 3) (hk : e.kind = 13) : ∃ n0 n1 n2 n3 n4, e.nums = [n0, n1, n2, n3, n4] ∧ (1 ≤ n0 ∧ n0 ≤ 1099511627776) ∧ (1 ≤ n1 ∧ n1 ≤ 1099511627776) ∧ (1 ≤ n2 ∧ n2 ≤ 1073741824) ∧ (1 ≤ n3 ∧ n3 ≤ 1048576) ∧ (0 ≤ n4 ∧ n4 ≤ 1125899906842624) := by
  have h1 : allR 3 [111, 111, 112, 113, 122] e.nums = true := (may_nums h hv hk fld13).1
  obtain ⟨n0, r0, e0, f0, h1⟩ := all_cons h1
  obtain ⟨n1, r1, rfl, f1, h1⟩ := all_cons h1
  obtain ⟨n2, r2, rfl, f2, h1⟩ := all_cons h1
  obtain ⟨n3, r3, rfl, f3, h1⟩ := all_cons h1
  obtain ⟨n4, r4, rfl, f4, h1⟩ := all_cons h1
  have h2 := all_nil h1; subst h2
  exact ⟨n0, n1, n2, n3, n4, e0, fits_lo f0 bnd_o, fits_lo f1 bnd_o, fits_lo f2 bnd_p, fits_lo f3 bnd_q, fits_lo f4 bnd_z⟩
theorem nums14 {e : Evt} (h : mayE e = true) (hv : e.v = 3) (hk : e.kind = 14 ∨ e.kind = 16) : ∃ n0 n1 n2 n3 r, e.nums = n0 :: n1 :: n2 :: n3 :: r ∧ (1 ≤ n0 ∧ n0 ≤ 1099511627776) ∧ (1 ≤ n1 ∧ n1 ≤ 64) ∧ (1 ≤ n2 ∧ n2 ≤ 16) ∧ (1 ≤ n3 ∧ n3 ≤ 1048576) := by
  have key : ∃ cs, allR 3 (99 :: 97 :: 105 :: 113 :: cs) e.nums = true := by
    rcases hk with hk | hk
    · exact ⟨[109, 109, 116], (may_nums h hv hk fld14).1⟩
    · exact ⟨[109, 116], (may_nums h hv hk fld16).1⟩
  obtain ⟨cs, h1⟩ := key
  obtain ⟨n0, r0, e0, f0, h1⟩ := all_cons h1
  obtain ⟨n1, r1, rfl, f1, h1⟩ := all_cons h1
  obtain ⟨n2, r2, rfl, f2, h1⟩ := all_cons h1
  obtain ⟨n3, r3, rfl, f3, h1⟩ := all_cons h1
  exact ⟨n0, n1, n2, n3, r3, e0, fits_lo f0 bnd_c, fits_lo f1 bnd_a, fits_lo f2 bnd_i, fits_lo f3 bnd_q⟩
theorem nums18 {e : Evt} (h : mayE e = true) (hv : e.v = 3) (hk : e.kind = 18) : ∃ n0 n1 n2 n3, e.nums = [n0, n1, n2, n3] ∧ (1 ≤ n0 ∧ n0 ≤ 1099511627776) ∧ (1 ≤ n1 ∧ n1 ≤ 64) ∧ (1 ≤ n2 ∧ n2 ≤ 1125899906842624) ∧ (0 ≤ n3 ∧ n3 ≤ 1125899906842624) := by
  have h1 : allR 3 [99, 97, 109, 122] e.nums = true := (may_nums h hv hk fld18).1
  obtain ⟨n0, r0, e0, f0, h1⟩ := all_cons h1
  obtain ⟨n1, r1, rfl, f1, h1⟩ := all_cons h1
  obtain ⟨n2, r2, rfl, f2, h1⟩ := all_cons h1
  obtain ⟨n3, r3, rfl, f3, h1⟩ := all_cons h1
  have h2 := all_nil h1; subst h2
  exact ⟨n0, n1, n2, n3, e0, fits_lo f0 bnd_c, fits_lo f1 bnd_a, fits_lo f2 bnd_m, fits_lo f3 bnd_z⟩
theorem nums19 {e : Evt} (h : mayE e = true) (hv : e.v = 3) (hk : e.kind = 19) : ∃ n0, e.nums = [n0] ∧ (1 ≤ n0 ∧ n0 ≤ 1099511627776) := by
  have h1 : allR 3 [99] e.nums = true := (may_nums h hv hk fld19).1
  obtain ⟨n0, r0, e0, f0, h1⟩ := all_cons h1
  have h2 := all_nil h1; subst h2
  exact ⟨n0, e0, fits_lo f0 bnd_c⟩
def methR (k : Int) : Option Nat := if k = 11 then some 65 else if k = 12 then some 66 else if k = 13 then some 67 else if k = 14 ∨ k = 16 then some 68 else if k = 18 ∨ k = 19 then some 69 else none
set_option maxHeartbeats 1000000 in
theorem meth_c {p : List Opn} {t : List Lt} {ev0 : Evt} {w0 w : World} {N m F : Nat} {a : Option Addr} {c : Nat} {vo vt : Value} (hF : methR ev0.kind = some F) (hM : MayV p t) (hE : mayE ev0 = true) (hv : ev0.v = 3) (hm : ev0.nums.length = m) (hb0 : Below w0.heap.size w0 w) (hW : WkO w0.heap.size w N p t vo vt) (HN : SlR encI 1 w0 a c ev0.nums) :
    Calls Tryz.prog F #[.pointer (some ⟨N, 0, none⟩), .slice a m c] w fun e w' => e = .returned (.int .i64 (doneR p t ev0).2.2) ∧ ((doneR p t ev0).2.2 = 0 → ∃ vo vt, WkO w0.heap.size w' N (doneR p t ev0).1 (doneR p t ev0).2.1 vo vt) ∧ Below w0.heap.size w0 w' := by
  obtain ⟨⟨hl1, hl2⟩, hp1, ht1, hmo, hnd, hml⟩ := hM
  subst hm
  unfold methR at hF
  unfold doneR
  by_cases k1 : ev0.kind = 11
  · rw [if_pos k1] at hF ⊢
    injection hF with hF; subst hF
    obtain ⟨n0, n1, n2, n3, n4, n5, hn, h0, h1, h2, h3, h4, h5⟩ := nums11 hE hv k1
    rw [hn] at HN ⊢
    exact placed_c hn hb0 hW HN hp1 hl1 (by omega)
  rw [if_neg k1] at hF ⊢
  by_cases k2 : ev0.kind = 12
  · rw [if_pos k2] at hF ⊢
    injection hF with hF; subst hF
    obtain ⟨n0, hn, h0⟩ := nums12 hE hv k2
    rw [hn] at HN ⊢
    exact cancelled_c hn hb0 hW HN hnd (fun x hx => by have := hmo x hx; unfold MayO at this; omega) hl1
  rw [if_neg k2] at hF ⊢
  by_cases k3 : ev0.kind = 13
  · rw [if_pos k3] at hF ⊢
    injection hF with hF; subst hF
    obtain ⟨n0, n1, n2, n3, n4, hn, h0, h1, h2, h3, h4⟩ := nums13 hE hv k3
    exact traded_c rfl rfl (by rw [hn]; rfl) (by rw [hn]; rfl) (by rw [hn]; rfl) h3 hb0 hW HN hnd (fun x hx => by have := hmo x hx; unfold MayO at this; omega)
  rw [if_neg k3] at hF ⊢
  by_cases k4 : ev0.kind = 14 ∨ ev0.kind = 16
  · rw [if_pos k4] at hF ⊢
    injection hF with hF; subst hF
    obtain ⟨n0, n1, n2, n3, r, hn, h0, h1, h2, h3⟩ := nums14 hE hv k4
    exact opened_c rfl rfl (by rw [hn]; rfl) (by rw [hn]; rfl) (by rw [hn]; rfl) (by rw [hn]; rfl) hb0 hW HN ht1 hl2
  rw [if_neg k4] at hF ⊢
  by_cases k5 : ev0.kind = 18 ∨ ev0.kind = 19
  · rw [if_pos k5] at hF ⊢
    injection hF with hF; subst hF
    have key : ∃ n0, ev0.nums[0]? = some n0 := by
      rcases k5 with k5 | k5
      · obtain ⟨n0, n1, n2, n3, hn, _⟩ := nums18 hE hv k5; exact ⟨n0, by rw [hn]; rfl⟩
      · obtain ⟨n0, hn, _⟩ := nums19 hE hv k5; exact ⟨n0, by rw [hn]; rfl⟩
    obtain ⟨n0, hn⟩ := key
    exact gone_c rfl rfl hn hb0 hW HN ht1 hl2
  rw [if_neg k5] at hF; cases hF

theorem err_empty (p : List Opn) (t : List Lt) (e : Evt) : (doneR p t e).2.2 = 0 ∨ ((doneR p t e).1 = [] ∧ (doneR p t e).2.1 = []) := by
  unfold doneR placedR cancelR tradedR openedR goneR
  (repeat' split) <;> first | exact Or.inl rfl | exact Or.inr ⟨rfl, rfl⟩
theorem event_no {p : List Opn} {t : List Lt} {e : Evt} (h : ¬ (mayV p t = true ∧ e.v = 3 ∧ mayE e = true)) : eventR p t e = ([], [], 4) := by unfold eventR; rw [if_neg h]
theorem event_yes {p : List Opn} {t : List Lt} {e : Evt} (h : mayV p t = true ∧ e.v = 3 ∧ mayE e = true) : eventR p t e = doneR p t e := by unfold eventR; rw [if_pos h]
theorem mayV_e {p : List Opn} {t : List Lt} {m n : Nat} {a b : Option Addr} {ca cb : Nat} {r : Bool} {w : World} (h : mayV p t = r) (hm : p.length = m) (hn : t.length = n) (HP : SlR encP 6 w a ca p) (HL : SlR encL 4 w b cb t) : Calls Tryz.prog 26 #[.slice a m ca, .slice b n cb] w fun e w' => e = .returned (.bool r) ∧ Below w.heap.size w w' := by
  subst h; exact mayV_c hm hn HP HL
theorem mayE_e {e : Evt} {m n : Nat} {a b : Option Addr} {ca cb : Nat} {r : Bool} {w : World} (h : mayE e = r) (h8 : 0 ≤ e.kind ∧ e.kind ≤ 255) (hm : e.nums.length = m) (hn : e.texts.length = n) (HN : SlR encI 1 w a ca e.nums) (HT : SlR encT 1 w b cb e.texts) (hT : TxtIn e.texts) (hK : KnW w) : Calls Tryz.prog 27 #[.agg #[.int .u8 e.v, .int .u8 e.kind, .slice a m ca, .slice b n cb]] w fun e1 w' => e1 = .returned (.bool r) ∧ Below w.heap.size w w' := by
  subst h; exact mayE_c h8 hm hn HN HT hT hK
def keyOf8 (k : Int) (h : 0 ≤ k ∧ k ≤ 255) : Fin 256 := ⟨k.toNat, by omega⟩
theorem kU_of (k : Int) (h : 0 ≤ k ∧ k ≤ 255) : kU (keyOf8 k h) = .int .u8 k := by unfold kU keyOf8; congr 1; simp; omega
set_option maxRecDepth 20000 in
theorem does_at : (List.range 256).all (fun k => decide ((getM doesM (Fin.ofNat 256 k)) = (methR (k : Nat)).map some)) = true := by kernel_rfl
theorem does_get (k : Int) (h : 0 ≤ k ∧ k ≤ 255) : getM doesM (keyOf8 k h) = (methR k).map some := by
  have h1 := List.all_eq_true.1 does_at k.toNat (List.mem_range.2 (by omega))
  have h2 := of_decide_eq_true h1
  rw [show ((k.toNat : Nat) : Int) = k by omega] at h2
  rw [← h2]
  congr 1
  apply Fin.ext
  show k.toNat = k.toNat % 256
  omega
set_option maxRecDepth 20000 in
theorem meth_enters {k : Int} {F : Nat} (h : methR k = some F) : entersB Tryz.prog F = true := by
  unfold methR at h
  (repeat' split at h) <;> first | (injection h with h; subst h; kernel_rfl) | (cases h; done)
theorem done_none {p : List Opn} {t : List Lt} {e : Evt} (h : methR e.kind = none) : doneR p t e = (p, t, 0) := by
  unfold methR at h
  unfold doneR
  by_cases k1 : e.kind = 11
  · rw [if_pos k1] at h; cases h
  rw [if_neg k1] at h ⊢
  by_cases k2 : e.kind = 12
  · rw [if_pos k2] at h; cases h
  rw [if_neg k2] at h ⊢
  by_cases k3 : e.kind = 13
  · rw [if_pos k3] at h; cases h
  rw [if_neg k3] at h ⊢
  by_cases k4 : e.kind = 14 ∨ e.kind = 16
  · rw [if_pos k4] at h; cases h
  rw [if_neg k4] at h ⊢
  by_cases k5 : e.kind = 18 ∨ e.kind = 19
  · rw [if_pos k5] at h; cases h
  rw [if_neg k5]
theorem look_e {P : Program} {n : Nat} {l : Fr} {w : World} {d : Option Nat} {ty : TypeId} {pos : String} {af : Array Edge} {g : Option (Nat × Bool)} {T K V : TypeId} {x y : Operand} {B : Nat} {κ ν : Type} [DecidableEq κ] {eK : κ → Value} {eV : ν → Value} (ht : P.underlying T = some (.map K V)) (E : KeyE P K eK) {zv : ν} (hz : ∀ w, (zeroValue V).run P w = .ok (eV zv) w) {m : List (κ × ν)} {k : κ} {o : Option ν} (ho : getM m k = o) (hx : ev l x = some (.map (some B))) (hy : ev l y = some (eK k)) (h : Mp eK eV w B m) :
    Pv P n l ⟨d, .lookup T x y true, ty, pos, af, g⟩ (.tuple #[eV (o.getD zv), .bool o.isSome]) w := by subst ho; exact pv_lookupM_ok ht E hz hx hy h
set_option maxRecDepth 20000 in
set_option maxHeartbeats 8000000 in
theorem ev_c {p : List Opn} {t : List Lt} {e : Evt} {mp mt mn mx : Nat} {ap at_ an ax : Option Addr} {cp ct cn cx : Nat} {w : World} (h8 : 0 ≤ e.kind ∧ e.kind ≤ 255) (hmp : p.length = mp) (hmt : t.length = mt) (hmn : e.nums.length = mn) (hmx : e.texts.length = mx) (HP : SlR encP 6 w ap cp p) (HL : SlR encL 4 w at_ ct t) (HN : SlR encI 1 w an cn e.nums) (HX : SlR encT 1 w ax cx e.texts) (hT : TxtIn e.texts) (hK : KnW w) :
    Calls Tryz.prog 12 #[.slice ap mp cp, .slice at_ mt ct, .agg #[.int .u8 e.v, .int .u8 e.kind, .slice an mn cn, .slice ax mx cx]] w fun e1 w' => (∃ vo vt, e1 = .returned (.tuple #[vo, vt, .int .i64 (eventR p t e).2.2]) ∧ Own encP 6 69 w.heap.size w' vo (eventR p t e).1 ∧ Own encL 4 73 w.heap.size w' vt (eventR p t e).2.1) ∧ Below w.heap.size w w' := by
  subst hmp hmt hmn hmx
  have hw := Below.refl w.heap.size w
  refine fn_enter 57 Tryz.func12 rfl rfl rfl ?_
  repeat' (first | (refine is_cw ?_; first | (refine cw_seq ?_) | (refine cw_region ?_)))
  refine lw_boxN rfl rfl (cs := [.int .u8 e.v, .int .u8 e.kind, .slice an e.nums.length cn, .slice ax e.texts.length cx]) rfl ?_; intro NE w1 hNE H hb
  replace hw := grow_trans hw hb
  clear hb
  have hE := Ext.mk hw
  replace HP := HP.mono hw
  replace HL := HL.mono hw
  have HN1 := HN.mono hw
  replace HX := HX.mono hw
  replace hK := hK.mono hw
  have hw0 := hw
  clear hw
  have hw := Below.refl w1.heap.size w1
  by_cases hgood : mayV p t = true ∧ e.v = 3 ∧ mayE e = true
  · rw [event_yes hgood]
    obtain ⟨hg1, hg2, hg3⟩ := hgood
    have hM := mayV_iff.1 hg1
    have hl1 := hM.1
    repeat' (first | (refine lw_pure rfl (pv_move rfl) ?_) | (refine lw_pure rfl (pv_assign rfl) ?_) | (refine lw_call (f := 26) (by kernel_rfl) rfl rfl (mayV_e hg1 rfl rfl HP HL) ?_; rintro e w1 ⟨rfl, hb⟩; refine ⟨_, rfl, ?_⟩; replace hw := grow_trans hw hb; clear hb) | (refine lw_call (f := 27) (by kernel_rfl) rfl rfl (mayE_e hg3 h8 rfl rfl (HN1.mono hw) (HX.mono hw) hT (hK.mono hw)) ?_; rintro e w1 ⟨rfl, hb⟩; refine ⟨_, rfl, ?_⟩; replace hw := grow_trans hw hb; clear hb) | (refine is_cw ?_; first | (refine cw_seq ?_) | (refine cw_region ?_) | (refine cw_false rfl rfl ?_) | (refine cw_skip ?_)) | (refine is_qw ?_; first | (with_reducible refine qw_then ?_)) | (refine lw_nil ?_) | (refine is_guarded ?_; first | (refine lw_on rfl rfl rfl ?_) | (refine lw_on rfl rfl (by first | assumption | exact decide_eq_true (by omega) | exact decide_eq_false (by omega) | exact dec_notT (by omega) | exact dec_notF (by omega)) ?_)) | ((refine is_bin ?_; first | (refine lw_pure rfl (pv_neq rfl rfl) ?_))) | ((refine is_load ?_; first | (refine lw_pure rfl (pv_load (t1 rfl) rfl (by first | exact PT.ld0 (H.mono hw) rfl | exact PT.ld (H.mono hw) rfl)) ?_) | (refine lw_pure rfl (pv_loada (tA rfl) rfl (by first | exact PT.lda (H.mono hw)) (by rfl)) ?_))) | ((refine is_fa ?_; first | (refine lw_pure rfl (pv_fa (tF rfl) rfl) ?_))) | ((refine is_un ?_; first | (refine lw_pure rfl (pv_not rfl) ?_))) | (refine lw_pure rfl (pv_pick_f rfl rfl rfl) ?_) | (refine lw_pure rfl (pv_pick_f rfl (by first | assumption | exact decide_eq_false (by omega) | exact dec_notF (by omega)) rfl) ?_))
    refine lw_call (f := 36) (by kernel_rfl) rfl rfl (clone_P rfl (HP.mono hw) (by omega)) ?_; rintro e1 w2 ⟨⟨vo, rfl, hO⟩, hb⟩; refine ⟨_, rfl, ?_⟩
    have hz1 := hw.size
    have hze := hE.le
    replace hw := grow_trans hw hb
    replace hO := hO.weaken (Nat.le_trans hze hz1)
    obtain ⟨oa, oc, rfl, -, -⟩ := Own.slR encP_len hO
    clear hb
    repeat' (first | (refine lw_pure rfl (pv_move rfl) ?_))
    refine lw_call (f := 37) (by kernel_rfl) rfl rfl (clone_L rfl (HL.mono hw) (by omega)) ?_; rintro e1 w3 ⟨⟨vt, rfl, hTt⟩, hb⟩; refine ⟨_, rfl, ?_⟩
    have hz2 := hw.size
    replace hw := grow_trans hw hb
    replace hO := hO.mono hb
    replace hTt := hTt.weaken (Nat.le_trans hze hz2)
    obtain ⟨ta, tc, rfl, -, -⟩ := Own.slR encL_len hTt
    clear hb
    repeat' (first | ((refine is_bd ?_; first | (refine lw_pure rfl (tyB_80 rfl rfl rfl) ?_))))
    refine lw_boxN rfl rfl (cs := [.slice oa p.length oc, .slice ta t.length tc]) rfl ?_; intro NW w4 hNW HW hb
    have hz3 := hw.size
    replace hw := grow_trans hw hb
    replace hO := hO.mono hb
    replace hTt := hTt.mono hb
    clear hb
    have hb0 := grow_trans hw0 hw
    have hWk : WkO w.heap.size w4 NW p t (.slice oa p.length oc) (.slice ta t.length tc) := ⟨HW, hO, hTt, by omega⟩
    replace H := H.mono hw
    clear hw
    have hw := Below.refl w4.heap.size w4
    repeat' (first | (refine lw_pure rfl (pv_assign rfl) ?_) | (refine is_cw ?_; first | (refine cw_seq ?_)) | (refine is_qw ?_; first | (with_reducible refine qw_then ?_)) | (refine lw_nil ?_))
    cases hmr : methR e.kind with
    | none =>
      have hget : getM doesM (keyOf8 e.kind h8) = none := by rw [does_get, hmr]; rfl
      rw [done_none hmr]
      refine cw_drawn (fun w' => Below w4.heap.size w4 w') (by kernel_rfl) (by repeat (first | exact NoPanic.body | with_reducible refine NoPanic.then ?_ | with_reducible refine NoPanic.inBlock ?_)) (fun hNP => ?_)
      have hS := hw.drew
      (refine at0 1 rfl (fun w' hq => pv_fa (tF rfl) rfl) ?_)
      (refine at0 2 rfl (fun w' hq => pv_load (t1 rfl) rfl (by first | exact PT.ld0 (H.mono hq) rfl | exact PT.ld (H.mono hq) rfl)) ?_)
      refine aw_act 0 (by kernel_rfl) rfl rfl rfl ?_
      refine act_call (f := 38) (by kernel_rfl) rfl (does_c _) ?_; rintro e1 w5 ⟨⟨NM, rfl, HM, hNM⟩, hb5⟩; refine ⟨_, rfl, grow_trans hS hb5, fun hS => ?_⟩
      refine aw_act 3 (by kernel_rfl) rfl rfl rfl ?_
      refine act_pv (look_e (k := keyOf8 e.kind h8) Tryz.underlying83 keyU zF hget rfl (by rw [kU_of]; rfl) HM) ?_; refine ⟨hS, fun hS => ?_⟩
      (refine at0 4 rfl (fun w' hq => pv_move rfl) ?_)
      (refine at0 5 rfl (fun w' hq => pv_extract rfl rfl) ?_)
      (refine at0 6 rfl (fun w' hq => pv_extract rfl rfl) ?_)
      (refine at0 7 rfl (fun w' hq => pv_assign rfl) ?_)
      (refine at0 8 rfl (fun w' hq => pv_assign rfl) ?_)
      refine aw_done (by kernel_rfl) ?_
      replace hw := hS; clear hS hNP
      repeat' (first | (refine lw_pure rfl (pv_move rfl) ?_) | (refine is_cw ?_; first | (refine cw_seq ?_) | (refine cw_region ?_) | (refine cw_false rfl rfl ?_) | (refine cw_skip ?_)) | (refine is_qw ?_; first | (with_reducible refine qw_then ?_)) | (refine lw_nil ?_))
      refine cw_drawn (fun w' => Below w4.heap.size w4 w') (by kernel_rfl) (by repeat (first | exact NoPanic.body | with_reducible refine NoPanic.then ?_ | with_reducible refine NoPanic.inBlock ?_)) (fun hNP => ?_)
      have hS := hw.drew
      (refine at0 0 rfl (fun w' hq => pv_move rfl) ?_)
      (refine at0 1 rfl (fun w' hq => pv_nilp rfl) ?_)
      (refine at0 2 rfl (fun w' hq => pv_fa (tF rfl) rfl) ?_)
      (refine at0 3 rfl (fun w' hq => pv_load (t1 rfl) rfl (by first | exact PT.ld0 (HW.mono hq) rfl | exact PT.ld (HW.mono hq) rfl)) ?_)
      (refine at0 4 rfl (fun w' hq => pv_move rfl) ?_)
      (refine at0 5 rfl (fun w' hq => pv_nilp rfl) ?_)
      (refine at0 6 rfl (fun w' hq => pv_fa (tF rfl) rfl) ?_)
      (refine at0 7 rfl (fun w' hq => pv_load (t1 rfl) rfl (by first | exact PT.ld0 (HW.mono hq) rfl | exact PT.ld (HW.mono hq) rfl)) ?_)
      (refine at0 8 rfl (fun w' hq => pv_assign rfl) ?_)
      (refine at0 9 rfl (fun w' hq => pv_assign rfl) ?_)
      (refine at0 10 rfl (fun w' hq => pv_assign rfl) ?_)
      refine aw_done (by kernel_rfl) ?_
      replace hw := hS; clear hS hNP
      have hbz := grow_trans hb0 hw
      repeat' (first | (refine is_cw ?_; first | (refine cw_ret ?_)) | (refine is_qw ?_; first | (with_reducible refine qw_then ?_)))
      exact qw_ret3 rfl rfl rfl rfl ⟨⟨_, _, rfl, hO.mono hw, hTt.mono hw⟩, hbz⟩
    | some F =>
      have hget : getM doesM (keyOf8 e.kind h8) = some (some F) := by rw [does_get, hmr]; rfl
      refine cw_drawn (fun w' => Below w4.heap.size w4 w') (by kernel_rfl) (by repeat (first | exact NoPanic.body | with_reducible refine NoPanic.then ?_ | with_reducible refine NoPanic.inBlock ?_)) (fun hNP => ?_)
      have hS := hw.drew
      (refine at0 1 rfl (fun w' hq => pv_fa (tF rfl) rfl) ?_)
      (refine at0 2 rfl (fun w' hq => pv_load (t1 rfl) rfl (by first | exact PT.ld0 (H.mono hq) rfl | exact PT.ld (H.mono hq) rfl)) ?_)
      refine aw_act 0 (by kernel_rfl) rfl rfl rfl ?_
      refine act_call (f := 38) (by kernel_rfl) rfl (does_c _) ?_; rintro e1 w5 ⟨⟨NM, rfl, HM, hNM⟩, hb5⟩; refine ⟨_, rfl, grow_trans hS hb5, fun hS => ?_⟩
      refine aw_act 3 (by kernel_rfl) rfl rfl rfl ?_
      refine act_pv (look_e (k := keyOf8 e.kind h8) Tryz.underlying83 keyU zF hget rfl (by rw [kU_of]; rfl) HM) ?_; refine ⟨hS, fun hS => ?_⟩
      (refine at0 4 rfl (fun w' hq => pv_move rfl) ?_)
      (refine at0 5 rfl (fun w' hq => pv_extract rfl rfl) ?_)
      (refine at0 6 rfl (fun w' hq => pv_extract rfl rfl) ?_)
      (refine at0 7 rfl (fun w' hq => pv_assign rfl) ?_)
      (refine at0 8 rfl (fun w' hq => pv_assign rfl) ?_)
      refine aw_done (by kernel_rfl) ?_
      replace hw := hS; clear hS hNP
      repeat' (first | (refine lw_pure rfl (pv_move rfl) ?_) | (refine is_cw ?_; first | (refine cw_seq ?_) | (refine cw_region ?_) | (refine cw_true rfl rfl ?_)) | (refine is_qw ?_; first | (with_reducible refine qw_then ?_)) | (refine lw_nil ?_) | ((refine is_load ?_; first | (refine lw_pure rfl (pv_load (t1 rfl) rfl (by first | exact PT.ld0 (H.mono hw) rfl | exact PT.ld (H.mono hw) rfl)) ?_))) | ((refine is_fa ?_; first | (refine lw_pure rfl (pv_fa (tF rfl) rfl) ?_))))
      refine lw_callv (f := F) rfl (meth_enters hmr) rfl rfl (by simpa using meth_c hmr hM hg3 hg2 rfl (grow_trans hb0 hw) (hWk.mono hw) HN) ?_; rintro e1 w6 ⟨rfl, hpost, hb6⟩; refine ⟨_, rfl, ?_⟩
      clear hw
      have hw := Below.refl w6.heap.size w6
      by_cases h0 : (doneR p t e).2.2 = 0
      · obtain ⟨vo2, vt2, HW6, hO6, hT6, -⟩ := hpost h0
        repeat' (first | (refine lw_pure rfl (pv_move rfl) ?_) | (refine lw_pure rfl (pv_assign rfl) ?_) | (refine is_cw ?_; first | (refine cw_seq ?_) | (refine cw_region ?_) | (refine cw_false rfl (by first | assumption | exact decide_eq_false (by omega) | exact dec_notF (by omega)) ?_) | (refine cw_skip ?_)) | (refine is_qw ?_; first | (with_reducible refine qw_then ?_)) | (refine lw_nil ?_) | ((refine is_bin ?_; first | (refine lw_pure rfl (pv_neq rfl rfl) ?_))))
        refine cw_drawn (fun w' => Below w6.heap.size w6 w') (by kernel_rfl) (by repeat (first | exact NoPanic.body | with_reducible refine NoPanic.then ?_ | with_reducible refine NoPanic.inBlock ?_)) (fun hNP => ?_)
        have hS := hw.drew
        (refine at0 0 rfl (fun w' hq => pv_move rfl) ?_)
        (refine at0 1 rfl (fun w' hq => pv_nilp rfl) ?_)
        (refine at0 2 rfl (fun w' hq => pv_fa (tF rfl) rfl) ?_)
        (refine at0 3 rfl (fun w' hq => pv_load (t1 rfl) rfl (by first | exact PT.ld0 (HW6.mono hq) rfl | exact PT.ld (HW6.mono hq) rfl)) ?_)
        (refine at0 4 rfl (fun w' hq => pv_move rfl) ?_)
        (refine at0 5 rfl (fun w' hq => pv_nilp rfl) ?_)
        (refine at0 6 rfl (fun w' hq => pv_fa (tF rfl) rfl) ?_)
        (refine at0 7 rfl (fun w' hq => pv_load (t1 rfl) rfl (by first | exact PT.ld0 (HW6.mono hq) rfl | exact PT.ld (HW6.mono hq) rfl)) ?_)
        (refine at0 8 rfl (fun w' hq => pv_assign rfl) ?_)
        (refine at0 9 rfl (fun w' hq => pv_assign rfl) ?_)
        (refine at0 10 rfl (fun w' hq => pv_assign rfl) ?_)
        refine aw_done (by kernel_rfl) ?_
        replace hw := hS; clear hS hNP
        have hbz := grow_trans hb6 hw
        repeat' (first | (refine is_cw ?_; first | (refine cw_ret ?_)) | (refine is_qw ?_; first | (with_reducible refine qw_then ?_)))
        exact qw_ret3 rfl rfl rfl rfl ⟨⟨_, _, by rw [h0], hO6.mono hw, hT6.mono hw⟩, hbz⟩
      · obtain ⟨he1, he2⟩ := (err_empty p t e).resolve_left h0
        repeat' (first | (refine lw_pure rfl (pv_move rfl) ?_) | (refine lw_pure rfl (pv_assign rfl) ?_) | (refine is_cw ?_; first | (refine cw_seq ?_) | (refine cw_region ?_) | (refine cw_true rfl (by first | assumption | exact decide_eq_true (by omega) | exact dec_notT (by omega)) ?_) | (refine cw_ret ?_)) | (refine is_qw ?_; first | (with_reducible refine qw_then ?_) | (with_reducible refine qw_then_ret ?_)) | (refine lw_nil ?_) | ((refine is_bin ?_; first | (refine lw_pure rfl (pv_neq rfl rfl) ?_))))
        refine qw_ret3 rfl rfl rfl rfl ⟨⟨_, _, rfl, ?_, ?_⟩, hb6⟩
        · rw [he1]; exact Own.nil _
        · rw [he2]; exact Own.nil _
  · rw [event_no hgood]
    cases hg1 : mayV p t with
    | false =>
      repeat' (first | (refine lw_pure rfl (pv_move rfl) ?_) | (refine lw_pure rfl (pv_assign rfl) ?_) | (refine lw_call (f := 26) (by kernel_rfl) rfl rfl (mayV_e hg1 rfl rfl HP HL) ?_; rintro e w1 ⟨rfl, hb⟩; refine ⟨_, rfl, ?_⟩; replace hw := grow_trans hw hb; clear hb) | (refine is_cw ?_; first | (refine cw_seq ?_) | (refine cw_region ?_) | (refine cw_true rfl rfl ?_) | (refine cw_ret ?_)) | (refine is_qw ?_; first | (with_reducible refine qw_then ?_) | (with_reducible refine qw_then_ret ?_)) | (refine lw_nil ?_) | (refine is_guarded ?_; first | (refine lw_not rfl rfl rfl rfl ?_)) | ((refine is_un ?_; first | (refine lw_pure rfl (pv_not rfl) ?_))) | (refine lw_pure rfl (pv_pick_t rfl rfl rfl) ?_))
      all_goals exact qw_ret3 rfl rfl rfl rfl ⟨⟨_, _, rfl, Own.nil _, Own.nil _⟩, grow_trans hw0 hw⟩
    | true =>
      by_cases hg2 : e.v = 3
      · have hg3 : mayE e = false := by rw [Bool.eq_false_iff]; exact fun h => hgood ⟨hg1, hg2, h⟩
        repeat' (first | (refine lw_pure rfl (pv_move rfl) ?_) | (refine lw_pure rfl (pv_assign rfl) ?_) | (refine lw_call (f := 26) (by kernel_rfl) rfl rfl (mayV_e hg1 rfl rfl HP HL) ?_; rintro e w1 ⟨rfl, hb⟩; refine ⟨_, rfl, ?_⟩; replace hw := grow_trans hw hb; clear hb) | (refine lw_call (f := 27) (by kernel_rfl) rfl rfl (mayE_e hg3 h8 rfl rfl (HN1.mono hw) (HX.mono hw) hT (hK.mono hw)) ?_; rintro e w1 ⟨rfl, hb⟩; refine ⟨_, rfl, ?_⟩; replace hw := grow_trans hw hb; clear hb) | (refine is_cw ?_; first | (refine cw_seq ?_) | (refine cw_region ?_) | (refine cw_true rfl rfl ?_) | (refine cw_ret ?_)) | (refine is_qw ?_; first | (with_reducible refine qw_then ?_) | (with_reducible refine qw_then_ret ?_)) | (refine lw_nil ?_) | (refine is_guarded ?_; first | (refine lw_on rfl rfl rfl ?_) | (refine lw_on rfl rfl (by first | assumption | exact decide_eq_true (by omega) | exact decide_eq_false (by omega) | exact dec_notT (by omega) | exact dec_notF (by omega)) ?_)) | ((refine is_bin ?_; first | (refine lw_pure rfl (pv_neq rfl rfl) ?_))) | ((refine is_load ?_; first | (refine lw_pure rfl (pv_load (t1 rfl) rfl (by first | exact PT.ld0 (H.mono hw) rfl | exact PT.ld (H.mono hw) rfl)) ?_) | (refine lw_pure rfl (pv_loada (tA rfl) rfl (by first | exact PT.lda (H.mono hw)) (by rfl)) ?_))) | ((refine is_fa ?_; first | (refine lw_pure rfl (pv_fa (tF rfl) rfl) ?_))) | ((refine is_un ?_; first | (refine lw_pure rfl (pv_not rfl) ?_))) | (refine lw_pure rfl (pv_pick_f rfl rfl rfl) ?_) | (refine lw_pure rfl (pv_pick_f rfl (by first | assumption | exact decide_eq_false (by omega) | exact dec_notF (by omega)) rfl) ?_))
        all_goals exact qw_ret3 rfl rfl rfl rfl ⟨⟨_, _, rfl, Own.nil _, Own.nil _⟩, grow_trans hw0 hw⟩
      · repeat' (first | (refine lw_pure rfl (pv_move rfl) ?_) | (refine lw_pure rfl (pv_assign rfl) ?_) | (refine lw_call (f := 26) (by kernel_rfl) rfl rfl (mayV_e hg1 rfl rfl HP HL) ?_; rintro e w1 ⟨rfl, hb⟩; refine ⟨_, rfl, ?_⟩; replace hw := grow_trans hw hb; clear hb) | (refine is_cw ?_; first | (refine cw_seq ?_) | (refine cw_region ?_) | (refine cw_true rfl rfl ?_) | (refine cw_ret ?_)) | (refine is_qw ?_; first | (with_reducible refine qw_then ?_) | (with_reducible refine qw_then_ret ?_)) | (refine lw_nil ?_) | (refine is_guarded ?_; first | (refine lw_on rfl rfl rfl ?_) | (refine lw_not rfl rfl rfl (by first | assumption | exact decide_eq_true (by omega) | exact decide_eq_false (by omega) | exact dec_notT (by omega) | exact dec_notF (by omega)) ?_)) | ((refine is_bin ?_; first | (refine lw_pure rfl (pv_neq rfl rfl) ?_))) | ((refine is_load ?_; first | (refine lw_pure rfl (pv_load (t1 rfl) rfl (by first | exact PT.ld0 (H.mono hw) rfl | exact PT.ld (H.mono hw) rfl)) ?_))) | ((refine is_fa ?_; first | (refine lw_pure rfl (pv_fa (tF rfl) rfl) ?_))) | ((refine is_un ?_; first | (refine lw_pure rfl (pv_not rfl) ?_))) | (refine lw_pure rfl (pv_pick_f rfl rfl rfl) ?_) | (refine lw_pure rfl (pv_pick_t rfl (by first | assumption | exact decide_eq_true (by omega) | exact dec_notT (by omega)) rfl) ?_))
        all_goals exact qw_ret3 rfl rfl rfl rfl ⟨⟨_, _, rfl, Own.nil _, Own.nil _⟩, grow_trans hw0 hw⟩
end Go.Proofs.YtnffmbfdfhokeaaGreatDoor
namespace Go.Proofs.YtnffmbfdfhokeaaGreatDoor
open Go.RowKit Go.PlainAid

set_option maxRecDepth 20000 in
theorem rbal_c {l : List Ln} {m : Nat} {ad : Option Addr} {cap : Nat} {w : World} (acct : Int) (hm : l.length = m) (HS : SlR encN 5 w ad cap l) : Calls Tryz.prog 25 #[.slice ad m cap, .int .i64 acct] w fun e w' => e = .returned (.int .i64 (balL l acct)) ∧ Below w.heap.size w w' := by
  subst hm
  have hw := Below.refl w.heap.size w
  have hla := HS.le
  have hma := HS.max
  refine fn_enter 25 Tryz.func25 rfl rfl rfl ?_
  repeat' (first | (refine lw_pure rfl (pv_move rfl) ?_) | (refine lw_pure rfl (pv_assign rfl) ?_) | (refine is_cw ?_; first | (refine cw_seq ?_) | (refine cw_region ?_) | (refine cw_true rfl rfl ?_) | (refine cw_false rfl rfl ?_) | (refine cw_true rfl (by first | assumption | exact decide_eq_true (by omega) | exact dec_notT (by omega)) ?_) | (refine cw_false rfl (by first | assumption | exact decide_eq_false (by omega) | exact dec_notF (by omega)) ?_) | (refine cw_skip ?_) | (refine cw_block ?_) | (refine cw_exit ?_) | (refine cw_ret ?_)) | (refine is_qw ?_; first | (with_reducible refine qw_then ?_) | (with_reducible refine qw_in ?_) | (with_reducible refine qw_in_hit ?_) | (refine qw_in_miss rfl ?_) | (with_reducible refine qw_then_exit ?_) | (with_reducible refine qw_then_ret ?_) | (with_reducible refine qw_in_ret ?_)) | (refine lw_nil ?_) | ((refine is_bin ?_; first | (refine lw_pure rfl (pv_eql rfl rfl) ?_) | (refine lw_pure rfl (pv_geq rfl rfl) ?_) | (refine lw_pure rfl (pv_sub rfl rfl (by omega)) ?_))) | ((refine is_load ?_; first | (refine lw_pure rfl (pv_load (t1 rfl) rfl (by first | fail)) ?_) | (refine lw_pure rfl (pv_loada (tA rfl) rfl (by first | fail) (by rfl)) ?_))) | ((refine is_fa ?_; first | (refine lw_pure rfl (pv_fa (tF rfl) rfl) ?_))) | ((refine is_ia ?_; first | (refine lw_pure rfl (pv_ian (tS rfl) rfl rfl (by omega)) ?_) | (refine lw_pure rfl (pv_ia (tS rfl) rfl rfl (by omega)) ?_))) | ((refine is_bi ?_; first | (refine lw_pure rfl (pv_lenl (tS rfl) rfl) ?_) | (refine lw_pure rfl (pv_lens (tStr rfl) rfl) ?_))))
  refine cw_loop (σ := Nat) (fun r => [(0, .slice ad l.length cap), (1, .int .i64 acct), (5, .int .i64 ((r : Int) - 1))]) (fun r wr => r ≤ l.length ∧ Below w.heap.size w wr ∧ ∀ x ∈ l.drop r, x.acct ≠ acct) (fun r => r) l.length (by repeat' (first | exact trivial | refine ⟨rfl, ?_⟩)) ⟨Nat.le_refl _, hw, by simp⟩ ?_
  clear hw
  rintro r wr ⟨hr, hw, hn⟩
  by_cases h1 : r = 0
  · subst h1
    repeat' (first | (refine lw_pure rfl (pv_move rfl) ?_) | (refine lw_pure rfl (pv_assign rfl) ?_) | (refine is_cw ?_; first | (refine cw_seq ?_) | (refine cw_region ?_) | (refine cw_true rfl rfl ?_) | (refine cw_false rfl rfl ?_) | (refine cw_true rfl (by first | assumption | exact decide_eq_true (by omega) | exact dec_notT (by omega)) ?_) | (refine cw_false rfl (by first | assumption | exact decide_eq_false (by omega) | exact dec_notF (by omega)) ?_) | (refine cw_skip ?_) | (refine cw_block ?_) | (refine cw_exit ?_) | (refine cw_ret ?_)) | (refine is_qw ?_; first | (with_reducible refine qw_then ?_) | (with_reducible refine qw_in ?_) | (with_reducible refine qw_in_hit ?_) | (refine qw_in_miss rfl ?_) | (with_reducible refine qw_then_exit ?_) | (with_reducible refine qw_then_ret ?_) | (with_reducible refine qw_in_ret ?_)) | (refine lw_nil ?_) | ((refine is_bin ?_; first | (refine lw_pure rfl (pv_eql rfl rfl) ?_) | (refine lw_pure rfl (pv_geq rfl rfl) ?_) | (refine lw_pure rfl (pv_sub rfl rfl (by omega)) ?_))) | ((refine is_load ?_; first | (refine lw_pure rfl (pv_load (t1 rfl) rfl (by first | fail)) ?_) | (refine lw_pure rfl (pv_loada (tA rfl) rfl (by first | fail) (by rfl)) ?_))) | ((refine is_fa ?_; first | (refine lw_pure rfl (pv_fa (tF rfl) rfl) ?_))) | ((refine is_ia ?_; first | (refine lw_pure rfl (pv_ian (tS rfl) rfl rfl (by omega)) ?_) | (refine lw_pure rfl (pv_ia (tS rfl) rfl rfl (by omega)) ?_))) | ((refine is_bi ?_; first | (refine lw_pure rfl (pv_lenl (tS rfl) rfl) ?_) | (refine lw_pure rfl (pv_lens (tStr rfl) rfl) ?_))))
    rw [List.drop_zero] at hn
    exact qw_ret1 rfl rfl ⟨by rw [R.bal_none hn], hw⟩
  · obtain ⟨q, rfl⟩ : ∃ q, r = q + 1 := ⟨r - 1, by omega⟩
    have hlt : q < l.length := by omega
    have hxk : l[q]? = some l[q] := List.getElem?_eq_getElem hlt
    have hdr := List.drop_eq_getElem_cons hlt
    have htd : l.take q ++ l.drop q = l := List.take_append_drop q l
    generalize l[q] = x at hxk hdr
    have e1 : (((q + 1 : Nat) : Int) - 1) = (q : Int) := by omega
    rw [e1]
    obtain ⟨ab, ao, rfl, -, -⟩ := HS.at (by intro h; rw [h] at hlt; simp at hlt)
    by_cases hx : x.acct = acct
    · repeat' (first | (refine lw_pure rfl (pv_move rfl) ?_) | (refine lw_pure rfl (pv_assign rfl) ?_) | (refine is_cw ?_; first | (refine cw_seq ?_) | (refine cw_region ?_) | (refine cw_true rfl rfl ?_) | (refine cw_false rfl rfl ?_) | (refine cw_true rfl (by first | assumption | exact decide_eq_true (by omega) | exact dec_notT (by omega)) ?_) | (refine cw_false rfl (by first | assumption | exact decide_eq_false (by omega) | exact dec_notF (by omega)) ?_) | (refine cw_skip ?_) | (refine cw_block ?_) | (refine cw_exit ?_) | (refine cw_ret ?_)) | (refine is_qw ?_; first | (with_reducible refine qw_then ?_) | (with_reducible refine qw_in ?_) | (with_reducible refine qw_in_hit ?_) | (refine qw_in_miss rfl ?_) | (with_reducible refine qw_then_exit ?_) | (with_reducible refine qw_then_ret ?_) | (with_reducible refine qw_in_ret ?_)) | (refine lw_nil ?_) | ((refine is_bin ?_; first | (refine lw_pure rfl (pv_eql rfl rfl) ?_) | (refine lw_pure rfl (pv_geq rfl rfl) ?_) | (refine lw_pure rfl (pv_sub rfl rfl (by omega)) ?_))) | ((refine is_load ?_; first | (refine lw_pure rfl (pv_load (t1 rfl) rfl (by first | exact SlR.ld (HS.mono hw) hxk rfl | exact SlR.ld1 (HS.mono hw) hxk rfl)) ?_) | (refine lw_pure rfl (pv_loada (tA rfl) rfl (by first | exact SlR.lda (HS.mono hw) hxk) (by rfl)) ?_))) | ((refine is_fa ?_; first | (refine lw_pure rfl (pv_fa (tF rfl) rfl) ?_))) | ((refine is_ia ?_; first | (refine lw_pure rfl (pv_ian (tS rfl) rfl rfl (by omega)) ?_) | (refine lw_pure rfl (pv_ia (tS rfl) rfl rfl (by omega)) ?_))) | ((refine is_bi ?_; first | (refine lw_pure rfl (pv_lenl (tS rfl) rfl) ?_) | (refine lw_pure rfl (pv_lens (tStr rfl) rfl) ?_))))
      refine qw_ret1 rfl rfl ⟨?_, hw⟩
      rw [← htd, hdr, R.bal_hit hn hx]
    · repeat' (first | (refine lw_pure rfl (pv_move rfl) ?_) | (refine lw_pure rfl (pv_assign rfl) ?_) | (refine is_cw ?_; first | (refine cw_seq ?_) | (refine cw_region ?_) | (refine cw_true rfl rfl ?_) | (refine cw_false rfl rfl ?_) | (refine cw_true rfl (by first | assumption | exact decide_eq_true (by omega) | exact dec_notT (by omega)) ?_) | (refine cw_false rfl (by first | assumption | exact decide_eq_false (by omega) | exact dec_notF (by omega)) ?_) | (refine cw_skip ?_) | (refine cw_block ?_) | (refine cw_exit ?_) | (refine cw_ret ?_)) | (refine is_qw ?_; first | (with_reducible refine qw_then ?_) | (with_reducible refine qw_in ?_) | (with_reducible refine qw_in_hit ?_) | (refine qw_in_miss rfl ?_) | (with_reducible refine qw_then_exit ?_) | (with_reducible refine qw_then_ret ?_) | (with_reducible refine qw_in_ret ?_)) | (refine lw_nil ?_) | ((refine is_bin ?_; first | (refine lw_pure rfl (pv_eql rfl rfl) ?_) | (refine lw_pure rfl (pv_geq rfl rfl) ?_) | (refine lw_pure rfl (pv_sub rfl rfl (by omega)) ?_))) | ((refine is_load ?_; first | (refine lw_pure rfl (pv_load (t1 rfl) rfl (by first | exact SlR.ld (HS.mono hw) hxk rfl | exact SlR.ld1 (HS.mono hw) hxk rfl)) ?_) | (refine lw_pure rfl (pv_loada (tA rfl) rfl (by first | exact SlR.lda (HS.mono hw) hxk) (by rfl)) ?_))) | ((refine is_fa ?_; first | (refine lw_pure rfl (pv_fa (tF rfl) rfl) ?_))) | ((refine is_ia ?_; first | (refine lw_pure rfl (pv_ian (tS rfl) rfl rfl (by omega)) ?_) | (refine lw_pure rfl (pv_ia (tS rfl) rfl rfl (by omega)) ?_))) | ((refine is_bi ?_; first | (refine lw_pure rfl (pv_lenl (tS rfl) rfl) ?_) | (refine lw_pure rfl (pv_lens (tStr rfl) rfl) ?_))))
      refine qw_round q (by repeat' (first | exact trivial | refine ⟨rfl, ?_⟩)) ⟨by omega, hw, ?_⟩ (by omega)
      rw [hdr]
      intro y hy
      rcases List.mem_cons.1 hy with rfl | hy
      · exact hx
      · exact hn y hy
def RdN (w : World) (v : Value) (xs : List Ln) : Prop := ∃ a c, v = .slice a xs.length c ∧ SlR encN 5 w a c xs
theorem RdN.mono {w w' : World} {v : Value} {xs : List Ln} (h : RdN w v xs) (hb : Below w.heap.size w w') : RdN w' v xs := by
  obtain ⟨a, c, h1, h2⟩ := h
  exact ⟨a, c, h1, h2.mono hb⟩
set_option maxRecDepth 20000 in
set_option maxHeartbeats 2000000 in
theorem radd_c {l : List Ln} {m : Nat} {ad : Option Addr} {cap : Nat} {w : World} (acct seq kind delta : Int) (hm : l.length = m) (hl : l.length ≤ 524290) (HS : SlR encN 5 w ad cap l) (hz : -9223372036854775808 ≤ balL l acct + delta ∧ balL l acct + delta ≤ 9223372036854775807) : Calls Tryz.prog 32 #[.slice ad m cap, .int .i64 acct, .int .i64 seq, .int .u8 kind, .int .i64 delta] w fun e w' => (match addL l seq kind acct delta with
    | some l' => ∃ v, e = .returned (.tuple #[v, .bool true]) ∧ RdN w' v l'
    | none => e = .returned (.tuple #[.slice none 0 0, .bool false])) ∧ Below w.heap.size w w' := by
  subst hm
  have hw := Below.refl w.heap.size w
  refine fn_enter 38 Tryz.func32 rfl rfl rfl ?_
  repeat' (first | (refine lw_pure rfl (pv_move rfl) ?_) | (refine lw_pure rfl (pv_assign rfl) ?_) | (refine is_cw ?_; first | (refine cw_seq ?_) | (refine cw_region ?_) | (refine cw_true rfl rfl ?_) | (refine cw_false rfl rfl ?_) | (refine cw_true rfl (by first | assumption | exact decide_eq_true (by omega) | exact dec_notT (by omega)) ?_) | (refine cw_false rfl (by first | assumption | exact decide_eq_false (by omega) | exact dec_notF (by omega)) ?_) | (refine cw_skip ?_) | (refine cw_ret ?_)) | (refine is_qw ?_; first | (with_reducible refine qw_then ?_) | (with_reducible refine qw_then_ret ?_)) | (refine lw_nil ?_) | (refine is_guarded ?_; first | (refine lw_not rfl rfl rfl rfl ?_) | (refine lw_not_u rfl rfl rfl ?_) | (refine lw_on rfl rfl rfl ?_)) | ((refine is_bin ?_; first | (refine lw_pure rfl (pv_lss rfl rfl) ?_) | (refine lw_pure rfl (pv_eql rfl rfl) ?_) | (refine lw_pure rfl (pv_gtr rfl rfl) ?_) | (refine lw_pure rfl (pv_inc rfl rfl (by omega)) ?_) | (refine lw_pure rfl (pv_add rfl rfl (by omega)) ?_))) | ((refine is_bd ?_; first | (refine lw_pure rfl (tyB_37 rfl rfl rfl) ?_))) | (refine lw_pure rfl (pv_pick_t rfl rfl rfl) ?_) | (refine lw_pure rfl (pv_pick_f rfl rfl rfl) ?_) | (refine lw_pure rfl (pv_pick_t rfl (by first | assumption | exact decide_eq_true (by omega) | exact dec_notT (by omega)) rfl) ?_) | (refine lw_pure rfl (pv_pick_f rfl (by first | assumption | exact decide_eq_false (by omega) | exact dec_notF (by omega)) rfl) ?_) | (refine lw_pure rfl (pv_pick rfl rfl rfl) ?_))
  refine lw_call (f := 25) (by kernel_rfl) rfl rfl (rbal_c acct rfl HS) ?_; rintro e w1 ⟨rfl, hb⟩; refine ⟨_, rfl, ?_⟩; replace hw := grow_trans hw hb; clear hb
  by_cases h0 : delta = 0
  · have e1 : addL l seq kind acct delta = some l := by unfold addL; rw [if_pos h0]
    rw [e1]
    repeat' (first | (refine lw_pure rfl (pv_move rfl) ?_) | (refine lw_pure rfl (pv_assign rfl) ?_) | (refine is_cw ?_; first | (refine cw_seq ?_) | (refine cw_region ?_) | (refine cw_true rfl rfl ?_) | (refine cw_false rfl rfl ?_) | (refine cw_true rfl (by first | assumption | exact decide_eq_true (by omega) | exact dec_notT (by omega)) ?_) | (refine cw_false rfl (by first | assumption | exact decide_eq_false (by omega) | exact dec_notF (by omega)) ?_) | (refine cw_skip ?_) | (refine cw_ret ?_)) | (refine is_qw ?_; first | (with_reducible refine qw_then ?_) | (with_reducible refine qw_then_ret ?_)) | (refine lw_nil ?_) | (refine is_guarded ?_; first | (refine lw_not rfl rfl rfl rfl ?_) | (refine lw_not_u rfl rfl rfl ?_) | (refine lw_on rfl rfl rfl ?_)) | ((refine is_bin ?_; first | (refine lw_pure rfl (pv_lss rfl rfl) ?_) | (refine lw_pure rfl (pv_eql rfl rfl) ?_) | (refine lw_pure rfl (pv_gtr rfl rfl) ?_) | (refine lw_pure rfl (pv_inc rfl rfl (by omega)) ?_) | (refine lw_pure rfl (pv_add rfl rfl (by omega)) ?_))) | ((refine is_bd ?_; first | (refine lw_pure rfl (tyB_37 rfl rfl rfl) ?_))) | (refine lw_pure rfl (pv_pick_t rfl rfl rfl) ?_) | (refine lw_pure rfl (pv_pick_f rfl rfl rfl) ?_) | (refine lw_pure rfl (pv_pick_t rfl (by first | assumption | exact decide_eq_true (by omega) | exact dec_notT (by omega)) rfl) ?_) | (refine lw_pure rfl (pv_pick_f rfl (by first | assumption | exact decide_eq_false (by omega) | exact dec_notF (by omega)) rfl) ?_) | (refine lw_pure rfl (pv_pick rfl rfl rfl) ?_))
    exact qw_ret2 rfl rfl rfl ⟨⟨_, rfl, ad, cap, rfl, HS.mono hw⟩, hw⟩
  · by_cases hb : 0 ≤ balL l acct + delta ∧ balL l acct + delta ≤ 1125899906842624
    · rw [show addL l seq kind acct delta = some (l ++ [⟨acct, seq, kind, delta, balL l acct + delta⟩]) from by unfold addL; rw [if_neg h0, if_pos hb]]
      repeat' (first | (refine lw_pure rfl (pv_move rfl) ?_) | (refine lw_pure rfl (pv_assign rfl) ?_) | (refine is_cw ?_; first | (refine cw_seq ?_) | (refine cw_region ?_) | (refine cw_true rfl rfl ?_) | (refine cw_false rfl rfl ?_) | (refine cw_true rfl (by first | assumption | exact decide_eq_true (by omega) | exact dec_notT (by omega)) ?_) | (refine cw_false rfl (by first | assumption | exact decide_eq_false (by omega) | exact dec_notF (by omega)) ?_) | (refine cw_skip ?_) | (refine cw_ret ?_)) | (refine is_qw ?_; first | (with_reducible refine qw_then ?_) | (with_reducible refine qw_then_ret ?_)) | (refine lw_nil ?_) | (refine is_guarded ?_; first | (refine lw_not rfl rfl rfl rfl ?_) | (refine lw_not_u rfl rfl rfl ?_) | (refine lw_on rfl rfl rfl ?_) | (refine lw_on rfl rfl (by first | assumption | exact decide_eq_true (by omega) | exact decide_eq_false (by omega) | exact dec_notT (by omega) | exact dec_notF (by omega)) ?_) | (refine lw_not rfl rfl rfl (by first | assumption | exact decide_eq_true (by omega) | exact decide_eq_false (by omega) | exact dec_notT (by omega) | exact dec_notF (by omega)) ?_) | (refine lw_gs_t rfl rfl rfl (fun hc => ?_) (fun hc => ?_) <;> (first | replace hc := of_decide_eq_true hc | replace hc := of_decide_eq_false hc | replace hc := dec_nT hc | replace hc := dec_nF hc | skip) <;> (try (exfalso; omega))) | (refine lw_gs_f rfl rfl rfl (fun hc => ?_) (fun hc => ?_) <;> (first | replace hc := of_decide_eq_true hc | replace hc := of_decide_eq_false hc | replace hc := dec_nT hc | replace hc := dec_nF hc | skip) <;> (try (exfalso; omega)))) | ((refine is_bin ?_; first | (refine lw_pure rfl (pv_lss rfl rfl) ?_) | (refine lw_pure rfl (pv_eql rfl rfl) ?_) | (refine lw_pure rfl (pv_gtr rfl rfl) ?_) | (refine lw_pure rfl (pv_inc rfl rfl (by omega)) ?_) | (refine lw_pure rfl (pv_add rfl rfl (by omega)) ?_))) | ((refine is_bd ?_; first | (refine lw_pure rfl (tyB_37 rfl rfl rfl) ?_))) | (refine lw_pure rfl (pv_pick_t rfl rfl rfl) ?_) | (refine lw_pure rfl (pv_pick_f rfl rfl rfl) ?_) | (refine lw_pure rfl (pv_pick_t rfl (by first | assumption | exact decide_eq_true (by omega) | exact dec_notT (by omega)) rfl) ?_) | (refine lw_pure rfl (pv_pick_f rfl (by first | assumption | exact decide_eq_false (by omega) | exact dec_notF (by omega)) rfl) ?_) | (refine lw_pure rfl (pv_pick rfl rfl rfl) ?_) | (refine is_cw ?_; refine cw_split rfl (fun hc => ?_) (fun hc => ?_) <;> (first | replace hc := of_decide_eq_true hc | replace hc := of_decide_eq_false hc | replace hc := dec_nT hc | replace hc := dec_nF hc | skip) <;> (try (exfalso; omega))))
      replace HS := HS.mono hw
      have hw0 := hw
      clear hw
      have hw := Below.refl w1.heap.size w1
      refine lw_bs0 (enc := encN) elemLn rfl ?_; intro w2 hO hb2 hz2
      repeat' (first | (refine lw_pure rfl (pv_move rfl) ?_) | (refine lw_pure rfl (pv_assign rfl) ?_) | (refine is_cw ?_; first | (refine cw_seq ?_) | (refine cw_region ?_) | (refine cw_true rfl rfl ?_) | (refine cw_false rfl rfl ?_) | (refine cw_true rfl (by first | assumption | exact decide_eq_true (by omega) | exact dec_notT (by omega)) ?_) | (refine cw_false rfl (by first | assumption | exact decide_eq_false (by omega) | exact dec_notF (by omega)) ?_) | (refine cw_skip ?_) | (refine cw_ret ?_)) | (refine is_qw ?_; first | (with_reducible refine qw_then ?_) | (with_reducible refine qw_then_ret ?_)) | (refine lw_nil ?_) | (refine is_guarded ?_; first | (refine lw_not rfl rfl rfl rfl ?_) | (refine lw_not_u rfl rfl rfl ?_) | (refine lw_on rfl rfl rfl ?_)) | ((refine is_bin ?_; first | (refine lw_pure rfl (pv_lss rfl rfl) ?_) | (refine lw_pure rfl (pv_eql rfl rfl) ?_) | (refine lw_pure rfl (pv_gtr rfl rfl) ?_) | (refine lw_pure rfl (pv_inc rfl rfl (by omega)) ?_) | (refine lw_pure rfl (pv_add rfl rfl (by omega)) ?_))) | ((refine is_bd ?_; first | (refine lw_pure rfl (tyB_37 rfl rfl rfl) ?_))) | (refine lw_pure rfl (pv_pick_t rfl rfl rfl) ?_) | (refine lw_pure rfl (pv_pick_f rfl rfl rfl) ?_) | (refine lw_pure rfl (pv_pick_t rfl (by first | assumption | exact decide_eq_true (by omega) | exact dec_notT (by omega)) rfl) ?_) | (refine lw_pure rfl (pv_pick_f rfl (by first | assumption | exact decide_eq_false (by omega) | exact dec_notF (by omega)) rfl) ?_) | (refine lw_pure rfl (pv_pick rfl rfl rfl) ?_))
      refine lw_app elemLn encN_len encN_one rfl rfl rfl hO (HS.mono hb2) rfl (by omega) (by simp; omega) (by simp [maxLen]; omega) ?_; intro v3 w3 hO3 hg3 hb3
      have hs2 := hb2.size
      have hs3 := hb3.size
      have hb13 := hb2.trans hb3
      repeat' (first | (refine lw_pure rfl (pv_move rfl) ?_) | (refine lw_pure rfl (pv_assign rfl) ?_) | (refine is_cw ?_; first | (refine cw_seq ?_) | (refine cw_region ?_) | (refine cw_true rfl rfl ?_) | (refine cw_false rfl rfl ?_) | (refine cw_true rfl (by first | assumption | exact decide_eq_true (by omega) | exact dec_notT (by omega)) ?_) | (refine cw_false rfl (by first | assumption | exact decide_eq_false (by omega) | exact dec_notF (by omega)) ?_) | (refine cw_skip ?_) | (refine cw_ret ?_)) | (refine is_qw ?_; first | (with_reducible refine qw_then ?_) | (with_reducible refine qw_then_ret ?_)) | (refine lw_nil ?_) | (refine is_guarded ?_; first | (refine lw_not rfl rfl rfl rfl ?_) | (refine lw_not_u rfl rfl rfl ?_) | (refine lw_on rfl rfl rfl ?_)) | ((refine is_bin ?_; first | (refine lw_pure rfl (pv_lss rfl rfl) ?_) | (refine lw_pure rfl (pv_eql rfl rfl) ?_) | (refine lw_pure rfl (pv_gtr rfl rfl) ?_) | (refine lw_pure rfl (pv_inc rfl rfl (by omega)) ?_) | (refine lw_pure rfl (pv_add rfl rfl (by omega)) ?_))) | ((refine is_bd ?_; first | (refine lw_pure rfl (tyB_37 rfl rfl rfl) ?_))) | (refine lw_pure rfl (pv_pick_t rfl rfl rfl) ?_) | (refine lw_pure rfl (pv_pick_f rfl rfl rfl) ?_) | (refine lw_pure rfl (pv_pick_t rfl (by first | assumption | exact decide_eq_true (by omega) | exact dec_notT (by omega)) rfl) ?_) | (refine lw_pure rfl (pv_pick_f rfl (by first | assumption | exact decide_eq_false (by omega) | exact dec_notF (by omega)) rfl) ?_) | (refine lw_pure rfl (pv_pick rfl rfl rfl) ?_))
      refine lw_bs1 elemLn rfl rfl (cs := encN ⟨acct, seq, kind, delta, balL l acct + delta⟩) rfl rfl (by omega) ?_; intro w4 HB hb4 hz4
      have hs4 := hb4.size
      repeat' (first | (refine lw_pure rfl (pv_move rfl) ?_) | (refine lw_pure rfl (pv_assign rfl) ?_) | (refine is_cw ?_; first | (refine cw_seq ?_) | (refine cw_region ?_) | (refine cw_true rfl rfl ?_) | (refine cw_false rfl rfl ?_) | (refine cw_true rfl (by first | assumption | exact decide_eq_true (by omega) | exact dec_notT (by omega)) ?_) | (refine cw_false rfl (by first | assumption | exact decide_eq_false (by omega) | exact dec_notF (by omega)) ?_) | (refine cw_skip ?_) | (refine cw_ret ?_)) | (refine is_qw ?_; first | (with_reducible refine qw_then ?_) | (with_reducible refine qw_then_ret ?_)) | (refine lw_nil ?_) | (refine is_guarded ?_; first | (refine lw_not rfl rfl rfl rfl ?_) | (refine lw_not_u rfl rfl rfl ?_) | (refine lw_on rfl rfl rfl ?_)) | ((refine is_bin ?_; first | (refine lw_pure rfl (pv_lss rfl rfl) ?_) | (refine lw_pure rfl (pv_eql rfl rfl) ?_) | (refine lw_pure rfl (pv_gtr rfl rfl) ?_) | (refine lw_pure rfl (pv_inc rfl rfl (by omega)) ?_) | (refine lw_pure rfl (pv_add rfl rfl (by omega)) ?_))) | ((refine is_bd ?_; first | (refine lw_pure rfl (tyB_37 rfl rfl rfl) ?_))) | (refine lw_pure rfl (pv_pick_t rfl rfl rfl) ?_) | (refine lw_pure rfl (pv_pick_f rfl rfl rfl) ?_) | (refine lw_pure rfl (pv_pick_t rfl (by first | assumption | exact decide_eq_true (by omega) | exact dec_notT (by omega)) rfl) ?_) | (refine lw_pure rfl (pv_pick_f rfl (by first | assumption | exact decide_eq_false (by omega) | exact dec_notF (by omega)) rfl) ?_) | (refine lw_pure rfl (pv_pick rfl rfl rfl) ?_))
      refine lw_app elemLn encN_len encN_one rfl rfl rfl (hO3.mono hb4) (HB.slR (xs := [⟨acct, seq, kind, delta, balL l acct + delta⟩]) encN_len rfl (by simp)) rfl (by omega) (by simp; omega) (by simp [maxLen]; omega) ?_; intro v5 w5 hO5 hg5 hb5
      repeat' (first | (refine lw_pure rfl (pv_move rfl) ?_) | (refine lw_pure rfl (pv_assign rfl) ?_) | (refine is_cw ?_; first | (refine cw_seq ?_) | (refine cw_region ?_) | (refine cw_true rfl rfl ?_) | (refine cw_false rfl rfl ?_) | (refine cw_true rfl (by first | assumption | exact decide_eq_true (by omega) | exact dec_notT (by omega)) ?_) | (refine cw_false rfl (by first | assumption | exact decide_eq_false (by omega) | exact dec_notF (by omega)) ?_) | (refine cw_skip ?_) | (refine cw_ret ?_)) | (refine is_qw ?_; first | (with_reducible refine qw_then ?_) | (with_reducible refine qw_then_ret ?_)) | (refine lw_nil ?_) | (refine is_guarded ?_; first | (refine lw_not rfl rfl rfl rfl ?_) | (refine lw_not_u rfl rfl rfl ?_) | (refine lw_on rfl rfl rfl ?_)) | ((refine is_bin ?_; first | (refine lw_pure rfl (pv_lss rfl rfl) ?_) | (refine lw_pure rfl (pv_eql rfl rfl) ?_) | (refine lw_pure rfl (pv_gtr rfl rfl) ?_) | (refine lw_pure rfl (pv_inc rfl rfl (by omega)) ?_) | (refine lw_pure rfl (pv_add rfl rfl (by omega)) ?_))) | ((refine is_bd ?_; first | (refine lw_pure rfl (tyB_37 rfl rfl rfl) ?_))) | (refine lw_pure rfl (pv_pick_t rfl rfl rfl) ?_) | (refine lw_pure rfl (pv_pick_f rfl rfl rfl) ?_) | (refine lw_pure rfl (pv_pick_t rfl (by first | assumption | exact decide_eq_true (by omega) | exact dec_notT (by omega)) rfl) ?_) | (refine lw_pure rfl (pv_pick_f rfl (by first | assumption | exact decide_eq_false (by omega) | exact dec_notF (by omega)) rfl) ?_) | (refine lw_pure rfl (pv_pick rfl rfl rfl) ?_))
      obtain ⟨a5, c5, rfl, HS5, -⟩ := Own.slR encN_len hO5
      exact qw_ret2 rfl rfl rfl ⟨⟨_, rfl, a5, c5, rfl, HS5⟩, hw0.trans ((((hb2.trans hb3).trans (hb4.mono (by omega))).trans hb5).mono hw0.size)⟩
    · rw [show addL l seq kind acct delta = none from by unfold addL; rw [if_neg h0, if_neg hb]]
      repeat' (first | (refine lw_pure rfl (pv_move rfl) ?_) | (refine lw_pure rfl (pv_assign rfl) ?_) | (refine is_cw ?_; first | (refine cw_seq ?_) | (refine cw_region ?_) | (refine cw_true rfl rfl ?_) | (refine cw_false rfl rfl ?_) | (refine cw_true rfl (by first | assumption | exact decide_eq_true (by omega) | exact dec_notT (by omega)) ?_) | (refine cw_false rfl (by first | assumption | exact decide_eq_false (by omega) | exact dec_notF (by omega)) ?_) | (refine cw_skip ?_) | (refine cw_ret ?_)) | (refine is_qw ?_; first | (with_reducible refine qw_then ?_) | (with_reducible refine qw_then_ret ?_)) | (refine lw_nil ?_) | (refine is_guarded ?_; first | (refine lw_not rfl rfl rfl rfl ?_) | (refine lw_not_u rfl rfl rfl ?_) | (refine lw_on rfl rfl rfl ?_) | (refine lw_on rfl rfl (by first | assumption | exact decide_eq_true (by omega) | exact decide_eq_false (by omega) | exact dec_notT (by omega) | exact dec_notF (by omega)) ?_) | (refine lw_not rfl rfl rfl (by first | assumption | exact decide_eq_true (by omega) | exact decide_eq_false (by omega) | exact dec_notT (by omega) | exact dec_notF (by omega)) ?_) | (refine lw_gs_t rfl rfl rfl (fun hc => ?_) (fun hc => ?_) <;> (first | replace hc := of_decide_eq_true hc | replace hc := of_decide_eq_false hc | replace hc := dec_nT hc | replace hc := dec_nF hc | skip) <;> (try (exfalso; omega))) | (refine lw_gs_f rfl rfl rfl (fun hc => ?_) (fun hc => ?_) <;> (first | replace hc := of_decide_eq_true hc | replace hc := of_decide_eq_false hc | replace hc := dec_nT hc | replace hc := dec_nF hc | skip) <;> (try (exfalso; omega)))) | ((refine is_bin ?_; first | (refine lw_pure rfl (pv_lss rfl rfl) ?_) | (refine lw_pure rfl (pv_eql rfl rfl) ?_) | (refine lw_pure rfl (pv_gtr rfl rfl) ?_) | (refine lw_pure rfl (pv_inc rfl rfl (by omega)) ?_) | (refine lw_pure rfl (pv_add rfl rfl (by omega)) ?_))) | ((refine is_bd ?_; first | (refine lw_pure rfl (tyB_37 rfl rfl rfl) ?_))) | (refine lw_pure rfl (pv_pick_t rfl rfl rfl) ?_) | (refine lw_pure rfl (pv_pick_f rfl rfl rfl) ?_) | (refine lw_pure rfl (pv_pick_t rfl (by first | assumption | exact decide_eq_true (by omega) | exact dec_notT (by omega)) rfl) ?_) | (refine lw_pure rfl (pv_pick_f rfl (by first | assumption | exact decide_eq_false (by omega) | exact dec_notF (by omega)) rfl) ?_) | (refine lw_pure rfl (pv_pick rfl rfl rfl) ?_) | (refine is_cw ?_; refine cw_split rfl (fun hc => ?_) (fun hc => ?_) <;> (first | replace hc := of_decide_eq_true hc | replace hc := of_decide_eq_false hc | replace hc := dec_nT hc | replace hc := dec_nF hc | skip) <;> (try (exfalso; omega))))
      all_goals exact qw_ret2 rfl rfl rfl ⟨rfl, hw⟩

def BalIn (l : List Ln) : Prop := ∀ a, 0 ≤ balL l a ∧ balL l a ≤ 1125899906842624
theorem BalIn.add {l l' : List Ln} {seq kind a b : Int} (h : BalIn l) (e : addL l seq kind a b = some l') : BalIn l' ∧ l'.length ≤ l.length + 1 := by
  unfold addL at e
  split at e
  · injection e with e; subst e; exact ⟨h, by omega⟩
  · split at e
    · rename_i hr
      injection e with e; subst e
      refine ⟨fun y => ?_, by simp⟩
      rw [balL_snoc]
      split
      · exact hr
      · exact h y
    · cases e
def NearD (n : Int) : Prop := -2251799813685248 ≤ n ∧ n ≤ 2251799813685248
set_option maxRecDepth 20000 in
set_option maxHeartbeats 2000000 in
theorem rtwo_c {l : List Ln} {m : Nat} {ad : Option Addr} {cap : Nat} {w : World} (seq kind a less b more : Int) (hm : l.length = m) (hl : l.length ≤ 524288) (HS : SlR encN 5 w ad cap l) (hB : BalIn l) (h1 : NearD less) (h2 : NearD more) : Calls Tryz.prog 33 #[.slice ad m cap, .int .i64 seq, .int .u8 kind, .int .i64 a, .int .i64 less, .int .i64 b, .int .i64 more] w fun e w' => (match addsL seq kind l [(a, -less), (b, more)] with
    | some l' => ∃ v, e = .returned (.tuple #[v, .int .i64 0]) ∧ RdN w' v l'
    | none => e = .returned (.tuple #[.slice none 0 0, .int .i64 41])) ∧ Below w.heap.size w w' := by
  subst hm
  unfold NearD at h1 h2
  have hb1 := hB a
  have hw := Below.refl w.heap.size w
  refine fn_enter 41 Tryz.func33 rfl rfl rfl ?_
  repeat' (first | (refine lw_pure rfl (pv_move rfl) ?_) | (refine lw_pure rfl (pv_assign rfl) ?_) | (refine is_cw ?_; first | (refine cw_seq ?_) | (refine cw_region ?_) | (refine cw_true rfl rfl ?_) | (refine cw_false rfl rfl ?_) | (refine cw_true rfl (by first | assumption | exact decide_eq_true (by omega) | exact dec_notT (by omega)) ?_) | (refine cw_false rfl (by first | assumption | exact decide_eq_false (by omega) | exact dec_notF (by omega)) ?_) | (refine cw_skip ?_) | (refine cw_ret ?_)) | (refine is_qw ?_; first | (with_reducible refine qw_then ?_) | (with_reducible refine qw_then_ret ?_)) | (refine lw_nil ?_) | ((refine is_un ?_; first | (refine lw_pure rfl (pv_not rfl) ?_) | (refine lw_pure rfl (pv_neg rfl (by omega)) ?_))) | (refine lw_pure rfl (pv_extract rfl rfl) ?_))
  refine lw_call (f := 32) (by kernel_rfl) rfl rfl (radd_c a seq kind (-less) rfl (by omega) HS (by omega)) ?_; rintro e w1 ⟨hr, hb⟩
  have e0 : addsL seq kind l [(a, -less), (b, more)] = (addL l seq kind a (-less)).bind fun l1 => (addL l1 seq kind b more).bind fun l2 => some l2 := rfl
  rw [e0]
  cases hq : addL l seq kind a (-less) with
  | none =>
    rw [hq] at hr
    subst hr
    refine ⟨_, rfl, ?_⟩
    replace hw := grow_trans hw hb
    clear hb
    repeat' (first | (refine lw_pure rfl (pv_move rfl) ?_) | (refine lw_pure rfl (pv_assign rfl) ?_) | (refine is_cw ?_; first | (refine cw_seq ?_) | (refine cw_region ?_) | (refine cw_true rfl rfl ?_) | (refine cw_false rfl rfl ?_) | (refine cw_true rfl (by first | assumption | exact decide_eq_true (by omega) | exact dec_notT (by omega)) ?_) | (refine cw_false rfl (by first | assumption | exact decide_eq_false (by omega) | exact dec_notF (by omega)) ?_) | (refine cw_skip ?_) | (refine cw_ret ?_)) | (refine is_qw ?_; first | (with_reducible refine qw_then ?_) | (with_reducible refine qw_then_ret ?_)) | (refine lw_nil ?_) | ((refine is_un ?_; first | (refine lw_pure rfl (pv_not rfl) ?_) | (refine lw_pure rfl (pv_neg rfl (by omega)) ?_))) | (refine lw_pure rfl (pv_extract rfl rfl) ?_))
    exact qw_ret2 rfl rfl rfl ⟨rfl, hw⟩
  | some l1 =>
    rw [hq] at hr
    obtain ⟨v, rfl, a1, c1, rfl, HS1⟩ := hr
    obtain ⟨hB1, hl1⟩ := hB.add hq
    have hb2 := hB1 b
    refine ⟨_, rfl, ?_⟩
    replace hw := grow_trans hw hb
    clear hb
    repeat' (first | (refine lw_pure rfl (pv_move rfl) ?_) | (refine lw_pure rfl (pv_assign rfl) ?_) | (refine is_cw ?_; first | (refine cw_seq ?_) | (refine cw_region ?_) | (refine cw_true rfl rfl ?_) | (refine cw_false rfl rfl ?_) | (refine cw_true rfl (by first | assumption | exact decide_eq_true (by omega) | exact dec_notT (by omega)) ?_) | (refine cw_false rfl (by first | assumption | exact decide_eq_false (by omega) | exact dec_notF (by omega)) ?_) | (refine cw_skip ?_) | (refine cw_ret ?_)) | (refine is_qw ?_; first | (with_reducible refine qw_then ?_) | (with_reducible refine qw_then_ret ?_)) | (refine lw_nil ?_) | ((refine is_un ?_; first | (refine lw_pure rfl (pv_not rfl) ?_) | (refine lw_pure rfl (pv_neg rfl (by omega)) ?_))) | (refine lw_pure rfl (pv_extract rfl rfl) ?_))
    refine lw_call (f := 32) (by kernel_rfl) rfl rfl (radd_c b seq kind more rfl (by omega) HS1 (by omega)) ?_; rintro e w2 ⟨hr, hb⟩
    show ∃ v, _ ∧ _
    cases hq2 : addL l1 seq kind b more with
    | none =>
      rw [hq2] at hr
      subst hr
      refine ⟨_, rfl, ?_⟩
      replace hw := grow_trans hw hb
      clear hb
      repeat' (first | (refine lw_pure rfl (pv_move rfl) ?_) | (refine lw_pure rfl (pv_assign rfl) ?_) | (refine is_cw ?_; first | (refine cw_seq ?_) | (refine cw_region ?_) | (refine cw_true rfl rfl ?_) | (refine cw_false rfl rfl ?_) | (refine cw_true rfl (by first | assumption | exact decide_eq_true (by omega) | exact dec_notT (by omega)) ?_) | (refine cw_false rfl (by first | assumption | exact decide_eq_false (by omega) | exact dec_notF (by omega)) ?_) | (refine cw_skip ?_) | (refine cw_ret ?_)) | (refine is_qw ?_; first | (with_reducible refine qw_then ?_) | (with_reducible refine qw_then_ret ?_)) | (refine lw_nil ?_) | ((refine is_un ?_; first | (refine lw_pure rfl (pv_not rfl) ?_) | (refine lw_pure rfl (pv_neg rfl (by omega)) ?_))) | (refine lw_pure rfl (pv_extract rfl rfl) ?_))
      exact qw_ret2 rfl rfl rfl ⟨by show (match (addL l1 seq kind b more).bind fun l2 => some l2 with | some l' => _ | none => _); rw [hq2]; rfl, hw⟩
    | some l2 =>
      rw [hq2] at hr
      obtain ⟨v2, rfl, a2, c2, rfl, HS2⟩ := hr
      refine ⟨_, rfl, ?_⟩
      replace hw := grow_trans hw hb
      clear hb
      repeat' (first | (refine lw_pure rfl (pv_move rfl) ?_) | (refine lw_pure rfl (pv_assign rfl) ?_) | (refine is_cw ?_; first | (refine cw_seq ?_) | (refine cw_region ?_) | (refine cw_true rfl rfl ?_) | (refine cw_false rfl rfl ?_) | (refine cw_true rfl (by first | assumption | exact decide_eq_true (by omega) | exact dec_notT (by omega)) ?_) | (refine cw_false rfl (by first | assumption | exact decide_eq_false (by omega) | exact dec_notF (by omega)) ?_) | (refine cw_skip ?_) | (refine cw_ret ?_)) | (refine is_qw ?_; first | (with_reducible refine qw_then ?_) | (with_reducible refine qw_then_ret ?_)) | (refine lw_nil ?_) | ((refine is_un ?_; first | (refine lw_pure rfl (pv_not rfl) ?_) | (refine lw_pure rfl (pv_neg rfl (by omega)) ?_))) | (refine lw_pure rfl (pv_extract rfl rfl) ?_))
      exact qw_ret2 rfl rfl rfl ⟨by show (match (addL l1 seq kind b more).bind fun l2 => some l2 with | some l' => _ | none => _); rw [hq2]; exact ⟨_, rfl, a2, c2, rfl, HS2⟩, hw⟩

set_option maxRecDepth 20000 in
set_option maxHeartbeats 8000000 in
theorem rmayL_c {l : List Ln} {m : Nat} {ad : Option Addr} {cap : Nat} {w : World} (hm : l.length = m) (HS : SlR encN 5 w ad cap l) (hin : In64N l) : Calls Tryz.prog 8 #[.slice ad m cap] w fun e w' => e = .returned (.bool (mayLn l)) ∧ Below w.heap.size w w' := by
  subst hm
  have hw := Below.refl w.heap.size w
  have hla := HS.le
  have hma := HS.max
  have HS0 := HS
  refine fn_enter 100 Tryz.func8 rfl rfl rfl ?_
  repeat' (first | (refine lw_pure rfl (pv_assign rfl) ?_) | (refine is_cw ?_; first | (refine cw_seq ?_) | (refine cw_region ?_) | (refine cw_block ?_)) | (refine is_qw ?_; first | (with_reducible refine qw_then ?_)) | (refine lw_nil ?_))
  refine cw_loop (σ := Nat) (fun k => [(0, .slice ad l.length cap), (3, .int .i64 (k : Nat))]) (fun k wr => k ≤ l.length ∧ Below w.heap.size w wr ∧ mayLn (l.take k) = true) (fun k => l.length - k) 0 (by repeat' (first | exact trivial | refine ⟨rfl, ?_⟩)) ⟨Nat.zero_le _, hw, by rw [List.take_zero]; rfl⟩ ?_
  clear hw
  rintro k wr ⟨hk, hw, hn⟩
  by_cases hlt : k < l.length
  · have hxk : l[k]? = some l[k] := List.getElem?_eq_getElem hlt
    obtain ⟨ab, ao, rfl, -, -⟩ := HS0.at (by intro h; rw [h] at hlt; simp at hlt)
    have hxin := hin _ (List.getElem_mem hlt)
    generalize l[k] = x at hxk hxin
    have hno : ¬ OkLn (l.take k) x → mayLn l = false := fun h => mayLn_no hxk h
    have hnc : ¬ ((1 ≤ x.acct ∧ x.acct ≤ 64) ∧ (0 ≤ x.seq ∧ x.seq < 1048576) ∧ seqL (l.take k) ≤ x.seq ∧ (x.kind = 6 ∨ x.kind = 7 ∨ x.kind = 13 ∨ x.kind = 18 ∨ x.kind = 21) ∧ x.delta ≠ 0 ∧ (0 ≤ x.bal ∧ x.bal ≤ 1125899906842624)) → mayLn l = false := fun h => hno fun H => h ⟨H.1, H.2.1, H.2.2.1, of_decide_eq_true H.2.2.2.1, H.2.2.2.2.1, H.2.2.2.2.2.1⟩
    have hbal := bal_in hn x.acct
    have hw0 := hw
    replace HS := HS.mono hw
    clear hw
    have hw := Below.refl wr.heap.size wr
    repeat' (first | (refine lw_pure rfl (pv_move rfl) ?_) | (refine is_cw ?_; first | (refine cw_seq ?_) | (refine cw_region ?_) | (refine cw_true rfl (by first | assumption | exact decide_eq_true (by omega) | exact dec_notT (by omega)) ?_) | (refine cw_skip ?_) | (refine cw_block ?_)) | (refine is_qw ?_; first | (with_reducible refine qw_then ?_)) | (refine lw_nil ?_) | ((refine is_bin ?_; first | (refine lw_pure rfl (pv_lss rfl rfl) ?_))) | ((refine is_load ?_; first | (refine lw_pure rfl (pv_loada (tA rfl) rfl (by first | exact SlR.lda (HS.mono hw) hxk) (by rfl)) ?_))) | ((refine is_ia ?_; first | (refine lw_pure rfl (pv_ian (tS rfl) rfl rfl (by omega)) ?_))) | ((refine is_bi ?_; first | (refine lw_pure rfl (pv_lenl (tS rfl) rfl) ?_))))
    refine lw_varN rfl (by first | exact tyv_27 | exact tyv_28 | exact tyv_36 | exact tyv_37 | exact tyv_68 | exact tyv_69 | exact tyv_72 | exact tyv_73 | exact tyv_79 | exact tyv_80 | exact tyv_117 | exact tyv_118 | exact tyv_130 | exact tyv_131) rfl (tZ rfl) (fun _ => rfl) rfl rfl ?_; intro N4 wn hN4 HX hb; replace hN4 := Nat.le_trans hw.size hN4; replace hw := grow_trans hw hb; clear hb
    replace hw0 := grow_trans hw0 hw
    replace HS := HS.mono hw
    clear hw
    have hw := Below.refl wn.heap.size wn
    refine lw_nil ?_; (with_reducible refine qw_then ?_)
    refine cw_cut (σ := Unit) (fun _ => [(0, .slice (some ⟨ab, ao, none⟩) l.length cap), (3, .int .i64 (k : Nat)), (4, .pointer (some ⟨N4, 0, none⟩))]) (fun _ w' => Below wn.heap.size wn w' ∧ ((1 ≤ x.acct ∧ x.acct ≤ 64) ∧ (0 ≤ x.seq ∧ x.seq < 1048576) ∧ seqL (l.take k) ≤ x.seq ∧ (x.kind = 6 ∨ x.kind = 7 ∨ x.kind = 13 ∨ x.kind = 18 ∨ x.kind = 21) ∧ x.delta ≠ 0 ∧ (0 ≤ x.bal ∧ x.bal ≤ 1125899906842624))) ?_ ?_
    · by_cases hk0 : k = 0
      · have hsq : seqL (l.take k) = 0 := by rw [hk0, List.take_zero]; rfl
        refine cw_seq ?_
        refine cw_drawn (fun w' => Below wn.heap.size wn w') (by kernel_rfl) (by repeat (first | exact NoPanic.body | with_reducible refine NoPanic.then ?_ | with_reducible refine NoPanic.inBlock ?_)) (fun hNP => ?_)
        have hS := hw.drew
        all_goals (refine at0 0 rfl (fun w' hq => pv_fa (tF rfl) rfl) ?_)
        all_goals (refine at0 1 rfl (fun w' hq => pv_load (t1 rfl) rfl (by first | exact PT.ld0 (HX.mono hq) rfl | exact PT.ld (HX.mono hq) rfl)) ?_)
        all_goals (refine at0 2 rfl (fun w' hq => pv_lss rfl rfl) ?_)
        all_goals (refine at0 3 rfl (fun w' hq => pv_move rfl) ?_)
        all_goals (refine aw_gs 4 rfl rfl rfl (by kernel_rfl) (by kernel_rfl) (by kernel_rfl) hNP hS rfl (fun hc w' hq => pv_fa (tF rfl) rfl) (fun hc => ?_) (fun hc => ?_) <;> (first | replace hc := of_decide_eq_true hc | replace hc := of_decide_eq_false hc | replace hc := dec_nT hc | replace hc := dec_nF hc | skip) <;> (try (exfalso; omega)))
        all_goals first | (refine an2 5 rfl rfl rfl ?_) | (refine at2 5 rfl rfl rfl (fun w' hq => pv_load (t1 rfl) rfl (by first | exact PT.ld0 (HX.mono hq) rfl | exact PT.ld (HX.mono hq) rfl)) ?_)
        all_goals first | (refine an2 6 rfl rfl rfl ?_) | (refine at2 6 rfl rfl rfl (fun w' hq => pv_gtr rfl rfl) ?_)
        all_goals first | (refine at0 7 rfl (fun w' hq => pv_pick_t rfl (by first | assumption | exact decide_eq_true (by omega) | exact dec_notT (by omega)) rfl) ?_) | (refine at0 7 rfl (fun w' hq => pv_pick_f rfl (by first | assumption | exact decide_eq_false (by omega) | exact dec_notF (by omega)) rfl) ?_)
        all_goals (refine at0 8 rfl (fun w' hq => pv_move rfl) ?_)
        all_goals first | (refine an1 9 rfl rfl rfl rfl ?_) | (refine aw_gs 9 rfl rfl rfl (by kernel_rfl) (by kernel_rfl) (by kernel_rfl) hNP hS rfl (fun hc w' hq => pv_fa (tF rfl) rfl) (fun hc => ?_) (fun hc => ?_) <;> (first | replace hc := of_decide_eq_true hc | replace hc := of_decide_eq_false hc | replace hc := dec_nT hc | replace hc := dec_nF hc | skip) <;> (try (exfalso; omega)))
        all_goals first | (refine an1 10 rfl rfl rfl rfl ?_) | (refine an2 10 rfl rfl rfl ?_) | (refine at2 10 rfl rfl rfl (fun w' hq => pv_load (t1 rfl) rfl (by first | exact PT.ld0 (HX.mono hq) rfl | exact PT.ld (HX.mono hq) rfl)) ?_)
        all_goals first | (refine an1 11 rfl rfl rfl rfl ?_) | (refine an2 11 rfl rfl rfl ?_) | (refine at2 11 rfl rfl rfl (fun w' hq => pv_lss rfl rfl) ?_)
        all_goals first | (refine at0 12 rfl (fun w' hq => pv_pick_t rfl rfl rfl) ?_) | (refine at0 12 rfl (fun w' hq => pv_pick_t rfl (by first | assumption | exact decide_eq_true (by omega) | exact dec_notT (by omega)) rfl) ?_) | (refine at0 12 rfl (fun w' hq => pv_pick_f rfl (by first | assumption | exact decide_eq_false (by omega) | exact dec_notF (by omega)) rfl) ?_)
        all_goals (refine at0 13 rfl (fun w' hq => pv_move rfl) ?_)
        all_goals first | (refine an1 14 rfl rfl rfl rfl ?_) | (refine aw_gs 14 rfl rfl rfl (by kernel_rfl) (by kernel_rfl) (by kernel_rfl) hNP hS rfl (fun hc w' hq => pv_fa (tF rfl) rfl) (fun hc => ?_) (fun hc => ?_) <;> (first | replace hc := of_decide_eq_true hc | replace hc := of_decide_eq_false hc | replace hc := dec_nT hc | replace hc := dec_nF hc | skip) <;> (try (exfalso; omega)))
        all_goals first | (refine an1 15 rfl rfl rfl rfl ?_) | (refine an2 15 rfl rfl rfl ?_) | (refine at2 15 rfl rfl rfl (fun w' hq => pv_load (t1 rfl) rfl (by first | exact PT.ld0 (HX.mono hq) rfl | exact PT.ld (HX.mono hq) rfl)) ?_)
        all_goals first | (refine an1 16 rfl rfl rfl rfl ?_) | (refine an2 16 rfl rfl rfl ?_) | (refine at2 16 rfl rfl rfl (fun w' hq => pv_geq rfl rfl) ?_)
        all_goals first | (refine at0 17 rfl (fun w' hq => pv_pick_t rfl rfl rfl) ?_) | (refine at0 17 rfl (fun w' hq => pv_pick_t rfl (by first | assumption | exact decide_eq_true (by omega) | exact dec_notT (by omega)) rfl) ?_) | (refine at0 17 rfl (fun w' hq => pv_pick_f rfl (by first | assumption | exact decide_eq_false (by omega) | exact dec_notF (by omega)) rfl) ?_)
        all_goals (refine at0 18 rfl (fun w' hq => pv_move rfl) ?_)
        all_goals first | (refine an1 19 rfl rfl rfl rfl ?_) | (refine aw_gs 19 rfl rfl rfl (by kernel_rfl) (by kernel_rfl) (by kernel_rfl) hNP hS rfl (fun hc w' hq => pv_move rfl) (fun hc => ?_) (fun hc => ?_) <;> (first | replace hc := of_decide_eq_true hc | replace hc := of_decide_eq_false hc | replace hc := dec_nT hc | replace hc := dec_nF hc | skip) <;> (try (exfalso; omega)))
        all_goals first | (refine an1 20 rfl rfl rfl rfl ?_) | (refine an2 20 rfl rfl rfl ?_) | (refine at2 20 rfl rfl rfl (fun w' hq => pv_gtr rfl rfl) ?_)
        all_goals first | (refine an1 21 rfl rfl rfl rfl ?_) | (refine an2 21 rfl rfl rfl ?_) | (refine at2 21 rfl rfl rfl (fun w' hq => pv_move rfl) ?_)
        all_goals first | (refine an0 22 rfl rfl rfl ?_) | (refine an2 22 rfl rfl rfl ?_)
        all_goals first | (refine an0 23 rfl rfl rfl ?_) | (refine an2 23 rfl rfl rfl ?_)
        all_goals first | (refine an0 24 rfl rfl rfl ?_) | (refine an2 24 rfl rfl rfl ?_)
        all_goals first | (refine an0 25 rfl rfl rfl ?_) | (refine an2 25 rfl rfl rfl ?_)
        all_goals first | (refine an0 26 rfl rfl rfl ?_) | (refine an2 26 rfl rfl rfl ?_)
        all_goals first | (refine an0 27 rfl rfl rfl ?_) | (refine an2 27 rfl rfl rfl ?_)
        all_goals first | (refine an0 28 rfl rfl rfl ?_) | (refine an2 28 rfl rfl rfl ?_)
        all_goals first | (refine an0 29 rfl rfl rfl ?_) | (refine an2 29 rfl rfl rfl ?_)
        all_goals first | (refine an0 30 rfl rfl rfl ?_) | (refine an2 30 rfl rfl rfl ?_)
        all_goals first | (refine an1 31 rfl rfl rfl rfl ?_) | (refine an2 31 rfl rfl rfl ?_) | (refine at2 31 rfl rfl rfl (fun w' hq => pv_pick_f rfl (by first | assumption | exact decide_eq_false (by omega) | exact dec_notF (by omega)) rfl) ?_)
        all_goals first | (refine at0 32 rfl (fun w' hq => pv_pick_t rfl rfl rfl) ?_) | (refine at0 32 rfl (fun w' hq => pv_pick_t rfl (by first | assumption | exact decide_eq_true (by omega) | exact dec_notT (by omega)) rfl) ?_) | (refine at0 32 rfl (fun w' hq => pv_pick_f rfl (by first | assumption | exact decide_eq_false (by omega) | exact dec_notF (by omega)) rfl) ?_)
        all_goals (refine at0 33 rfl (fun w' hq => pv_move rfl) ?_)
        all_goals first | (refine an1 34 rfl rfl rfl rfl ?_) | (refine at1 34 rfl rfl rfl rfl (fun w' hq => pv_fa (tF rfl) rfl) ?_)
        all_goals first | (refine an1 35 rfl rfl rfl rfl ?_) | (refine at1 35 rfl rfl rfl rfl (fun w' hq => pv_load (t1 rfl) rfl (by first | exact PT.ld0 (HX.mono hq) rfl | exact PT.ld (HX.mono hq) rfl)) ?_)
        all_goals first | (refine an1 36 rfl rfl rfl rfl ?_) | (refine at1 36 rfl rfl rfl rfl (fun w' hq => pv_neq rfl rfl) ?_)
        all_goals first | (refine an1 37 rfl rfl rfl rfl ?_) | (refine at1 37 rfl rfl rfl rfl (fun w' hq => pv_move rfl) ?_)
        all_goals first | (refine an0 38 rfl rfl rfl ?_) | (refine aw_gs 38 rfl rfl rfl (by kernel_rfl) (by kernel_rfl) (by kernel_rfl) hNP hS rfl (fun hc w' hq => pv_fa (tF rfl) rfl) (fun hc => ?_) (fun hc => ?_) <;> (first | replace hc := of_decide_eq_true hc | replace hc := of_decide_eq_false hc | replace hc := dec_nT hc | replace hc := dec_nF hc | skip) <;> (try (exfalso; omega)))
        all_goals first | (refine an0 39 rfl rfl rfl ?_) | (refine an2 39 rfl rfl rfl ?_) | (refine at2 39 rfl rfl rfl (fun w' hq => pv_load (t1 rfl) rfl (by first | exact PT.ld0 (HX.mono hq) rfl | exact PT.ld (HX.mono hq) rfl)) ?_)
        all_goals first | (refine an0 40 rfl rfl rfl ?_) | (refine an2 40 rfl rfl rfl ?_) | (refine at2 40 rfl rfl rfl (fun w' hq => pv_neq rfl rfl) ?_)
        all_goals first | (refine an1 41 rfl rfl rfl rfl ?_) | (refine at1 41 rfl rfl rfl rfl (fun w' hq => pv_pick_t rfl (by first | assumption | exact decide_eq_true (by omega) | exact dec_notT (by omega)) rfl) ?_) | (refine at1 41 rfl rfl rfl rfl (fun w' hq => pv_pick_f rfl (by first | assumption | exact decide_eq_false (by omega) | exact dec_notF (by omega)) rfl) ?_)
        all_goals first | (refine an1 42 rfl rfl rfl rfl ?_) | (refine at1 42 rfl rfl rfl rfl (fun w' hq => pv_move rfl) ?_)
        all_goals first | (refine an1 43 rfl rfl rfl rfl ?_) | (refine an0 43 rfl rfl rfl ?_) | (refine aw_gs 43 rfl rfl rfl (by kernel_rfl) (by kernel_rfl) (by kernel_rfl) hNP hS rfl (fun hc w' hq => pv_fa (tF rfl) rfl) (fun hc => ?_) (fun hc => ?_) <;> (first | replace hc := of_decide_eq_true hc | replace hc := of_decide_eq_false hc | replace hc := dec_nT hc | replace hc := dec_nF hc | skip) <;> (try (exfalso; omega)))
        all_goals first | (refine an1 44 rfl rfl rfl rfl ?_) | (refine an0 44 rfl rfl rfl ?_) | (refine an2 44 rfl rfl rfl ?_) | (refine at2 44 rfl rfl rfl (fun w' hq => pv_load (t1 rfl) rfl (by first | exact PT.ld0 (HX.mono hq) rfl | exact PT.ld (HX.mono hq) rfl)) ?_)
        all_goals first | (refine an1 45 rfl rfl rfl rfl ?_) | (refine an0 45 rfl rfl rfl ?_) | (refine an2 45 rfl rfl rfl ?_) | (refine at2 45 rfl rfl rfl (fun w' hq => pv_neq rfl rfl) ?_)
        all_goals first | (refine an1 46 rfl rfl rfl rfl ?_) | (refine at1 46 rfl rfl rfl rfl (fun w' hq => pv_pick_f rfl rfl rfl) ?_) | (refine at1 46 rfl rfl rfl rfl (fun w' hq => pv_pick_t rfl (by first | assumption | exact decide_eq_true (by omega) | exact dec_notT (by omega)) rfl) ?_) | (refine at1 46 rfl rfl rfl rfl (fun w' hq => pv_pick_f rfl (by first | assumption | exact decide_eq_false (by omega) | exact dec_notF (by omega)) rfl) ?_)
        all_goals first | (refine an1 47 rfl rfl rfl rfl ?_) | (refine at1 47 rfl rfl rfl rfl (fun w' hq => pv_move rfl) ?_)
        all_goals first | (refine an1 48 rfl rfl rfl rfl ?_) | (refine an0 48 rfl rfl rfl ?_) | (refine aw_gs 48 rfl rfl rfl (by kernel_rfl) (by kernel_rfl) (by kernel_rfl) hNP hS rfl (fun hc w' hq => pv_fa (tF rfl) rfl) (fun hc => ?_) (fun hc => ?_) <;> (first | replace hc := of_decide_eq_true hc | replace hc := of_decide_eq_false hc | replace hc := dec_nT hc | replace hc := dec_nF hc | skip) <;> (try (exfalso; omega)))
        all_goals first | (refine an1 49 rfl rfl rfl rfl ?_) | (refine an0 49 rfl rfl rfl ?_) | (refine an2 49 rfl rfl rfl ?_) | (refine at2 49 rfl rfl rfl (fun w' hq => pv_load (t1 rfl) rfl (by first | exact PT.ld0 (HX.mono hq) rfl | exact PT.ld (HX.mono hq) rfl)) ?_)
        all_goals first | (refine an1 50 rfl rfl rfl rfl ?_) | (refine an0 50 rfl rfl rfl ?_) | (refine an2 50 rfl rfl rfl ?_) | (refine at2 50 rfl rfl rfl (fun w' hq => pv_neq rfl rfl) ?_)
        all_goals first | (refine an1 51 rfl rfl rfl rfl ?_) | (refine at1 51 rfl rfl rfl rfl (fun w' hq => pv_pick_f rfl rfl rfl) ?_) | (refine at1 51 rfl rfl rfl rfl (fun w' hq => pv_pick_t rfl (by first | assumption | exact decide_eq_true (by omega) | exact dec_notT (by omega)) rfl) ?_) | (refine at1 51 rfl rfl rfl rfl (fun w' hq => pv_pick_f rfl (by first | assumption | exact decide_eq_false (by omega) | exact dec_notF (by omega)) rfl) ?_)
        all_goals first | (refine an1 52 rfl rfl rfl rfl ?_) | (refine at1 52 rfl rfl rfl rfl (fun w' hq => pv_move rfl) ?_)
        all_goals first | (refine an1 53 rfl rfl rfl rfl ?_) | (refine an0 53 rfl rfl rfl ?_) | (refine aw_gs 53 rfl rfl rfl (by kernel_rfl) (by kernel_rfl) (by kernel_rfl) hNP hS rfl (fun hc w' hq => pv_fa (tF rfl) rfl) (fun hc => ?_) (fun hc => ?_) <;> (first | replace hc := of_decide_eq_true hc | replace hc := of_decide_eq_false hc | replace hc := dec_nT hc | replace hc := dec_nF hc | skip) <;> (try (exfalso; omega)))
        all_goals first | (refine an1 54 rfl rfl rfl rfl ?_) | (refine an0 54 rfl rfl rfl ?_) | (refine an2 54 rfl rfl rfl ?_) | (refine at2 54 rfl rfl rfl (fun w' hq => pv_load (t1 rfl) rfl (by first | exact PT.ld0 (HX.mono hq) rfl | exact PT.ld (HX.mono hq) rfl)) ?_)
        all_goals first | (refine an1 55 rfl rfl rfl rfl ?_) | (refine an0 55 rfl rfl rfl ?_) | (refine an2 55 rfl rfl rfl ?_) | (refine at2 55 rfl rfl rfl (fun w' hq => pv_neq rfl rfl) ?_)
        all_goals first | (refine an1 56 rfl rfl rfl rfl ?_) | (refine at1 56 rfl rfl rfl rfl (fun w' hq => pv_pick_f rfl rfl rfl) ?_) | (refine at1 56 rfl rfl rfl rfl (fun w' hq => pv_pick_t rfl (by first | assumption | exact decide_eq_true (by omega) | exact dec_notT (by omega)) rfl) ?_) | (refine at1 56 rfl rfl rfl rfl (fun w' hq => pv_pick_f rfl (by first | assumption | exact decide_eq_false (by omega) | exact dec_notF (by omega)) rfl) ?_)
        all_goals first | (refine at0 57 rfl (fun w' hq => pv_pick_t rfl rfl rfl) ?_) | (refine at0 57 rfl (fun w' hq => pv_pick_f rfl rfl rfl) ?_)
        all_goals (refine at0 58 rfl (fun w' hq => pv_move rfl) ?_)
        all_goals first | (refine an1 59 rfl rfl rfl rfl ?_) | (refine at1 59 rfl rfl rfl rfl (fun w' hq => pv_fa (tF rfl) rfl) ?_) | (refine aw_gs 59 rfl rfl rfl (by kernel_rfl) (by kernel_rfl) (by kernel_rfl) hNP hS rfl (fun hc w' hq => pv_fa (tF rfl) rfl) (fun hc => ?_) (fun hc => ?_) <;> (first | replace hc := of_decide_eq_true hc | replace hc := of_decide_eq_false hc | replace hc := dec_nT hc | replace hc := dec_nF hc | skip) <;> (try (exfalso; omega)))
        all_goals first | (refine an1 60 rfl rfl rfl rfl ?_) | (refine at1 60 rfl rfl rfl rfl (fun w' hq => pv_load (t1 rfl) rfl (by first | exact PT.ld0 (HX.mono hq) rfl | exact PT.ld (HX.mono hq) rfl)) ?_) | (refine an2 60 rfl rfl rfl ?_) | (refine at2 60 rfl rfl rfl (fun w' hq => pv_load (t1 rfl) rfl (by first | exact PT.ld0 (HX.mono hq) rfl | exact PT.ld (HX.mono hq) rfl)) ?_)
        all_goals first | (refine an1 61 rfl rfl rfl rfl ?_) | (refine at1 61 rfl rfl rfl rfl (fun w' hq => pv_eql rfl rfl) ?_) | (refine an2 61 rfl rfl rfl ?_) | (refine at2 61 rfl rfl rfl (fun w' hq => pv_eql rfl rfl) ?_)
        all_goals first | (refine at0 62 rfl (fun w' hq => pv_pick_t rfl rfl rfl) ?_) | (refine at0 62 rfl (fun w' hq => pv_pick_f rfl rfl rfl) ?_) | (refine at0 62 rfl (fun w' hq => pv_pick_t rfl (by first | assumption | exact decide_eq_true (by omega) | exact dec_notT (by omega)) rfl) ?_) | (refine at0 62 rfl (fun w' hq => pv_pick_f rfl (by first | assumption | exact decide_eq_false (by omega) | exact dec_notF (by omega)) rfl) ?_)
        all_goals (refine at0 63 rfl (fun w' hq => pv_move rfl) ?_)
        all_goals first | (refine an1 64 rfl rfl rfl rfl ?_) | (refine aw_gs 64 rfl rfl rfl (by kernel_rfl) (by kernel_rfl) (by kernel_rfl) hNP hS rfl (fun hc w' hq => pv_fa (tF rfl) rfl) (fun hc => ?_) (fun hc => ?_) <;> (first | replace hc := of_decide_eq_true hc | replace hc := of_decide_eq_false hc | replace hc := dec_nT hc | replace hc := dec_nF hc | skip) <;> (try (exfalso; omega)))
        all_goals first | (refine an1 65 rfl rfl rfl rfl ?_) | (refine an2 65 rfl rfl rfl ?_) | (refine at2 65 rfl rfl rfl (fun w' hq => pv_load (t1 rfl) rfl (by first | exact PT.ld0 (HX.mono hq) rfl | exact PT.ld (HX.mono hq) rfl)) ?_)
        all_goals first | (refine an1 66 rfl rfl rfl rfl ?_) | (refine an2 66 rfl rfl rfl ?_) | (refine at2 66 rfl rfl rfl (fun w' hq => pv_lss rfl rfl) ?_)
        all_goals first | (refine at0 67 rfl (fun w' hq => pv_pick_t rfl rfl rfl) ?_) | (refine at0 67 rfl (fun w' hq => pv_pick_t rfl (by first | assumption | exact decide_eq_true (by omega) | exact dec_notT (by omega)) rfl) ?_) | (refine at0 67 rfl (fun w' hq => pv_pick_f rfl (by first | assumption | exact decide_eq_false (by omega) | exact dec_notF (by omega)) rfl) ?_)
        all_goals (refine at0 68 rfl (fun w' hq => pv_move rfl) ?_)
        all_goals first | (refine an1 69 rfl rfl rfl rfl ?_) | (refine aw_gs 69 rfl rfl rfl (by kernel_rfl) (by kernel_rfl) (by kernel_rfl) hNP hS rfl (fun hc w' hq => pv_fa (tF rfl) rfl) (fun hc => ?_) (fun hc => ?_) <;> (first | replace hc := of_decide_eq_true hc | replace hc := of_decide_eq_false hc | replace hc := dec_nT hc | replace hc := dec_nF hc | skip) <;> (try (exfalso; omega)))
        all_goals first | (refine an1 70 rfl rfl rfl rfl ?_) | (refine an2 70 rfl rfl rfl ?_) | (refine at2 70 rfl rfl rfl (fun w' hq => pv_load (t1 rfl) rfl (by first | exact PT.ld0 (HX.mono hq) rfl | exact PT.ld (HX.mono hq) rfl)) ?_)
        all_goals first | (refine an1 71 rfl rfl rfl rfl ?_) | (refine an2 71 rfl rfl rfl ?_) | (refine at2 71 rfl rfl rfl (fun w' hq => pv_gtr rfl rfl) ?_)
        all_goals first | (refine at0 72 rfl (fun w' hq => pv_pick_t rfl rfl rfl) ?_) | (refine at0 72 rfl (fun w' hq => pv_pick_t rfl (by first | assumption | exact decide_eq_true (by omega) | exact dec_notT (by omega)) rfl) ?_) | (refine at0 72 rfl (fun w' hq => pv_pick_f rfl (by first | assumption | exact decide_eq_false (by omega) | exact dec_notF (by omega)) rfl) ?_)
        all_goals (refine aw_done (by kernel_rfl) ?_; replace hw := hS; clear hS hNP)
        all_goals repeat' (first | (refine lw_pure rfl (pv_assign rfl) ?_) | (refine is_cw ?_; first | (refine cw_seq ?_) | (refine cw_region ?_) | (refine cw_true rfl rfl ?_) | (refine cw_skip ?_) | (refine cw_ret ?_)) | (refine is_qw ?_; first | (with_reducible refine qw_then ?_) | (with_reducible refine qw_then_ret ?_) | (with_reducible refine qw_in_ret ?_)) | (refine lw_nil ?_) | (refine is_cw ?_; refine cw_split rfl (fun hc => ?_) (fun hc => ?_) <;> (first | replace hc := of_decide_eq_true hc | replace hc := of_decide_eq_false hc | replace hc := dec_nT hc | replace hc := dec_nF hc | skip) <;> (try (exfalso; omega))))
        all_goals first | (refine qw_join () (by repeat' (first | exact trivial | refine ⟨rfl, ?_⟩)) ⟨hw, ?_⟩; rw [hsq]; omega) | (refine qw_ret1 rfl rfl ⟨ret_bool (hnc ?_).symm, grow_trans hw0 hw⟩; rw [hsq]; omega)
      · obtain ⟨j, rfl⟩ : ∃ j, k = j + 1 := ⟨k - 1, by omega⟩
        have hxj : l[j]? = some (l[j]'(by omega)) := List.getElem?_eq_getElem (by omega)
        generalize l[j]'(by omega) = y at hxj
        have hsq : seqL (l.take (j + 1)) = y.seq := by rw [tailM hxj, seqL_snoc]
        have hjj : (((j + 1 : Nat) : Int) - 1).toNat = j := by omega
        have hld : ∀ w' : World, Below wn.heap.size wn w' → w'.cell? ⟨ab, ao + (((j + 1 : Nat) : Int) - 1).toNat * 5 + 1, none⟩ = some (.int .i64 y.seq) := fun w' h => by rw [hjj]; exact (HS.mono h).ld hxj rfl
        refine cw_seq ?_
        refine cw_drawn (fun w' => Below wn.heap.size wn w') (by kernel_rfl) (by repeat (first | exact NoPanic.body | with_reducible refine NoPanic.then ?_ | with_reducible refine NoPanic.inBlock ?_)) (fun hNP => ?_)
        have hS := hw.drew
        all_goals (refine at0 0 rfl (fun w' hq => pv_fa (tF rfl) rfl) ?_)
        all_goals (refine at0 1 rfl (fun w' hq => pv_load (t1 rfl) rfl (by first | exact PT.ld0 (HX.mono hq) rfl | exact PT.ld (HX.mono hq) rfl)) ?_)
        all_goals (refine at0 2 rfl (fun w' hq => pv_lss rfl rfl) ?_)
        all_goals (refine at0 3 rfl (fun w' hq => pv_move rfl) ?_)
        all_goals (refine aw_gs 4 rfl rfl rfl (by kernel_rfl) (by kernel_rfl) (by kernel_rfl) hNP hS rfl (fun hc w' hq => pv_fa (tF rfl) rfl) (fun hc => ?_) (fun hc => ?_) <;> (first | replace hc := of_decide_eq_true hc | replace hc := of_decide_eq_false hc | replace hc := dec_nT hc | replace hc := dec_nF hc | skip) <;> (try (exfalso; omega)))
        all_goals first | (refine an2 5 rfl rfl rfl ?_) | (refine at2 5 rfl rfl rfl (fun w' hq => pv_load (t1 rfl) rfl (by first | exact PT.ld0 (HX.mono hq) rfl | exact PT.ld (HX.mono hq) rfl)) ?_)
        all_goals first | (refine an2 6 rfl rfl rfl ?_) | (refine at2 6 rfl rfl rfl (fun w' hq => pv_gtr rfl rfl) ?_)
        all_goals first | (refine at0 7 rfl (fun w' hq => pv_pick_t rfl (by first | assumption | exact decide_eq_true (by omega) | exact dec_notT (by omega)) rfl) ?_) | (refine at0 7 rfl (fun w' hq => pv_pick_f rfl (by first | assumption | exact decide_eq_false (by omega) | exact dec_notF (by omega)) rfl) ?_)
        all_goals (refine at0 8 rfl (fun w' hq => pv_move rfl) ?_)
        all_goals first | (refine an1 9 rfl rfl rfl rfl ?_) | (refine aw_gs 9 rfl rfl rfl (by kernel_rfl) (by kernel_rfl) (by kernel_rfl) hNP hS rfl (fun hc w' hq => pv_fa (tF rfl) rfl) (fun hc => ?_) (fun hc => ?_) <;> (first | replace hc := of_decide_eq_true hc | replace hc := of_decide_eq_false hc | replace hc := dec_nT hc | replace hc := dec_nF hc | skip) <;> (try (exfalso; omega)))
        all_goals first | (refine an1 10 rfl rfl rfl rfl ?_) | (refine an2 10 rfl rfl rfl ?_) | (refine at2 10 rfl rfl rfl (fun w' hq => pv_load (t1 rfl) rfl (by first | exact PT.ld0 (HX.mono hq) rfl | exact PT.ld (HX.mono hq) rfl)) ?_)
        all_goals first | (refine an1 11 rfl rfl rfl rfl ?_) | (refine an2 11 rfl rfl rfl ?_) | (refine at2 11 rfl rfl rfl (fun w' hq => pv_lss rfl rfl) ?_)
        all_goals first | (refine at0 12 rfl (fun w' hq => pv_pick_t rfl rfl rfl) ?_) | (refine at0 12 rfl (fun w' hq => pv_pick_t rfl (by first | assumption | exact decide_eq_true (by omega) | exact dec_notT (by omega)) rfl) ?_) | (refine at0 12 rfl (fun w' hq => pv_pick_f rfl (by first | assumption | exact decide_eq_false (by omega) | exact dec_notF (by omega)) rfl) ?_)
        all_goals (refine at0 13 rfl (fun w' hq => pv_move rfl) ?_)
        all_goals first | (refine an1 14 rfl rfl rfl rfl ?_) | (refine aw_gs 14 rfl rfl rfl (by kernel_rfl) (by kernel_rfl) (by kernel_rfl) hNP hS rfl (fun hc w' hq => pv_fa (tF rfl) rfl) (fun hc => ?_) (fun hc => ?_) <;> (first | replace hc := of_decide_eq_true hc | replace hc := of_decide_eq_false hc | replace hc := dec_nT hc | replace hc := dec_nF hc | skip) <;> (try (exfalso; omega)))
        all_goals first | (refine an1 15 rfl rfl rfl rfl ?_) | (refine an2 15 rfl rfl rfl ?_) | (refine at2 15 rfl rfl rfl (fun w' hq => pv_load (t1 rfl) rfl (by first | exact PT.ld0 (HX.mono hq) rfl | exact PT.ld (HX.mono hq) rfl)) ?_)
        all_goals first | (refine an1 16 rfl rfl rfl rfl ?_) | (refine an2 16 rfl rfl rfl ?_) | (refine at2 16 rfl rfl rfl (fun w' hq => pv_geq rfl rfl) ?_)
        all_goals first | (refine at0 17 rfl (fun w' hq => pv_pick_t rfl rfl rfl) ?_) | (refine at0 17 rfl (fun w' hq => pv_pick_t rfl (by first | assumption | exact decide_eq_true (by omega) | exact dec_notT (by omega)) rfl) ?_) | (refine at0 17 rfl (fun w' hq => pv_pick_f rfl (by first | assumption | exact decide_eq_false (by omega) | exact dec_notF (by omega)) rfl) ?_)
        all_goals (refine at0 18 rfl (fun w' hq => pv_move rfl) ?_)
        all_goals first | (refine an1 19 rfl rfl rfl rfl ?_) | (refine aw_gs 19 rfl rfl rfl (by kernel_rfl) (by kernel_rfl) (by kernel_rfl) hNP hS rfl (fun hc w' hq => pv_move rfl) (fun hc => ?_) (fun hc => ?_) <;> (first | replace hc := of_decide_eq_true hc | replace hc := of_decide_eq_false hc | replace hc := dec_nT hc | replace hc := dec_nF hc | skip) <;> (try (exfalso; omega)))
        all_goals first | (refine an1 20 rfl rfl rfl rfl ?_) | (refine an2 20 rfl rfl rfl ?_) | (refine at2 20 rfl rfl rfl (fun w' hq => pv_gtr rfl rfl) ?_)
        all_goals first | (refine an1 21 rfl rfl rfl rfl ?_) | (refine an2 21 rfl rfl rfl ?_) | (refine at2 21 rfl rfl rfl (fun w' hq => pv_move rfl) ?_)
        all_goals first | (refine an0 22 rfl rfl rfl ?_) | (refine at2 22 rfl rfl rfl (fun w' hq => pv_fa (tF rfl) rfl) ?_)
        all_goals first | (refine an0 23 rfl rfl rfl ?_) | (refine at2 23 rfl rfl rfl (fun w' hq => pv_load (t1 rfl) rfl (by first | exact PT.ld0 (HX.mono hq) rfl | exact PT.ld (HX.mono hq) rfl)) ?_)
        all_goals first | (refine an0 24 rfl rfl rfl ?_) | (refine at2 24 rfl rfl rfl (fun w' hq => pv_move rfl) ?_)
        all_goals first | (refine an0 25 rfl rfl rfl ?_) | (refine at2 25 rfl rfl rfl (fun w' hq => pv_move rfl) ?_)
        all_goals first | (refine an0 26 rfl rfl rfl ?_) | (refine at2 26 rfl rfl rfl (fun w' hq => pv_sub rfl rfl (by omega)) ?_)
        all_goals first | (refine an0 27 rfl rfl rfl ?_) | (refine at2 27 rfl rfl rfl (fun w' hq => pv_ia (tS rfl) rfl rfl (by omega)) ?_)
        all_goals first | (refine an0 28 rfl rfl rfl ?_) | (refine at2 28 rfl rfl rfl (fun w' hq => pv_fa (tF rfl) rfl) ?_)
        all_goals first | (refine an0 29 rfl rfl rfl ?_) | (refine at2 29 rfl rfl rfl (fun w' hq => pv_load (t1 rfl) rfl (hld _ hq)) ?_)
        all_goals first | (refine an0 30 rfl rfl rfl ?_) | (refine at2 30 rfl rfl rfl (fun w' hq => pv_lss rfl rfl) ?_)
        all_goals first | (refine an1 31 rfl rfl rfl rfl ?_) | (refine an2 31 rfl rfl rfl ?_) | (refine at2 31 rfl rfl rfl (fun w' hq => pv_pick_t rfl (by first | assumption | exact decide_eq_true (by omega) | exact dec_notT (by omega)) rfl) ?_)
        all_goals first | (refine at0 32 rfl (fun w' hq => pv_pick_t rfl rfl rfl) ?_) | (refine at0 32 rfl (fun w' hq => pv_pick_t rfl (by first | assumption | exact decide_eq_true (by omega) | exact dec_notT (by omega)) rfl) ?_) | (refine at0 32 rfl (fun w' hq => pv_pick_f rfl (by first | assumption | exact decide_eq_false (by omega) | exact dec_notF (by omega)) rfl) ?_)
        all_goals (refine at0 33 rfl (fun w' hq => pv_move rfl) ?_)
        all_goals first | (refine an1 34 rfl rfl rfl rfl ?_) | (refine aw_gs 34 rfl rfl rfl (by kernel_rfl) (by kernel_rfl) (by kernel_rfl) hNP hS rfl (fun hc w' hq => pv_fa (tF rfl) rfl) (fun hc => ?_) (fun hc => ?_) <;> (first | replace hc := of_decide_eq_true hc | replace hc := of_decide_eq_false hc | replace hc := dec_nT hc | replace hc := dec_nF hc | skip) <;> (try (exfalso; omega)))
        all_goals first | (refine an1 35 rfl rfl rfl rfl ?_) | (refine an2 35 rfl rfl rfl ?_) | (refine at2 35 rfl rfl rfl (fun w' hq => pv_load (t1 rfl) rfl (by first | exact PT.ld0 (HX.mono hq) rfl | exact PT.ld (HX.mono hq) rfl)) ?_)
        all_goals first | (refine an1 36 rfl rfl rfl rfl ?_) | (refine an2 36 rfl rfl rfl ?_) | (refine at2 36 rfl rfl rfl (fun w' hq => pv_neq rfl rfl) ?_)
        all_goals first | (refine an1 37 rfl rfl rfl rfl ?_) | (refine an2 37 rfl rfl rfl ?_) | (refine at2 37 rfl rfl rfl (fun w' hq => pv_move rfl) ?_)
        all_goals first | (refine an0 38 rfl rfl rfl ?_) | (refine aw_gs 38 rfl rfl rfl (by kernel_rfl) (by kernel_rfl) (by kernel_rfl) hNP hS rfl (fun hc w' hq => pv_fa (tF rfl) rfl) (fun hc => ?_) (fun hc => ?_) <;> (first | replace hc := of_decide_eq_true hc | replace hc := of_decide_eq_false hc | replace hc := dec_nT hc | replace hc := dec_nF hc | skip) <;> (try (exfalso; omega)))
        all_goals first | (refine an0 39 rfl rfl rfl ?_) | (refine an2 39 rfl rfl rfl ?_) | (refine at2 39 rfl rfl rfl (fun w' hq => pv_load (t1 rfl) rfl (by first | exact PT.ld0 (HX.mono hq) rfl | exact PT.ld (HX.mono hq) rfl)) ?_)
        all_goals first | (refine an0 40 rfl rfl rfl ?_) | (refine an2 40 rfl rfl rfl ?_) | (refine at2 40 rfl rfl rfl (fun w' hq => pv_neq rfl rfl) ?_)
        all_goals first | (refine an1 41 rfl rfl rfl rfl ?_) | (refine an2 41 rfl rfl rfl ?_) | (refine at2 41 rfl rfl rfl (fun w' hq => pv_pick_t rfl (by first | assumption | exact decide_eq_true (by omega) | exact dec_notT (by omega)) rfl) ?_) | (refine at2 41 rfl rfl rfl (fun w' hq => pv_pick_f rfl (by first | assumption | exact decide_eq_false (by omega) | exact dec_notF (by omega)) rfl) ?_)
        all_goals first | (refine an1 42 rfl rfl rfl rfl ?_) | (refine an2 42 rfl rfl rfl ?_) | (refine at2 42 rfl rfl rfl (fun w' hq => pv_move rfl) ?_)
        all_goals first | (refine an1 43 rfl rfl rfl rfl ?_) | (refine an0 43 rfl rfl rfl ?_) | (refine aw_gs 43 rfl rfl rfl (by kernel_rfl) (by kernel_rfl) (by kernel_rfl) hNP hS rfl (fun hc w' hq => pv_fa (tF rfl) rfl) (fun hc => ?_) (fun hc => ?_) <;> (first | replace hc := of_decide_eq_true hc | replace hc := of_decide_eq_false hc | replace hc := dec_nT hc | replace hc := dec_nF hc | skip) <;> (try (exfalso; omega)))
        all_goals first | (refine an1 44 rfl rfl rfl rfl ?_) | (refine an0 44 rfl rfl rfl ?_) | (refine an2 44 rfl rfl rfl ?_) | (refine at2 44 rfl rfl rfl (fun w' hq => pv_load (t1 rfl) rfl (by first | exact PT.ld0 (HX.mono hq) rfl | exact PT.ld (HX.mono hq) rfl)) ?_)
        all_goals first | (refine an1 45 rfl rfl rfl rfl ?_) | (refine an0 45 rfl rfl rfl ?_) | (refine an2 45 rfl rfl rfl ?_) | (refine at2 45 rfl rfl rfl (fun w' hq => pv_neq rfl rfl) ?_)
        all_goals first | (refine an1 46 rfl rfl rfl rfl ?_) | (refine an2 46 rfl rfl rfl ?_) | (refine at2 46 rfl rfl rfl (fun w' hq => pv_pick_f rfl rfl rfl) ?_) | (refine at2 46 rfl rfl rfl (fun w' hq => pv_pick_t rfl (by first | assumption | exact decide_eq_true (by omega) | exact dec_notT (by omega)) rfl) ?_) | (refine at2 46 rfl rfl rfl (fun w' hq => pv_pick_f rfl (by first | assumption | exact decide_eq_false (by omega) | exact dec_notF (by omega)) rfl) ?_)
        all_goals first | (refine an1 47 rfl rfl rfl rfl ?_) | (refine an2 47 rfl rfl rfl ?_) | (refine at2 47 rfl rfl rfl (fun w' hq => pv_move rfl) ?_)
        all_goals first | (refine an1 48 rfl rfl rfl rfl ?_) | (refine an0 48 rfl rfl rfl ?_) | (refine aw_gs 48 rfl rfl rfl (by kernel_rfl) (by kernel_rfl) (by kernel_rfl) hNP hS rfl (fun hc w' hq => pv_fa (tF rfl) rfl) (fun hc => ?_) (fun hc => ?_) <;> (first | replace hc := of_decide_eq_true hc | replace hc := of_decide_eq_false hc | replace hc := dec_nT hc | replace hc := dec_nF hc | skip) <;> (try (exfalso; omega)))
        all_goals first | (refine an1 49 rfl rfl rfl rfl ?_) | (refine an0 49 rfl rfl rfl ?_) | (refine an2 49 rfl rfl rfl ?_) | (refine at2 49 rfl rfl rfl (fun w' hq => pv_load (t1 rfl) rfl (by first | exact PT.ld0 (HX.mono hq) rfl | exact PT.ld (HX.mono hq) rfl)) ?_)
        all_goals first | (refine an1 50 rfl rfl rfl rfl ?_) | (refine an0 50 rfl rfl rfl ?_) | (refine an2 50 rfl rfl rfl ?_) | (refine at2 50 rfl rfl rfl (fun w' hq => pv_neq rfl rfl) ?_)
        all_goals first | (refine an1 51 rfl rfl rfl rfl ?_) | (refine an2 51 rfl rfl rfl ?_) | (refine at2 51 rfl rfl rfl (fun w' hq => pv_pick_f rfl rfl rfl) ?_) | (refine at2 51 rfl rfl rfl (fun w' hq => pv_pick_t rfl (by first | assumption | exact decide_eq_true (by omega) | exact dec_notT (by omega)) rfl) ?_) | (refine at2 51 rfl rfl rfl (fun w' hq => pv_pick_f rfl (by first | assumption | exact decide_eq_false (by omega) | exact dec_notF (by omega)) rfl) ?_)
        all_goals first | (refine an1 52 rfl rfl rfl rfl ?_) | (refine an2 52 rfl rfl rfl ?_) | (refine at2 52 rfl rfl rfl (fun w' hq => pv_move rfl) ?_)
        all_goals first | (refine an1 53 rfl rfl rfl rfl ?_) | (refine an0 53 rfl rfl rfl ?_) | (refine aw_gs 53 rfl rfl rfl (by kernel_rfl) (by kernel_rfl) (by kernel_rfl) hNP hS rfl (fun hc w' hq => pv_fa (tF rfl) rfl) (fun hc => ?_) (fun hc => ?_) <;> (first | replace hc := of_decide_eq_true hc | replace hc := of_decide_eq_false hc | replace hc := dec_nT hc | replace hc := dec_nF hc | skip) <;> (try (exfalso; omega)))
        all_goals first | (refine an1 54 rfl rfl rfl rfl ?_) | (refine an0 54 rfl rfl rfl ?_) | (refine an2 54 rfl rfl rfl ?_) | (refine at2 54 rfl rfl rfl (fun w' hq => pv_load (t1 rfl) rfl (by first | exact PT.ld0 (HX.mono hq) rfl | exact PT.ld (HX.mono hq) rfl)) ?_)
        all_goals first | (refine an1 55 rfl rfl rfl rfl ?_) | (refine an0 55 rfl rfl rfl ?_) | (refine an2 55 rfl rfl rfl ?_) | (refine at2 55 rfl rfl rfl (fun w' hq => pv_neq rfl rfl) ?_)
        all_goals first | (refine an1 56 rfl rfl rfl rfl ?_) | (refine an2 56 rfl rfl rfl ?_) | (refine at2 56 rfl rfl rfl (fun w' hq => pv_pick_f rfl rfl rfl) ?_) | (refine at2 56 rfl rfl rfl (fun w' hq => pv_pick_t rfl (by first | assumption | exact decide_eq_true (by omega) | exact dec_notT (by omega)) rfl) ?_) | (refine at2 56 rfl rfl rfl (fun w' hq => pv_pick_f rfl (by first | assumption | exact decide_eq_false (by omega) | exact dec_notF (by omega)) rfl) ?_)
        all_goals first | (refine at0 57 rfl (fun w' hq => pv_pick_t rfl rfl rfl) ?_) | (refine at0 57 rfl (fun w' hq => pv_pick_t rfl (by first | assumption | exact decide_eq_true (by omega) | exact dec_notT (by omega)) rfl) ?_) | (refine at0 57 rfl (fun w' hq => pv_pick_f rfl (by first | assumption | exact decide_eq_false (by omega) | exact dec_notF (by omega)) rfl) ?_)
        all_goals (refine at0 58 rfl (fun w' hq => pv_move rfl) ?_)
        all_goals first | (refine an1 59 rfl rfl rfl rfl ?_) | (refine at1 59 rfl rfl rfl rfl (fun w' hq => pv_fa (tF rfl) rfl) ?_) | (refine aw_gs 59 rfl rfl rfl (by kernel_rfl) (by kernel_rfl) (by kernel_rfl) hNP hS rfl (fun hc w' hq => pv_fa (tF rfl) rfl) (fun hc => ?_) (fun hc => ?_) <;> (first | replace hc := of_decide_eq_true hc | replace hc := of_decide_eq_false hc | replace hc := dec_nT hc | replace hc := dec_nF hc | skip) <;> (try (exfalso; omega)))
        all_goals first | (refine an1 60 rfl rfl rfl rfl ?_) | (refine at1 60 rfl rfl rfl rfl (fun w' hq => pv_load (t1 rfl) rfl (by first | exact PT.ld0 (HX.mono hq) rfl | exact PT.ld (HX.mono hq) rfl)) ?_) | (refine an2 60 rfl rfl rfl ?_) | (refine at2 60 rfl rfl rfl (fun w' hq => pv_load (t1 rfl) rfl (by first | exact PT.ld0 (HX.mono hq) rfl | exact PT.ld (HX.mono hq) rfl)) ?_)
        all_goals first | (refine an1 61 rfl rfl rfl rfl ?_) | (refine at1 61 rfl rfl rfl rfl (fun w' hq => pv_eql rfl rfl) ?_) | (refine an2 61 rfl rfl rfl ?_) | (refine at2 61 rfl rfl rfl (fun w' hq => pv_eql rfl rfl) ?_)
        all_goals first | (refine at0 62 rfl (fun w' hq => pv_pick_t rfl rfl rfl) ?_) | (refine at0 62 rfl (fun w' hq => pv_pick_f rfl rfl rfl) ?_) | (refine at0 62 rfl (fun w' hq => pv_pick_t rfl (by first | assumption | exact decide_eq_true (by omega) | exact dec_notT (by omega)) rfl) ?_) | (refine at0 62 rfl (fun w' hq => pv_pick_f rfl (by first | assumption | exact decide_eq_false (by omega) | exact dec_notF (by omega)) rfl) ?_)
        all_goals (refine at0 63 rfl (fun w' hq => pv_move rfl) ?_)
        all_goals first | (refine an1 64 rfl rfl rfl rfl ?_) | (refine aw_gs 64 rfl rfl rfl (by kernel_rfl) (by kernel_rfl) (by kernel_rfl) hNP hS rfl (fun hc w' hq => pv_fa (tF rfl) rfl) (fun hc => ?_) (fun hc => ?_) <;> (first | replace hc := of_decide_eq_true hc | replace hc := of_decide_eq_false hc | replace hc := dec_nT hc | replace hc := dec_nF hc | skip) <;> (try (exfalso; omega)))
        all_goals first | (refine an1 65 rfl rfl rfl rfl ?_) | (refine an2 65 rfl rfl rfl ?_) | (refine at2 65 rfl rfl rfl (fun w' hq => pv_load (t1 rfl) rfl (by first | exact PT.ld0 (HX.mono hq) rfl | exact PT.ld (HX.mono hq) rfl)) ?_)
        all_goals first | (refine an1 66 rfl rfl rfl rfl ?_) | (refine an2 66 rfl rfl rfl ?_) | (refine at2 66 rfl rfl rfl (fun w' hq => pv_lss rfl rfl) ?_)
        all_goals first | (refine at0 67 rfl (fun w' hq => pv_pick_t rfl rfl rfl) ?_) | (refine at0 67 rfl (fun w' hq => pv_pick_t rfl (by first | assumption | exact decide_eq_true (by omega) | exact dec_notT (by omega)) rfl) ?_) | (refine at0 67 rfl (fun w' hq => pv_pick_f rfl (by first | assumption | exact decide_eq_false (by omega) | exact dec_notF (by omega)) rfl) ?_)
        all_goals (refine at0 68 rfl (fun w' hq => pv_move rfl) ?_)
        all_goals first | (refine an1 69 rfl rfl rfl rfl ?_) | (refine aw_gs 69 rfl rfl rfl (by kernel_rfl) (by kernel_rfl) (by kernel_rfl) hNP hS rfl (fun hc w' hq => pv_fa (tF rfl) rfl) (fun hc => ?_) (fun hc => ?_) <;> (first | replace hc := of_decide_eq_true hc | replace hc := of_decide_eq_false hc | replace hc := dec_nT hc | replace hc := dec_nF hc | skip) <;> (try (exfalso; omega)))
        all_goals first | (refine an1 70 rfl rfl rfl rfl ?_) | (refine an2 70 rfl rfl rfl ?_) | (refine at2 70 rfl rfl rfl (fun w' hq => pv_load (t1 rfl) rfl (by first | exact PT.ld0 (HX.mono hq) rfl | exact PT.ld (HX.mono hq) rfl)) ?_)
        all_goals first | (refine an1 71 rfl rfl rfl rfl ?_) | (refine an2 71 rfl rfl rfl ?_) | (refine at2 71 rfl rfl rfl (fun w' hq => pv_gtr rfl rfl) ?_)
        all_goals first | (refine at0 72 rfl (fun w' hq => pv_pick_t rfl rfl rfl) ?_) | (refine at0 72 rfl (fun w' hq => pv_pick_t rfl (by first | assumption | exact decide_eq_true (by omega) | exact dec_notT (by omega)) rfl) ?_) | (refine at0 72 rfl (fun w' hq => pv_pick_f rfl (by first | assumption | exact decide_eq_false (by omega) | exact dec_notF (by omega)) rfl) ?_)
        all_goals (refine aw_done (by kernel_rfl) ?_; replace hw := hS; clear hS hNP)
        all_goals repeat' (first | (refine lw_pure rfl (pv_assign rfl) ?_) | (refine is_cw ?_; first | (refine cw_seq ?_) | (refine cw_region ?_) | (refine cw_true rfl rfl ?_) | (refine cw_skip ?_) | (refine cw_ret ?_)) | (refine is_qw ?_; first | (with_reducible refine qw_then ?_) | (with_reducible refine qw_then_ret ?_) | (with_reducible refine qw_in_ret ?_)) | (refine lw_nil ?_) | (refine is_cw ?_; refine cw_split rfl (fun hc => ?_) (fun hc => ?_) <;> (first | replace hc := of_decide_eq_true hc | replace hc := of_decide_eq_false hc | replace hc := dec_nT hc | replace hc := dec_nF hc | skip) <;> (try (exfalso; omega))))
        all_goals first | (refine qw_join () (by repeat' (first | exact trivial | refine ⟨rfl, ?_⟩)) ⟨hw, ?_⟩; rw [hsq]; omega) | (refine qw_ret1 rfl rfl ⟨ret_bool (hnc ?_).symm, grow_trans hw0 hw⟩; rw [hsq]; omega)
    rintro - w1 ⟨hw, hc⟩
    replace hw0 := grow_trans hw0 hw
    replace HS := HS.mono hw
    replace HX := HX.mono hw
    clear hw
    have hw := Below.refl w1.heap.size w1
    have htk : (l.take k).length = k := by rw [List.length_take]; omega
    have hor := hc.2.2.2.1
    by_cases hz : balL (l.take k) x.acct + x.delta = x.bal
    · have hok : OkLn (l.take k) x := ⟨hc.1, hc.2.1, hc.2.2.1, decide_eq_true hor, hc.2.2.2.2.1, hc.2.2.2.2.2, hz⟩
      refine cw_seq ?_
      refine cw_drawn (fun w' => Below w1.heap.size w1 w') (by kernel_rfl) (by repeat (first | exact NoPanic.body | with_reducible refine NoPanic.then ?_ | with_reducible refine NoPanic.inBlock ?_)) (fun hNP => ?_)
      have hS := hw.drew
      all_goals (refine at0 0 rfl (fun w' hq => pv_fa (tF rfl) rfl) ?_)
      all_goals (refine at0 1 rfl (fun w' hq => pv_load (t1 rfl) rfl (by first | exact PT.ld0 (HX.mono hq) rfl | exact PT.ld (HX.mono hq) rfl)) ?_)
      all_goals (refine at0 2 rfl (fun w' hq => pv_move rfl) ?_)
      all_goals (refine at0 3 rfl (fun w' hq => pv_move rfl) ?_)
      all_goals (refine at0 4 rfl (fun w' hq => pv_slice_h (tS rfl) rfl rfl (by omega)) ?_)
      all_goals (refine at0 5 rfl (fun w' hq => pv_fa (tF rfl) rfl) ?_)
      all_goals (refine at0 6 rfl (fun w' hq => pv_load (t1 rfl) rfl (by first | exact PT.ld0 (HX.mono hq) rfl | exact PT.ld (HX.mono hq) rfl)) ?_)
      all_goals (refine at0 9 rfl (fun w' hq => pv_fa (tF rfl) rfl) ?_)
      all_goals (refine at0 10 rfl (fun w' hq => pv_load (t1 rfl) rfl (by first | exact PT.ld0 (HX.mono hq) rfl | exact PT.ld (HX.mono hq) rfl)) ?_)
      all_goals (refine aw_act 7 (by kernel_rfl) rfl rfl rfl ?_; refine act_call (f := 25) (by kernel_rfl) rfl (rbal_c x.acct htk ((HS.head k cap (by omega) (by omega)).mono hS)) ?_; rintro e w2 ⟨rfl, hb⟩; refine ⟨_, rfl, grow_trans hS hb, fun hS => ?_⟩; clear hb)
      all_goals (refine at0 8 rfl (fun w' hq => pv_sub rfl rfl (by omega)) ?_)
      all_goals (refine at0 11 rfl (fun w' hq => pv_neq rfl rfl) ?_)
      all_goals (refine aw_done (by kernel_rfl) ?_; replace hw := hS; clear hS hNP)
      repeat' (first | (refine lw_pure rfl (pv_move rfl) ?_) | (refine lw_pure rfl (pv_assign rfl) ?_) | (refine is_cw ?_; first | (refine cw_region ?_) | (refine cw_false rfl (by first | assumption | exact decide_eq_false (by omega) | exact dec_notF (by omega)) ?_) | (refine cw_skip ?_)) | (refine is_qw ?_; first | (with_reducible refine qw_then ?_) | (with_reducible refine qw_in ?_)) | (refine lw_nil ?_) | ((refine is_bin ?_; first | (refine lw_pure rfl (pv_inc rfl rfl (by omega)) ?_))))
      refine qw_round (k + 1) (by repeat' (first | exact trivial | refine ⟨rfl, ?_⟩)) ⟨by omega, grow_trans hw0 hw, ?_⟩ (by omega)
      rw [tailM hxk]; exact mayLn_snoc hn hok
    · have hok : ¬ OkLn (l.take k) x := fun H => hz H.2.2.2.2.2.2
      refine cw_seq ?_
      refine cw_drawn (fun w' => Below w1.heap.size w1 w') (by kernel_rfl) (by repeat (first | exact NoPanic.body | with_reducible refine NoPanic.then ?_ | with_reducible refine NoPanic.inBlock ?_)) (fun hNP => ?_)
      have hS := hw.drew
      all_goals (refine at0 0 rfl (fun w' hq => pv_fa (tF rfl) rfl) ?_)
      all_goals (refine at0 1 rfl (fun w' hq => pv_load (t1 rfl) rfl (by first | exact PT.ld0 (HX.mono hq) rfl | exact PT.ld (HX.mono hq) rfl)) ?_)
      all_goals (refine at0 2 rfl (fun w' hq => pv_move rfl) ?_)
      all_goals (refine at0 3 rfl (fun w' hq => pv_move rfl) ?_)
      all_goals (refine at0 4 rfl (fun w' hq => pv_slice_h (tS rfl) rfl rfl (by omega)) ?_)
      all_goals (refine at0 5 rfl (fun w' hq => pv_fa (tF rfl) rfl) ?_)
      all_goals (refine at0 6 rfl (fun w' hq => pv_load (t1 rfl) rfl (by first | exact PT.ld0 (HX.mono hq) rfl | exact PT.ld (HX.mono hq) rfl)) ?_)
      all_goals (refine at0 9 rfl (fun w' hq => pv_fa (tF rfl) rfl) ?_)
      all_goals (refine at0 10 rfl (fun w' hq => pv_load (t1 rfl) rfl (by first | exact PT.ld0 (HX.mono hq) rfl | exact PT.ld (HX.mono hq) rfl)) ?_)
      all_goals (refine aw_act 7 (by kernel_rfl) rfl rfl rfl ?_; refine act_call (f := 25) (by kernel_rfl) rfl (rbal_c x.acct htk ((HS.head k cap (by omega) (by omega)).mono hS)) ?_; rintro e w2 ⟨rfl, hb⟩; refine ⟨_, rfl, grow_trans hS hb, fun hS => ?_⟩; clear hb)
      all_goals (refine at0 8 rfl (fun w' hq => pv_sub rfl rfl (by omega)) ?_)
      all_goals (refine at0 11 rfl (fun w' hq => pv_neq rfl rfl) ?_)
      all_goals (refine aw_done (by kernel_rfl) ?_; replace hw := hS; clear hS hNP)
      repeat' (first | (refine lw_pure rfl (pv_assign rfl) ?_) | (refine is_cw ?_; first | (refine cw_seq ?_) | (refine cw_region ?_) | (refine cw_true rfl (by first | assumption | exact decide_eq_true (by omega) | exact dec_notT (by omega)) ?_) | (refine cw_ret ?_)) | (refine is_qw ?_; first | (with_reducible refine qw_then ?_) | (with_reducible refine qw_then_ret ?_) | (with_reducible refine qw_in_ret ?_)) | (refine lw_nil ?_))
      exact qw_ret1 rfl rfl ⟨ret_bool (hno hok).symm, grow_trans hw0 hw⟩
  · have hkl : k = l.length := by omega
    subst hkl
    rw [List.take_length] at hn
    repeat' (first | (refine lw_pure rfl (pv_move rfl) ?_) | (refine lw_pure rfl (pv_assign rfl) ?_) | (refine is_cw ?_; first | (refine cw_seq ?_) | (refine cw_region ?_) | (refine cw_false rfl (by first | assumption | exact decide_eq_false (by omega) | exact dec_notF (by omega)) ?_) | (refine cw_exit ?_) | (refine cw_ret ?_)) | (refine is_qw ?_; first | (with_reducible refine qw_then ?_) | (with_reducible refine qw_in_hit ?_) | (with_reducible refine qw_then_exit ?_)) | (refine lw_nil ?_) | ((refine is_bin ?_; first | (refine lw_pure rfl (pv_lss rfl rfl) ?_))) | ((refine is_bi ?_; first | (refine lw_pure rfl (pv_lenl (tS rfl) rfl) ?_))))
    exact qw_ret1 rfl rfl ⟨by rw [hn], hw⟩

theorem pw_take {α : Type} {R : α → α → Prop} {l : List α} {k : Nat} {x : α} (hp : (l.take k).Pairwise R) (hx : l[k]? = some x) (h : ∀ i, i < k → ∀ y, l[i]? = some y → R y x) : (l.take (k + 1)).Pairwise R := by
  rw [take_snoc hx, List.pairwise_append]
  refine ⟨hp, by simp, fun y hy z hz => ?_⟩
  simp at hz; subst hz
  obtain ⟨i, hi, he⟩ := List.mem_iff_getElem.1 hy
  rw [List.length_take] at hi
  exact h i (by omega) y (by rw [List.getElem_take] at he; rw [← he]; exact List.getElem?_eq_getElem _)
def keyN (y x : Opn) : Prop := keyO y x ∧ y.id ≠ x.id
theorem keyN_o {p : List Opn} (h : p.Pairwise keyN) : p.Pairwise keyO := h.imp fun h => h.1
theorem keyN_n {p : List Opn} (h : p.Pairwise keyN) : (p.map (·.id)).Nodup := List.pairwise_map.2 (h.imp fun h => h.2)
theorem keyN_get {p : List Opn} {t : List Lt} (h : MayV p t) {i j : Nat} {y x : Opn} (hij : i < j) (hy : p[i]? = some y) (hx : p[j]? = some x) : keyN y x :=
  ⟨pwg_get h.2.1 hij hy hx, pwg_get (R := fun a b : Opn => a.id ≠ b.id) (List.pairwise_map.1 h.2.2.2.2.1) hij hy hx⟩
theorem rbtw_d (n m : Int) (w : World) : Calls Tryz.prog 61 #[.int .i64 n, .int .i64 m] w fun e w' => e = .returned (.bool (decide (1 ≤ n ∧ n ≤ m))) ∧ Below w.heap.size w w' := rbtw_c n m w
theorem rbtw_e {n m : Int} {b : Bool} (h : decide (1 ≤ n ∧ n ≤ m) = b) (w : World) : Calls Tryz.prog 61 #[.int .i64 n, .int .i64 m] w fun e w' => e = .returned (.bool b) ∧ Below w.heap.size w w' := by subst h; exact rbtw_c n m w
set_option maxRecDepth 20000 in
set_option maxHeartbeats 4000000 in
theorem rmayV_c {p : List Opn} {t : List Lt} {m n : Nat} {a b : Option Addr} {ca cb : Nat} {w : World} (hm : p.length = m) (hn : t.length = n) (HP : SlR encP 6 w a ca p) (HL : SlR encL 4 w b cb t) : Calls Tryz.prog 30 #[.slice a m ca, .slice b n cb] w fun e w' => e = .returned (.bool (mayV p t)) ∧ Below w.heap.size w w' := by
  subst hm hn
  have hw := Below.refl w.heap.size w
  have hca := HP.le
  have hcm := HP.max
  have hcb := HL.le
  have hcn := HL.max
  refine fn_enter 156 Tryz.func30 rfl rfl rfl ?_
  repeat' ((fail_if_success (refine is_seqb ?_)); (fail_if_success (refine is_blk ?_)); first | (refine lw_pure rfl (pv_move rfl) ?_) | (refine lw_pure rfl (pv_assign rfl) ?_) | (refine is_cw ?_; first | (refine cw_seq ?_) | (refine cw_region ?_) | (refine cw_true rfl rfl ?_) | (refine cw_skip ?_) | (refine cw_ret ?_)) | (refine is_qw ?_; first | (with_reducible refine qw_then ?_) | (with_reducible refine qw_then_ret ?_)) | (refine lw_nil ?_) | (refine is_guarded ?_; first | (refine lw_on rfl rfl (by first | assumption | exact decide_eq_true (by omega) | exact decide_eq_false (by omega) | exact dec_notT (by omega) | exact dec_notF (by omega)) ?_) | (refine lw_not rfl rfl rfl (by first | assumption | exact decide_eq_true (by omega) | exact decide_eq_false (by omega) | exact dec_notT (by omega) | exact dec_notF (by omega)) ?_) | (refine lw_gs_f rfl rfl rfl (fun hc => ?_) (fun hc => ?_) <;> (first | replace hc := of_decide_eq_true hc | replace hc := of_decide_eq_false hc | replace hc := dec_nT hc | replace hc := dec_nF hc | skip) <;> (try (exfalso; omega)))) | ((refine is_bin ?_; first | (refine lw_pure rfl (pv_gtr rfl rfl) ?_))) | ((refine is_bi ?_; first | (refine lw_pure rfl (pv_lenl (tS rfl) rfl) ?_))) | (refine lw_pure rfl (pv_pick_t rfl (by first | assumption | exact decide_eq_true (by omega) | exact dec_notT (by omega)) rfl) ?_) | (refine lw_pure rfl (pv_pick_f rfl (by first | assumption | exact decide_eq_false (by omega) | exact dec_notF (by omega)) rfl) ?_) | (refine is_cw ?_; refine cw_split rfl (fun hc => ?_) (fun hc => ?_) <;> (first | replace hc := of_decide_eq_true hc | replace hc := of_decide_eq_false hc | replace hc := dec_nT hc | replace hc := dec_nF hc | skip) <;> (try (exfalso; omega))))
  all_goals first | (refine qw_ret1 rfl rfl ⟨may_not ?_, hw⟩; rintro ⟨h1, -⟩; omega) | skip
  have hl : p.length ≤ 128 := by omega
  have h32 : t.length ≤ 32 := by omega
  repeat' (first | (refine is_cw ?_; first | (refine cw_block ?_)))
  refine cw_loop (σ := Nat) (fun k => [(0, .slice a p.length ca), (1, .slice b t.length cb), (5, .int .i64 (k : Nat))]) (fun k wr => k ≤ p.length ∧ Below w.heap.size w wr ∧ (∀ j, j < k → ∀ x, p[j]? = some x → MayO x) ∧ (p.take k).Pairwise keyN) (fun k => p.length - k) 0 (by repeat' (first | exact trivial | refine ⟨rfl, ?_⟩)) ⟨Nat.zero_le _, hw, by omega, by simp⟩ ?_
  clear hw
  rintro k wr ⟨hk, hW, hn, hp⟩
  by_cases hlt : k < p.length
  · have hxk : p[k]? = some p[k] := List.getElem?_eq_getElem hlt
    obtain ⟨ab, ao, rfl, -, -⟩ := HP.at (by intro h; rw [h] at hlt; simp at hlt)
    generalize p[k] = x at hxk
    have HS := HP.mono hW
    have hw := Below.refl wr.heap.size wr
    repeat' (first | (refine lw_pure rfl (pv_move rfl) ?_) | (refine is_cw ?_; first | (refine cw_seq ?_) | (refine cw_region ?_) | (refine cw_true rfl (by first | assumption | exact decide_eq_true (by omega) | exact dec_notT (by omega)) ?_) | (refine cw_skip ?_) | (refine cw_block ?_)) | (refine is_qw ?_; first | (with_reducible refine qw_then ?_)) | (refine lw_nil ?_) | ((refine is_bin ?_; first | (refine lw_pure rfl (pv_lss rfl rfl) ?_))) | ((refine is_load ?_; first | (refine lw_pure rfl (pv_loada (tA rfl) rfl (by first | exact SlR.lda (HS.mono hw) hxk) (by rfl)) ?_))) | ((refine is_ia ?_; first | (refine lw_pure rfl (pv_ian (tS rfl) rfl rfl (by omega)) ?_))) | ((refine is_bi ?_; first | (refine lw_pure rfl (pv_lenl (tS rfl) rfl) ?_))))
    refine lw_varN rfl (by first | exact tyv_27 | exact tyv_28 | exact tyv_36 | exact tyv_37 | exact tyv_68 | exact tyv_69 | exact tyv_72 | exact tyv_73 | exact tyv_79 | exact tyv_80 | exact tyv_117 | exact tyv_118 | exact tyv_130 | exact tyv_131) rfl (tZ rfl) (fun _ => rfl) rfl rfl ?_; intro N wn hN HX hb; replace hN := Nat.le_trans hw.size hN; replace hw := grow_trans hw hb; clear hb
    have hW2 := grow_trans hW hw
    replace HS := HS.mono hw
    clear hW hN hw
    have hw := Below.refl wn.heap.size wn
    refine lw_nil ?_; (with_reducible refine qw_then ?_)
    refine cw_cut (σ := Unit) (fun _ => [(0, .slice (some ⟨ab, ao, none⟩) p.length ca), (1, .slice b t.length cb), (5, .int .i64 (k : Nat)), (6, .pointer (some ⟨N, 0, none⟩))]) (fun _ w' => Below wn.heap.size wn w' ∧ (MayO x)) ?_ ?_
    · repeat' (first | (refine lw_pure rfl (pv_move rfl) ?_) | (refine lw_pure rfl (pv_assign rfl) ?_) | (refine lw_call (f := 61) (by kernel_rfl) rfl rfl (rbtw_d _ _ _) ?_; rintro e w1 ⟨rfl, hb⟩; refine ⟨_, rfl, ?_⟩; replace hw := grow_trans hw hb; clear hb) | (refine is_cw ?_; first | (refine cw_seq ?_) | (refine cw_region ?_) | (refine cw_true rfl rfl ?_) | (refine cw_skip ?_) | (refine cw_ret ?_)) | (refine is_qw ?_; first | (with_reducible refine qw_then ?_) | (with_reducible refine qw_then_ret ?_) | (with_reducible refine qw_in_ret ?_)) | (refine lw_nil ?_) | (refine is_guarded ?_; first | (refine lw_not rfl rfl rfl rfl ?_) | (refine lw_not_u rfl rfl rfl ?_) | (refine lw_on rfl rfl rfl ?_) | (refine lw_on rfl rfl (by first | assumption | exact decide_eq_true (by omega) | exact decide_eq_false (by omega) | exact dec_notT (by omega) | exact dec_notF (by omega)) ?_) | (refine lw_not rfl rfl rfl (by first | assumption | exact decide_eq_true (by omega) | exact decide_eq_false (by omega) | exact dec_notT (by omega) | exact dec_notF (by omega)) ?_) | (refine lw_gs_t rfl rfl rfl (fun hc => ?_) (fun hc => ?_) <;> (first | replace hc := of_decide_eq_true hc | replace hc := of_decide_eq_false hc | replace hc := dec_nT hc | replace hc := dec_nF hc | skip) <;> (try (exfalso; omega))) | (refine lw_gs_f rfl rfl rfl (fun hc => ?_) (fun hc => ?_) <;> (first | replace hc := of_decide_eq_true hc | replace hc := of_decide_eq_false hc | replace hc := dec_nT hc | replace hc := dec_nF hc | skip) <;> (try (exfalso; omega)))) | ((refine is_bin ?_; first | (refine lw_pure rfl (pv_neq rfl rfl) ?_))) | ((refine is_load ?_; first | (refine lw_pure rfl (pv_load (t1 rfl) rfl (by first | exact PT.ld0 (HX.mono hw) rfl | exact PT.ld (HX.mono hw) rfl)) ?_))) | ((refine is_fa ?_; first | (refine lw_pure rfl (pv_fa (tF rfl) rfl) ?_))) | ((refine is_un ?_; first | (refine lw_pure rfl (pv_not rfl) ?_))) | (refine lw_pure rfl (pv_pick_t rfl rfl rfl) ?_) | (refine lw_pure rfl (pv_pick_f rfl rfl rfl) ?_) | (refine lw_pure rfl (pv_pick_t rfl (by first | assumption | exact decide_eq_true (by omega) | exact dec_notT (by omega)) rfl) ?_) | (refine lw_pure rfl (pv_pick_f rfl (by first | assumption | exact decide_eq_false (by omega) | exact dec_notF (by omega)) rfl) ?_) | (refine is_cw ?_; refine cw_split rfl (fun hc => ?_) (fun hc => ?_) <;> (first | replace hc := of_decide_eq_true hc | replace hc := of_decide_eq_false hc | replace hc := dec_nT hc | replace hc := dec_nF hc | skip) <;> (try (exfalso; omega))))
      all_goals first | (refine qw_join () (by repeat' (first | exact trivial | refine ⟨rfl, ?_⟩)) ⟨hw, ?_⟩; unfold MayO; omega) | (refine qw_ret1 rfl rfl ⟨may_not (fun hM => ?_), grow_trans hW2 hw⟩; have h9 := hM.2.2.2.1 x (List.mem_of_getElem? hxk); unfold MayO at h9; omega)
    rintro - w1 ⟨hw, hx⟩
    repeat' (first | (refine lw_pure rfl (pv_assign rfl) ?_) | (refine is_cw ?_; first | (refine cw_seq ?_) | (refine cw_region ?_) | (refine cw_block ?_)) | (refine is_qw ?_; first | (with_reducible refine qw_then ?_)) | (refine lw_nil ?_))
    refine cw_loop (σ := Nat) (fun j => [(0, .slice (some ⟨ab, ao, none⟩) p.length ca), (1, .slice b t.length cb), (5, .int .i64 (k : Nat)), (6, .pointer (some ⟨N, 0, none⟩))] ++ [(7, .int .i64 (j : Nat))]) (fun j w2 => j ≤ k ∧ Below wn.heap.size wn w2 ∧ ∀ i, i < j → ∀ y, p[i]? = some y → keyN y x) (fun j => k - j) 0 (by repeat' (first | exact trivial | refine ⟨rfl, ?_⟩)) ⟨Nat.zero_le _, hw, by omega⟩ ?_
    clear hw
    rintro j w2 ⟨hj, hw, hi⟩
    simp only [List.cons_append, List.nil_append]
    by_cases hjk : j < k
    · obtain ⟨y, hyj⟩ : ∃ y, p[j]? = some y := ⟨_, List.getElem?_eq_getElem (by omega)⟩
      have hbad : ¬ keyN y x → Ending.returned (.bool false) = .returned (.bool (mayV p t)) := fun h => may_not fun hM => h (keyN_get hM hjk hyj hxk)
      have hjl : j < p.length := by omega
      have hnx : keyN y x → ∀ i, i < j + 1 → ∀ z, p[i]? = some z → keyN z x := fun h9 i hi9 z hz => by
        by_cases hij : i = j
        · subst hij; rw [hyj] at hz; injection hz with hz; subst hz; exact h9
        · exact hi i (by omega) z hz
      repeat' (first | (refine lw_pure rfl (pv_move rfl) ?_) | (refine is_cw ?_; first | (refine cw_seq ?_) | (refine cw_region ?_) | (refine cw_true rfl (by first | assumption | exact decide_eq_true (by omega) | exact dec_notT (by omega)) ?_) | (refine cw_skip ?_) | (refine cw_block ?_)) | (refine is_qw ?_; first | (with_reducible refine qw_then ?_)) | (refine lw_nil ?_) | ((refine is_bin ?_; first | (refine lw_pure rfl (pv_lss rfl rfl) ?_))))
      refine cw_drawn (fun w' => Below wn.heap.size wn w') (by kernel_rfl) (by repeat (first | exact NoPanic.body | with_reducible refine NoPanic.then ?_ | with_reducible refine NoPanic.inBlock ?_)) (fun hNP => ?_)
      have hS := hw.drew
      all_goals (refine at0 0 rfl (fun w' hq => pv_move rfl) ?_)
      all_goals (refine at0 1 rfl (fun w' hq => pv_move rfl) ?_)
      all_goals (refine at0 2 rfl (fun w' hq => pv_ian (tS rfl) rfl rfl (by omega)) ?_)
      all_goals (refine at0 3 rfl (fun w' hq => pv_fa (tF rfl) rfl) ?_)
      all_goals (refine at0 4 rfl (fun w' hq => pv_load (t1 rfl) rfl (by first | exact SlR.ld (HS.mono hq) hyj rfl | exact SlR.ld1 (HS.mono hq) hyj rfl | exact PT.ld0 (HX.mono hq) rfl | exact PT.ld (HX.mono hq) rfl)) ?_)
      all_goals (refine at0 5 rfl (fun w' hq => pv_fa (tF rfl) rfl) ?_)
      all_goals (refine at0 6 rfl (fun w' hq => pv_load (t1 rfl) rfl (by first | exact SlR.ld (HS.mono hq) hyj rfl | exact SlR.ld1 (HS.mono hq) hyj rfl | exact PT.ld0 (HX.mono hq) rfl | exact PT.ld (HX.mono hq) rfl)) ?_)
      all_goals (refine at0 7 rfl (fun w' hq => pv_eql rfl rfl) ?_)
      all_goals (refine at0 8 rfl (fun w' hq => pv_move rfl) ?_)
      all_goals (refine aw_gs 9 rfl rfl rfl (by kernel_rfl) (by kernel_rfl) (by kernel_rfl) hNP hS rfl (fun hc w' hq => pv_move rfl) (fun hc => ?_) (fun hc => ?_) <;> (first | replace hc := of_decide_eq_true hc | replace hc := of_decide_eq_false hc | replace hc := dec_nT hc | replace hc := dec_nF hc | skip) <;> (try (exfalso; omega)))
      all_goals first | (refine an2 10 rfl rfl rfl ?_) | (refine at2 10 rfl rfl rfl (fun w' hq => pv_move rfl) ?_)
      all_goals first | (refine an2 11 rfl rfl rfl ?_) | (refine at2 11 rfl rfl rfl (fun w' hq => pv_ian (tS rfl) rfl rfl (by omega)) ?_)
      all_goals first | (refine an2 12 rfl rfl rfl ?_) | (refine at2 12 rfl rfl rfl (fun w' hq => pv_fa (tF rfl) rfl) ?_)
      all_goals first | (refine an2 13 rfl rfl rfl ?_) | (refine at2 13 rfl rfl rfl (fun w' hq => pv_load (t1 rfl) rfl (by first | exact SlR.ld (HS.mono hq) hyj rfl | exact SlR.ld1 (HS.mono hq) hyj rfl | exact PT.ld0 (HX.mono hq) rfl | exact PT.ld (HX.mono hq) rfl)) ?_)
      all_goals first | (refine an2 14 rfl rfl rfl ?_) | (refine at2 14 rfl rfl rfl (fun w' hq => pv_fa (tF rfl) rfl) ?_)
      all_goals first | (refine an2 15 rfl rfl rfl ?_) | (refine at2 15 rfl rfl rfl (fun w' hq => pv_load (t1 rfl) rfl (by first | exact SlR.ld (HS.mono hq) hyj rfl | exact SlR.ld1 (HS.mono hq) hyj rfl | exact PT.ld0 (HX.mono hq) rfl | exact PT.ld (HX.mono hq) rfl)) ?_)
      all_goals first | (refine an2 16 rfl rfl rfl ?_) | (refine at2 16 rfl rfl rfl (fun w' hq => pv_gtr rfl rfl) ?_)
      all_goals first | (refine at0 17 rfl (fun w' hq => pv_pick_t rfl (by first | assumption | exact decide_eq_true (by omega) | exact dec_notT (by omega)) rfl) ?_) | (refine at0 17 rfl (fun w' hq => pv_pick_f rfl (by first | assumption | exact decide_eq_false (by omega) | exact dec_notF (by omega)) rfl) ?_)
      all_goals (refine at0 18 rfl (fun w' hq => pv_move rfl) ?_)
      all_goals first | (refine an1 19 rfl rfl rfl rfl ?_) | (refine aw_gs 19 rfl rfl rfl (by kernel_rfl) (by kernel_rfl) (by kernel_rfl) hNP hS rfl (fun hc w' hq => pv_move rfl) (fun hc => ?_) (fun hc => ?_) <;> (first | replace hc := of_decide_eq_true hc | replace hc := of_decide_eq_false hc | replace hc := dec_nT hc | replace hc := dec_nF hc | skip) <;> (try (exfalso; omega)))
      all_goals first | (refine an1 20 rfl rfl rfl rfl ?_) | (refine an2 20 rfl rfl rfl ?_) | (refine at2 20 rfl rfl rfl (fun w' hq => pv_move rfl) ?_)
      all_goals first | (refine an1 21 rfl rfl rfl rfl ?_) | (refine an2 21 rfl rfl rfl ?_) | (refine at2 21 rfl rfl rfl (fun w' hq => pv_ian (tS rfl) rfl rfl (by omega)) ?_)
      all_goals first | (refine an1 22 rfl rfl rfl rfl ?_) | (refine an2 22 rfl rfl rfl ?_) | (refine at2 22 rfl rfl rfl (fun w' hq => pv_fa (tF rfl) rfl) ?_)
      all_goals first | (refine an1 23 rfl rfl rfl rfl ?_) | (refine an2 23 rfl rfl rfl ?_) | (refine at2 23 rfl rfl rfl (fun w' hq => pv_load (t1 rfl) rfl (by first | exact SlR.ld (HS.mono hq) hyj rfl | exact SlR.ld1 (HS.mono hq) hyj rfl | exact PT.ld0 (HX.mono hq) rfl | exact PT.ld (HX.mono hq) rfl)) ?_)
      all_goals first | (refine an1 24 rfl rfl rfl rfl ?_) | (refine an2 24 rfl rfl rfl ?_) | (refine at2 24 rfl rfl rfl (fun w' hq => pv_fa (tF rfl) rfl) ?_)
      all_goals first | (refine an1 25 rfl rfl rfl rfl ?_) | (refine an2 25 rfl rfl rfl ?_) | (refine at2 25 rfl rfl rfl (fun w' hq => pv_load (t1 rfl) rfl (by first | exact SlR.ld (HS.mono hq) hyj rfl | exact SlR.ld1 (HS.mono hq) hyj rfl | exact PT.ld0 (HX.mono hq) rfl | exact PT.ld (HX.mono hq) rfl)) ?_)
      all_goals first | (refine an1 26 rfl rfl rfl rfl ?_) | (refine an2 26 rfl rfl rfl ?_) | (refine at2 26 rfl rfl rfl (fun w' hq => pv_eql rfl rfl) ?_)
      all_goals first | (refine an1 27 rfl rfl rfl rfl ?_) | (refine an2 27 rfl rfl rfl ?_) | (refine at2 27 rfl rfl rfl (fun w' hq => pv_move rfl) ?_)
      all_goals first | (refine an0 28 rfl rfl rfl ?_) | (refine aw_gs 28 rfl rfl rfl (by kernel_rfl) (by kernel_rfl) (by kernel_rfl) hNP hS rfl (fun hc w' hq => pv_move rfl) (fun hc => ?_) (fun hc => ?_) <;> (first | replace hc := of_decide_eq_true hc | replace hc := of_decide_eq_false hc | replace hc := dec_nT hc | replace hc := dec_nF hc | skip) <;> (try (exfalso; omega)))
      all_goals first | (refine an0 29 rfl rfl rfl ?_) | (refine an2 29 rfl rfl rfl ?_) | (refine at2 29 rfl rfl rfl (fun w' hq => pv_move rfl) ?_)
      all_goals first | (refine an0 30 rfl rfl rfl ?_) | (refine an2 30 rfl rfl rfl ?_) | (refine at2 30 rfl rfl rfl (fun w' hq => pv_ian (tS rfl) rfl rfl (by omega)) ?_)
      all_goals first | (refine an0 31 rfl rfl rfl ?_) | (refine an2 31 rfl rfl rfl ?_) | (refine at2 31 rfl rfl rfl (fun w' hq => pv_fa (tF rfl) rfl) ?_)
      all_goals first | (refine an0 32 rfl rfl rfl ?_) | (refine an2 32 rfl rfl rfl ?_) | (refine at2 32 rfl rfl rfl (fun w' hq => pv_load (t1 rfl) rfl (by first | exact SlR.ld (HS.mono hq) hyj rfl | exact SlR.ld1 (HS.mono hq) hyj rfl | exact PT.ld0 (HX.mono hq) rfl | exact PT.ld (HX.mono hq) rfl)) ?_)
      all_goals first | (refine an0 33 rfl rfl rfl ?_) | (refine an2 33 rfl rfl rfl ?_) | (refine at2 33 rfl rfl rfl (fun w' hq => pv_fa (tF rfl) rfl) ?_)
      all_goals first | (refine an0 34 rfl rfl rfl ?_) | (refine an2 34 rfl rfl rfl ?_) | (refine at2 34 rfl rfl rfl (fun w' hq => pv_load (t1 rfl) rfl (by first | exact SlR.ld (HS.mono hq) hyj rfl | exact SlR.ld1 (HS.mono hq) hyj rfl | exact PT.ld0 (HX.mono hq) rfl | exact PT.ld (HX.mono hq) rfl)) ?_)
      all_goals first | (refine an0 35 rfl rfl rfl ?_) | (refine an2 35 rfl rfl rfl ?_) | (refine at2 35 rfl rfl rfl (fun w' hq => pv_gtr rfl rfl) ?_)
      all_goals first | (refine an1 36 rfl rfl rfl rfl ?_) | (refine an2 36 rfl rfl rfl ?_) | (refine at2 36 rfl rfl rfl (fun w' hq => pv_pick_t rfl (by first | assumption | exact decide_eq_true (by omega) | exact dec_notT (by omega)) rfl) ?_) | (refine at2 36 rfl rfl rfl (fun w' hq => pv_pick_f rfl (by first | assumption | exact decide_eq_false (by omega) | exact dec_notF (by omega)) rfl) ?_)
      all_goals first | (refine at0 37 rfl (fun w' hq => pv_pick_t rfl rfl rfl) ?_) | (refine at0 37 rfl (fun w' hq => pv_pick_t rfl (by first | assumption | exact decide_eq_true (by omega) | exact dec_notT (by omega)) rfl) ?_) | (refine at0 37 rfl (fun w' hq => pv_pick_f rfl (by first | assumption | exact decide_eq_false (by omega) | exact dec_notF (by omega)) rfl) ?_)
      all_goals (refine aw_done (by kernel_rfl) ?_; replace hw := hS; clear hS hNP)
      repeat' (first | (refine lw_pure rfl (pv_move rfl) ?_) | (refine lw_pure rfl (pv_assign rfl) ?_) | (refine is_cw ?_; first | (refine cw_seq ?_) | (refine cw_region ?_) | (refine cw_true rfl rfl ?_) | (refine cw_false rfl rfl ?_) | (refine cw_skip ?_) | (refine cw_ret ?_)) | (refine is_qw ?_; first | (with_reducible refine qw_then ?_) | (with_reducible refine qw_in ?_) | (with_reducible refine qw_then_ret ?_) | (with_reducible refine qw_in_ret ?_)) | (refine lw_nil ?_) | ((refine is_bin ?_; first | (refine lw_pure rfl (pv_inc rfl rfl (by omega)) ?_))) | (refine is_cw ?_; refine cw_split rfl (fun hc => ?_) (fun hc => ?_) <;> (first | replace hc := of_decide_eq_true hc | replace hc := of_decide_eq_false hc | replace hc := dec_nT hc | replace hc := dec_nF hc | skip) <;> (try (exfalso; omega))))
      all_goals first | (refine qw_ret1 rfl rfl ⟨hbad ?_, grow_trans hW2 hw⟩; unfold keyN keyO; omega) | (refine qw_round (j + 1) (by repeat' (first | exact trivial | refine ⟨rfl, ?_⟩)) ⟨by omega, hw, hnx ?_⟩ (by omega); unfold keyN keyO; omega)
    · have hje : j = k := by omega
      subst hje
      repeat' (first | (refine lw_pure rfl (pv_move rfl) ?_) | (refine lw_pure rfl (pv_assign rfl) ?_) | (refine is_cw ?_; first | (refine cw_seq ?_) | (refine cw_region ?_) | (refine cw_false rfl (by first | assumption | exact decide_eq_false (by omega) | exact dec_notF (by omega)) ?_) | (refine cw_exit ?_)) | (refine is_qw ?_; first | (with_reducible refine qw_then ?_) | (with_reducible refine qw_in ?_) | (with_reducible refine qw_in_hit ?_) | (with_reducible refine qw_then_exit ?_)) | (refine lw_nil ?_) | ((refine is_bin ?_; first | (refine lw_pure rfl (pv_lss rfl rfl) ?_) | (refine lw_pure rfl (pv_inc rfl rfl (by omega)) ?_))))
      refine qw_round (j + 1) (by repeat' (first | exact trivial | refine ⟨rfl, ?_⟩)) ⟨by omega, grow_trans hW2 hw, ?_, pw_take hp hxk hi⟩ (by omega)
      intro i h9 z hz
      by_cases hij : i = j
      · subst hij; rw [hxk] at hz; injection hz with hz; subst hz; exact hx
      · exact hn i (by omega) z hz
  · have hkl : k = p.length := by omega
    subst hkl
    rw [List.take_length] at hp
    have hMO := all_of_get hn
    clear hn
    have hw := hW
    repeat' (first | (refine lw_pure rfl (pv_move rfl) ?_) | (refine lw_pure rfl (pv_assign rfl) ?_) | (refine is_cw ?_; first | (refine cw_seq ?_) | (refine cw_region ?_) | (refine cw_false rfl (by first | assumption | exact decide_eq_false (by omega) | exact dec_notF (by omega)) ?_) | (refine cw_block ?_) | (refine cw_exit ?_)) | (refine is_qw ?_; first | (with_reducible refine qw_then ?_) | (with_reducible refine qw_in_hit ?_) | (with_reducible refine qw_then_exit ?_)) | (refine lw_nil ?_) | ((refine is_bin ?_; first | (refine lw_pure rfl (pv_lss rfl rfl) ?_))) | ((refine is_bi ?_; first | (refine lw_pure rfl (pv_lenl (tS rfl) rfl) ?_))))
    refine cw_loop (σ := Nat) (fun k => [(0, .slice a p.length ca), (1, .slice b t.length cb), (8, .int .i64 (k : Nat))]) (fun k wr => k ≤ t.length ∧ Below w.heap.size w wr ∧ (∀ j, j < k → ∀ x, t[j]? = some x → MayL x) ∧ (t.take k).Pairwise keyT) (fun k => t.length - k) 0 (by repeat' (first | exact trivial | refine ⟨rfl, ?_⟩)) ⟨Nat.zero_le _, hw, by omega, by simp⟩ ?_
    clear hw hW
    rintro k wr ⟨hk, hW, hn, ht⟩
    by_cases hlt : k < t.length
    · have hxk : t[k]? = some t[k] := List.getElem?_eq_getElem hlt
      have hxj : t[k - 1]? = some (t[k - 1]'(by omega)) := List.getElem?_eq_getElem _
      have hidx : ((k : Int) - 1) = ((k - 1 : Nat) : Int) ∨ k = 0 := by omega
      obtain ⟨ab, ao, rfl, -, -⟩ := HL.at (by intro h; rw [h] at hlt; simp at hlt)
      generalize t[k] = x at hxk
      generalize t[k - 1] = y at hxj
      have hlt1 : k - 1 < t.length := by omega
      have HS := HL.mono hW
      have hw := Below.refl wr.heap.size wr
      repeat' (first | (refine lw_pure rfl (pv_move rfl) ?_) | (refine is_cw ?_; first | (refine cw_seq ?_) | (refine cw_region ?_) | (refine cw_true rfl (by first | assumption | exact decide_eq_true (by omega) | exact dec_notT (by omega)) ?_) | (refine cw_skip ?_) | (refine cw_block ?_)) | (refine is_qw ?_; first | (with_reducible refine qw_then ?_)) | (refine lw_nil ?_) | ((refine is_bin ?_; first | (refine lw_pure rfl (pv_lss rfl rfl) ?_))) | ((refine is_load ?_; first | (refine lw_pure rfl (pv_loada (tA rfl) rfl (by first | exact SlR.lda (HS.mono hw) hxk) (by rfl)) ?_))) | ((refine is_ia ?_; first | (refine lw_pure rfl (pv_ian (tS rfl) rfl rfl (by omega)) ?_))) | ((refine is_bi ?_; first | (refine lw_pure rfl (pv_lenl (tS rfl) rfl) ?_))))
      refine lw_varN rfl (by first | exact tyv_27 | exact tyv_28 | exact tyv_36 | exact tyv_37 | exact tyv_68 | exact tyv_69 | exact tyv_72 | exact tyv_73 | exact tyv_79 | exact tyv_80 | exact tyv_117 | exact tyv_118 | exact tyv_130 | exact tyv_131) rfl (tZ rfl) (fun _ => rfl) rfl rfl ?_; intro N wn hN HX hb; replace hN := Nat.le_trans hw.size hN; replace hw := grow_trans hw hb; clear hb
      have hW2 := grow_trans hW hw
      replace HS := HS.mono hw
      clear hW hN hw
      have hw := Below.refl wn.heap.size wn
      have hbad : ¬ MayL x → Ending.returned (.bool false) = .returned (.bool (mayV p t)) := fun h => may_not fun hM => h (hM.2.2.2.2.2 x (List.mem_of_getElem? hxk))
      have hnext : MayL x → ∀ j, j < k + 1 → ∀ z, t[j]? = some z → MayL z := fun hx j hj z hz => by
        by_cases hjk : j = k
        · subst hjk; rw [hxk] at hz; injection hz with hz; subst hz; exact hx
        · exact hn j (by omega) z hz
      obtain ⟨b1, hb1⟩ : ∃ b, decide (1 ≤ x.id ∧ x.id ≤ 1099511627776) = b := ⟨_, rfl⟩
      obtain ⟨b2, hb2⟩ : ∃ b, decide (1 ≤ x.seller ∧ x.seller ≤ 64) = b := ⟨_, rfl⟩
      obtain ⟨b3, hb3⟩ : ∃ b, decide (1 ≤ x.inst ∧ x.inst ≤ 16) = b := ⟨_, rfl⟩
      obtain ⟨b4, hb4⟩ : ∃ b, decide (1 ≤ x.qty ∧ x.qty ≤ 1048576) = b := ⟨_, rfl⟩
      by_cases hk0 : 0 < k
      · have hidx : ((k : Int) - 1) = ((k - 1 : Nat) : Int) := by omega
        have hbad2 : ¬ y.id < x.id → Ending.returned (.bool false) = .returned (.bool (mayV p t)) := fun h => may_not fun hM => h (pwg_get hM.2.2.1 (by omega) hxj hxk)
        have hcs : b1 = false ∨ (b1 = true ∧ b2 = false) ∨ (b1 = true ∧ b2 = true ∧ b3 = false) ∨ (b1 = true ∧ b2 = true ∧ b3 = true ∧ b4 = false) ∨ (b1 = true ∧ b2 = true ∧ b3 = true ∧ b4 = true ∧ ¬ y.id < x.id) ∨ (b1 = true ∧ b2 = true ∧ b3 = true ∧ b4 = true ∧ y.id < x.id) := by
          cases b1 <;> cases b2 <;> cases b3 <;> cases b4 <;> simp
          omega
        repeat' (first | (refine is_cw ?_; first | (refine cw_seq ?_)) | (refine is_qw ?_; first | (with_reducible refine qw_then ?_)) | (refine lw_nil ?_))
        refine cw_drawn (fun w' => Below wn.heap.size wn w') (by kernel_rfl) (by repeat (first | exact NoPanic.body | with_reducible refine NoPanic.then ?_ | with_reducible refine NoPanic.inBlock ?_)) (fun hNP => ?_)
        have hS := hw.drew
        all_goals (refine at0 0 rfl (fun w' hq => pv_fa (tF rfl) rfl) ?_)
        all_goals (refine at0 1 rfl (fun w' hq => pv_load (t1 rfl) rfl (by first | exact PT.ld0 (HX.mono hq) rfl | exact PT.ld (HX.mono hq) rfl | exact SlR.ld (HS.mono hq) hxj rfl | exact SlR.ld1 (HS.mono hq) hxj rfl)) ?_)
        all_goals (refine aw_act 2 (by kernel_rfl) rfl rfl rfl ?_; rcases hcs with rfl | ⟨rfl, rfl⟩ | ⟨rfl, rfl, rfl⟩ | ⟨rfl, rfl, rfl, rfl⟩ | ⟨rfl, rfl, rfl, rfl, hcs⟩ | ⟨rfl, rfl, rfl, rfl, hcs⟩ <;> (refine act_call (f := 61) (by kernel_rfl) rfl (rbtw_e hb1 _) ?_; rintro e w1 ⟨rfl, hb⟩; refine ⟨_, rfl, grow_trans hS hb, fun hS => ?_⟩))
        all_goals (refine at0 3 rfl (fun w' hq => pv_not rfl) ?_)
        all_goals (refine at0 4 rfl (fun w' hq => pv_move rfl) ?_)
        all_goals first | (refine an1 5 rfl rfl rfl rfl ?_) | (refine at1 5 rfl rfl rfl rfl (fun w' hq => pv_fa (tF rfl) rfl) ?_)
        all_goals first | (refine an1 6 rfl rfl rfl rfl ?_) | (refine at1 6 rfl rfl rfl rfl (fun w' hq => pv_load (t1 rfl) rfl (by first | exact PT.ld0 (HX.mono hq) rfl | exact PT.ld (HX.mono hq) rfl | exact SlR.ld (HS.mono hq) hxj rfl | exact SlR.ld1 (HS.mono hq) hxj rfl)) ?_)
        all_goals first | (refine an3 7 rfl rfl rfl ?_) | (refine an0 7 rfl rfl rfl ?_) | (refine aw_act_g 7 (by kernel_rfl) rfl rfl rfl (by first | rfl | assumption | exact decide_eq_true (by omega) | exact decide_eq_false (by omega) | exact dec_notT (by omega) | exact dec_notF (by omega)) rfl ?_; refine act_call (f := 61) (by kernel_rfl) rfl (rbtw_e hb2 _) ?_; rintro e w1 ⟨rfl, hb⟩; refine ⟨_, rfl, grow_trans hS hb, fun hS => ?_⟩)
        all_goals first | (refine an1 8 rfl rfl rfl rfl ?_) | (refine at1 8 rfl rfl rfl rfl (fun w' hq => pv_not rfl) ?_)
        all_goals first | (refine at0 9 rfl (fun w' hq => pv_pick_t rfl rfl rfl) ?_) | (refine at0 9 rfl (fun w' hq => pv_pick_f rfl rfl rfl) ?_)
        all_goals (refine at0 10 rfl (fun w' hq => pv_move rfl) ?_)
        all_goals first | (refine an1 11 rfl rfl rfl rfl ?_) | (refine at1 11 rfl rfl rfl rfl (fun w' hq => pv_fa (tF rfl) rfl) ?_)
        all_goals first | (refine an1 12 rfl rfl rfl rfl ?_) | (refine at1 12 rfl rfl rfl rfl (fun w' hq => pv_load (t1 rfl) rfl (by first | exact PT.ld0 (HX.mono hq) rfl | exact PT.ld (HX.mono hq) rfl | exact SlR.ld (HS.mono hq) hxj rfl | exact SlR.ld1 (HS.mono hq) hxj rfl)) ?_)
        all_goals first | (refine an3 13 rfl rfl rfl ?_) | (refine an0 13 rfl rfl rfl ?_) | (refine aw_act_g 13 (by kernel_rfl) rfl rfl rfl (by first | rfl | assumption | exact decide_eq_true (by omega) | exact decide_eq_false (by omega) | exact dec_notT (by omega) | exact dec_notF (by omega)) rfl ?_; refine act_call (f := 61) (by kernel_rfl) rfl (rbtw_e hb3 _) ?_; rintro e w1 ⟨rfl, hb⟩; refine ⟨_, rfl, grow_trans hS hb, fun hS => ?_⟩)
        all_goals first | (refine an1 14 rfl rfl rfl rfl ?_) | (refine at1 14 rfl rfl rfl rfl (fun w' hq => pv_not rfl) ?_)
        all_goals first | (refine at0 15 rfl (fun w' hq => pv_pick_t rfl rfl rfl) ?_) | (refine at0 15 rfl (fun w' hq => pv_pick_f rfl rfl rfl) ?_)
        all_goals (refine at0 16 rfl (fun w' hq => pv_move rfl) ?_)
        all_goals first | (refine an1 17 rfl rfl rfl rfl ?_) | (refine at1 17 rfl rfl rfl rfl (fun w' hq => pv_fa (tF rfl) rfl) ?_)
        all_goals first | (refine an1 18 rfl rfl rfl rfl ?_) | (refine at1 18 rfl rfl rfl rfl (fun w' hq => pv_load (t1 rfl) rfl (by first | exact PT.ld0 (HX.mono hq) rfl | exact PT.ld (HX.mono hq) rfl | exact SlR.ld (HS.mono hq) hxj rfl | exact SlR.ld1 (HS.mono hq) hxj rfl)) ?_)
        all_goals first | (refine an3 19 rfl rfl rfl ?_) | (refine an0 19 rfl rfl rfl ?_) | (refine aw_act_g 19 (by kernel_rfl) rfl rfl rfl (by first | rfl | assumption | exact decide_eq_true (by omega) | exact decide_eq_false (by omega) | exact dec_notT (by omega) | exact dec_notF (by omega)) rfl ?_; refine act_call (f := 61) (by kernel_rfl) rfl (rbtw_e hb4 _) ?_; rintro e w1 ⟨rfl, hb⟩; refine ⟨_, rfl, grow_trans hS hb, fun hS => ?_⟩)
        all_goals first | (refine an1 20 rfl rfl rfl rfl ?_) | (refine at1 20 rfl rfl rfl rfl (fun w' hq => pv_not rfl) ?_)
        all_goals first | (refine at0 21 rfl (fun w' hq => pv_pick_t rfl rfl rfl) ?_) | (refine at0 21 rfl (fun w' hq => pv_pick_f rfl rfl rfl) ?_)
        all_goals (refine at0 22 rfl (fun w' hq => pv_move rfl) ?_)
        all_goals first | (refine an1 23 rfl rfl rfl rfl ?_) | (refine at1 23 rfl rfl rfl rfl (fun w' hq => pv_move rfl) ?_)
        all_goals first | (refine an1 24 rfl rfl rfl rfl ?_) | (refine at1 24 rfl rfl rfl rfl (fun w' hq => pv_gtr rfl rfl) ?_)
        all_goals first | (refine an1 25 rfl rfl rfl rfl ?_) | (refine at1 25 rfl rfl rfl rfl (fun w' hq => pv_move rfl) ?_)
        all_goals first | (refine an0 26 rfl rfl rfl ?_) | (refine at2 26 rfl rfl rfl (fun w' hq => pv_fa (tF rfl) rfl) ?_)
        all_goals first | (refine an0 27 rfl rfl rfl ?_) | (refine at2 27 rfl rfl rfl (fun w' hq => pv_load (t1 rfl) rfl (by first | exact PT.ld0 (HX.mono hq) rfl | exact PT.ld (HX.mono hq) rfl | exact SlR.ld (HS.mono hq) hxj rfl | exact SlR.ld1 (HS.mono hq) hxj rfl)) ?_)
        all_goals first | (refine an0 28 rfl rfl rfl ?_) | (refine at2 28 rfl rfl rfl (fun w' hq => pv_move rfl) ?_)
        all_goals first | (refine an0 29 rfl rfl rfl ?_) | (refine at2 29 rfl rfl rfl (fun w' hq => pv_move rfl) ?_)
        all_goals first | (refine an0 30 rfl rfl rfl ?_) | (refine at2 30 rfl rfl rfl (fun w' hq => pv_sub rfl rfl (by omega)) ?_)
        all_goals first | (refine an0 31 rfl rfl rfl ?_) | (refine at2 31 rfl rfl rfl (fun w' hq => pv_iap hidx (tS rfl) rfl rfl hlt1) ?_)
        all_goals first | (refine an0 32 rfl rfl rfl ?_) | (refine at2 32 rfl rfl rfl (fun w' hq => pv_fa (tF rfl) rfl) ?_)
        all_goals first | (refine an0 33 rfl rfl rfl ?_) | (refine at2 33 rfl rfl rfl (fun w' hq => pv_load (t1 rfl) rfl (by first | exact PT.ld0 (HX.mono hq) rfl | exact PT.ld (HX.mono hq) rfl | exact SlR.ld (HS.mono hq) hxj rfl | exact SlR.ld1 (HS.mono hq) hxj rfl)) ?_)
        all_goals first | (refine an0 34 rfl rfl rfl ?_) | (refine at2 34 rfl rfl rfl (fun w' hq => pv_leq rfl rfl) ?_)
        all_goals first | (refine an1 35 rfl rfl rfl rfl ?_) | (refine at1 35 rfl rfl rfl rfl (fun w' hq => pv_pick_t rfl (by first | assumption | exact decide_eq_true (by omega) | exact dec_notT (by omega)) rfl) ?_)
        all_goals first | (refine at0 36 rfl (fun w' hq => pv_pick_t rfl rfl rfl) ?_) | (refine at0 36 rfl (fun w' hq => pv_pick_f rfl rfl rfl) ?_)
        all_goals (refine aw_done (by kernel_rfl) ?_; replace hw := hS; clear hS hNP)
        repeat' (first | (refine lw_pure rfl (pv_move rfl) ?_) | (refine lw_pure rfl (pv_assign rfl) ?_) | (refine is_cw ?_; first | (refine cw_seq ?_) | (refine cw_region ?_) | (refine cw_true rfl rfl ?_) | (refine cw_true rfl (by first | assumption | exact decide_eq_true (by omega) | exact dec_notT (by omega)) ?_) | (refine cw_false rfl (by first | assumption | exact decide_eq_false (by omega) | exact dec_notF (by omega)) ?_) | (refine cw_skip ?_) | (refine cw_ret ?_)) | (refine is_qw ?_; first | (with_reducible refine qw_then ?_) | (with_reducible refine qw_in ?_) | (with_reducible refine qw_then_ret ?_) | (with_reducible refine qw_in_ret ?_)) | (refine lw_nil ?_) | ((refine is_bin ?_; first | (refine lw_pure rfl (pv_inc rfl rfl (by omega)) ?_))))
        all_goals (simp only [decide_eq_true_eq, decide_eq_false_iff_not] at hb1 hb2 hb3 hb4)
        all_goals first | (refine qw_ret1 rfl rfl ⟨hbad ?_, grow_trans hW2 hw⟩; unfold MayL; omega) | (refine qw_ret1 rfl rfl ⟨hbad2 ?_, grow_trans hW2 hw⟩; omega) | (refine qw_round (k + 1) (by repeat' (first | exact trivial | refine ⟨rfl, ?_⟩)) ⟨by omega, grow_trans hW2 hw, hnext (by unfold MayL; omega), pwg_snoc (R := keyT) (fun _ _ _ h g => keyT_trans h g) ht hxk (Or.inr ⟨y, hxj, by unfold keyT; omega⟩)⟩ (by omega))
      · have hk00 : k = 0 := by omega
        subst hk00
        have hcs : b1 = false ∨ (b1 = true ∧ b2 = false) ∨ (b1 = true ∧ b2 = true ∧ b3 = false) ∨ (b1 = true ∧ b2 = true ∧ b3 = true ∧ b4 = false) ∨ (b1 = true ∧ b2 = true ∧ b3 = true ∧ b4 = true) := by
          cases b1 <;> cases b2 <;> cases b3 <;> cases b4 <;> simp
        repeat' (first | (refine is_cw ?_; first | (refine cw_seq ?_)) | (refine is_qw ?_; first | (with_reducible refine qw_then ?_)) | (refine lw_nil ?_))
        refine cw_drawn (fun w' => Below wn.heap.size wn w') (by kernel_rfl) (by repeat (first | exact NoPanic.body | with_reducible refine NoPanic.then ?_ | with_reducible refine NoPanic.inBlock ?_)) (fun hNP => ?_)
        have hS := hw.drew
        all_goals (refine at0 0 rfl (fun w' hq => pv_fa (tF rfl) rfl) ?_)
        all_goals (refine at0 1 rfl (fun w' hq => pv_load (t1 rfl) rfl (by first | exact PT.ld0 (HX.mono hq) rfl | exact PT.ld (HX.mono hq) rfl | exact SlR.ld (HS.mono hq) hxj rfl | exact SlR.ld1 (HS.mono hq) hxj rfl)) ?_)
        all_goals (refine aw_act 2 (by kernel_rfl) rfl rfl rfl ?_; rcases hcs with rfl | ⟨rfl, rfl⟩ | ⟨rfl, rfl, rfl⟩ | ⟨rfl, rfl, rfl, rfl⟩ | ⟨rfl, rfl, rfl, rfl⟩ <;> (refine act_call (f := 61) (by kernel_rfl) rfl (rbtw_e hb1 _) ?_; rintro e w1 ⟨rfl, hb⟩; refine ⟨_, rfl, grow_trans hS hb, fun hS => ?_⟩))
        all_goals (refine at0 3 rfl (fun w' hq => pv_not rfl) ?_)
        all_goals (refine at0 4 rfl (fun w' hq => pv_move rfl) ?_)
        all_goals first | (refine an1 5 rfl rfl rfl rfl ?_) | (refine at1 5 rfl rfl rfl rfl (fun w' hq => pv_fa (tF rfl) rfl) ?_)
        all_goals first | (refine an1 6 rfl rfl rfl rfl ?_) | (refine at1 6 rfl rfl rfl rfl (fun w' hq => pv_load (t1 rfl) rfl (by first | exact PT.ld0 (HX.mono hq) rfl | exact PT.ld (HX.mono hq) rfl | exact SlR.ld (HS.mono hq) hxj rfl | exact SlR.ld1 (HS.mono hq) hxj rfl)) ?_)
        all_goals first | (refine an3 7 rfl rfl rfl ?_) | (refine an0 7 rfl rfl rfl ?_) | (refine aw_act_g 7 (by kernel_rfl) rfl rfl rfl (by first | rfl | assumption | exact decide_eq_true (by omega) | exact decide_eq_false (by omega) | exact dec_notT (by omega) | exact dec_notF (by omega)) rfl ?_; refine act_call (f := 61) (by kernel_rfl) rfl (rbtw_e hb2 _) ?_; rintro e w1 ⟨rfl, hb⟩; refine ⟨_, rfl, grow_trans hS hb, fun hS => ?_⟩)
        all_goals first | (refine an1 8 rfl rfl rfl rfl ?_) | (refine at1 8 rfl rfl rfl rfl (fun w' hq => pv_not rfl) ?_)
        all_goals first | (refine at0 9 rfl (fun w' hq => pv_pick_t rfl rfl rfl) ?_) | (refine at0 9 rfl (fun w' hq => pv_pick_f rfl rfl rfl) ?_)
        all_goals (refine at0 10 rfl (fun w' hq => pv_move rfl) ?_)
        all_goals first | (refine an1 11 rfl rfl rfl rfl ?_) | (refine at1 11 rfl rfl rfl rfl (fun w' hq => pv_fa (tF rfl) rfl) ?_)
        all_goals first | (refine an1 12 rfl rfl rfl rfl ?_) | (refine at1 12 rfl rfl rfl rfl (fun w' hq => pv_load (t1 rfl) rfl (by first | exact PT.ld0 (HX.mono hq) rfl | exact PT.ld (HX.mono hq) rfl | exact SlR.ld (HS.mono hq) hxj rfl | exact SlR.ld1 (HS.mono hq) hxj rfl)) ?_)
        all_goals first | (refine an3 13 rfl rfl rfl ?_) | (refine an0 13 rfl rfl rfl ?_) | (refine aw_act_g 13 (by kernel_rfl) rfl rfl rfl (by first | rfl | assumption | exact decide_eq_true (by omega) | exact decide_eq_false (by omega) | exact dec_notT (by omega) | exact dec_notF (by omega)) rfl ?_; refine act_call (f := 61) (by kernel_rfl) rfl (rbtw_e hb3 _) ?_; rintro e w1 ⟨rfl, hb⟩; refine ⟨_, rfl, grow_trans hS hb, fun hS => ?_⟩)
        all_goals first | (refine an1 14 rfl rfl rfl rfl ?_) | (refine at1 14 rfl rfl rfl rfl (fun w' hq => pv_not rfl) ?_)
        all_goals first | (refine at0 15 rfl (fun w' hq => pv_pick_t rfl rfl rfl) ?_) | (refine at0 15 rfl (fun w' hq => pv_pick_f rfl rfl rfl) ?_)
        all_goals (refine at0 16 rfl (fun w' hq => pv_move rfl) ?_)
        all_goals first | (refine an1 17 rfl rfl rfl rfl ?_) | (refine at1 17 rfl rfl rfl rfl (fun w' hq => pv_fa (tF rfl) rfl) ?_)
        all_goals first | (refine an1 18 rfl rfl rfl rfl ?_) | (refine at1 18 rfl rfl rfl rfl (fun w' hq => pv_load (t1 rfl) rfl (by first | exact PT.ld0 (HX.mono hq) rfl | exact PT.ld (HX.mono hq) rfl | exact SlR.ld (HS.mono hq) hxj rfl | exact SlR.ld1 (HS.mono hq) hxj rfl)) ?_)
        all_goals first | (refine an3 19 rfl rfl rfl ?_) | (refine an0 19 rfl rfl rfl ?_) | (refine aw_act_g 19 (by kernel_rfl) rfl rfl rfl (by first | rfl | assumption | exact decide_eq_true (by omega) | exact decide_eq_false (by omega) | exact dec_notT (by omega) | exact dec_notF (by omega)) rfl ?_; refine act_call (f := 61) (by kernel_rfl) rfl (rbtw_e hb4 _) ?_; rintro e w1 ⟨rfl, hb⟩; refine ⟨_, rfl, grow_trans hS hb, fun hS => ?_⟩)
        all_goals first | (refine an1 20 rfl rfl rfl rfl ?_) | (refine at1 20 rfl rfl rfl rfl (fun w' hq => pv_not rfl) ?_)
        all_goals first | (refine at0 21 rfl (fun w' hq => pv_pick_t rfl rfl rfl) ?_) | (refine at0 21 rfl (fun w' hq => pv_pick_f rfl rfl rfl) ?_)
        all_goals (refine at0 22 rfl (fun w' hq => pv_move rfl) ?_)
        all_goals first | (refine an1 23 rfl rfl rfl rfl ?_) | (refine at1 23 rfl rfl rfl rfl (fun w' hq => pv_move rfl) ?_)
        all_goals first | (refine an1 24 rfl rfl rfl rfl ?_) | (refine at1 24 rfl rfl rfl rfl (fun w' hq => pv_gtr rfl rfl) ?_)
        all_goals first | (refine an1 25 rfl rfl rfl rfl ?_) | (refine at1 25 rfl rfl rfl rfl (fun w' hq => pv_move rfl) ?_)
        all_goals first | (refine an1 26 rfl rfl rfl rfl ?_) | (refine an0 26 rfl rfl rfl ?_)
        all_goals first | (refine an1 27 rfl rfl rfl rfl ?_) | (refine an0 27 rfl rfl rfl ?_)
        all_goals first | (refine an1 28 rfl rfl rfl rfl ?_) | (refine an0 28 rfl rfl rfl ?_)
        all_goals first | (refine an1 29 rfl rfl rfl rfl ?_) | (refine an0 29 rfl rfl rfl ?_)
        all_goals first | (refine an1 30 rfl rfl rfl rfl ?_) | (refine an0 30 rfl rfl rfl ?_)
        all_goals first | (refine an1 31 rfl rfl rfl rfl ?_) | (refine an0 31 rfl rfl rfl ?_)
        all_goals first | (refine an1 32 rfl rfl rfl rfl ?_) | (refine an0 32 rfl rfl rfl ?_)
        all_goals first | (refine an1 33 rfl rfl rfl rfl ?_) | (refine an0 33 rfl rfl rfl ?_)
        all_goals first | (refine an1 34 rfl rfl rfl rfl ?_) | (refine an0 34 rfl rfl rfl ?_)
        all_goals first | (refine an1 35 rfl rfl rfl rfl ?_) | (refine at1 35 rfl rfl rfl rfl (fun w' hq => pv_pick_f rfl rfl rfl) ?_)
        all_goals first | (refine at0 36 rfl (fun w' hq => pv_pick_t rfl rfl rfl) ?_) | (refine at0 36 rfl (fun w' hq => pv_pick_f rfl rfl rfl) ?_)
        all_goals (refine aw_done (by kernel_rfl) ?_; replace hw := hS; clear hS hNP)
        repeat' (first | (refine lw_pure rfl (pv_move rfl) ?_) | (refine lw_pure rfl (pv_assign rfl) ?_) | (refine is_cw ?_; first | (refine cw_seq ?_) | (refine cw_region ?_) | (refine cw_true rfl rfl ?_) | (refine cw_false rfl rfl ?_) | (refine cw_skip ?_) | (refine cw_ret ?_)) | (refine is_qw ?_; first | (with_reducible refine qw_then ?_) | (with_reducible refine qw_in ?_) | (with_reducible refine qw_then_ret ?_) | (with_reducible refine qw_in_ret ?_)) | (refine lw_nil ?_) | ((refine is_bin ?_; first | (refine lw_pure rfl (pv_inc rfl rfl (by omega)) ?_))))
        all_goals (simp only [decide_eq_true_eq, decide_eq_false_iff_not] at hb1 hb2 hb3 hb4)
        all_goals first | (refine qw_ret1 rfl rfl ⟨hbad ?_, grow_trans hW2 hw⟩; unfold MayL; omega) | (refine qw_round 1 (by repeat' (first | exact trivial | refine ⟨rfl, ?_⟩)) ⟨by omega, grow_trans hW2 hw, hnext (by unfold MayL; omega), pwg_snoc (R := keyT) (fun _ _ _ h g => keyT_trans h g) ht hxk (Or.inl rfl)⟩ (by omega))
    · have hkl : k = t.length := by omega
      subst hkl
      rw [List.take_length] at ht
      have hw := hW
      repeat' (first | (refine lw_pure rfl (pv_move rfl) ?_) | (refine lw_pure rfl (pv_assign rfl) ?_) | (refine is_cw ?_; first | (refine cw_seq ?_) | (refine cw_region ?_) | (refine cw_false rfl (by first | assumption | exact decide_eq_false (by omega) | exact dec_notF (by omega)) ?_) | (refine cw_exit ?_) | (refine cw_ret ?_)) | (refine is_qw ?_; first | (with_reducible refine qw_then ?_) | (with_reducible refine qw_in_hit ?_) | (with_reducible refine qw_then_exit ?_)) | (refine lw_nil ?_) | ((refine is_bin ?_; first | (refine lw_pure rfl (pv_lss rfl rfl) ?_))) | ((refine is_bi ?_; first | (refine lw_pure rfl (pv_lenl (tS rfl) rfl) ?_))))
      exact qw_ret1 rfl rfl ⟨ret_bool (mayV_iff.2 ⟨⟨hl, h32⟩, keyN_o hp, ht, hMO, keyN_n hp, all_of_get hn⟩).symm, hw⟩

theorem rmayV_e {p : List Opn} {t : List Lt} {m n : Nat} {a b : Option Addr} {ca cb : Nat} {r : Bool} {w : World} (h : mayV p t = r) (hm : p.length = m) (hn : t.length = n) (HP : SlR encP 6 w a ca p) (HL : SlR encL 4 w b cb t) : Calls Tryz.prog 30 #[.slice a m ca, .slice b n cb] w fun e w' => e = .returned (.bool r) ∧ Below w.heap.size w w' := by
  subst h; exact rmayV_c hm hn HP HL
theorem rmayE_e {e : Evt} {m n : Nat} {a b : Option Addr} {ca cb : Nat} {r : Bool} {w : World} (h : mayE e = r) (hm : e.nums.length = m) (hn : e.texts.length = n) (HN : SlR encI 1 w a ca e.nums) (HT : SlR encT 1 w b cb e.texts) (hT : TxtIn e.texts) : Calls Tryz.prog 31 #[.agg #[.int .u8 e.v, .int .u8 e.kind, .slice a m ca, .slice b n cb]] w fun e1 w' => e1 = .returned (.bool r) ∧ Below w.heap.size w w' := by
  subst h; exact rmayE_c hm hn HN HT hT
theorem rfindP_e {p : List Opn} {m : Nat} {a : Option Addr} {ca : Nat} {w : World} {id : Int} {f : Option Opn} (h : findP p id = f) (hm : p.length = m) (HP : SlR encP 6 w a ca p) : Calls Tryz.prog 34 #[.slice a m ca, .int .i64 id] w fun e w' => e = .returned (.tuple #[.agg (encP (f.getD oZ)).toArray, .bool f.isSome]) ∧ Below w.heap.size w w' := by subst h; exact rfind_P id hm HP
theorem rfindT_e {p : List Lt} {m : Nat} {a : Option Addr} {ca : Nat} {w : World} {id : Int} {f : Option Lt} (h : findT p id = f) (hm : p.length = m) (HP : SlR encL 4 w a ca p) : Calls Tryz.prog 35 #[.slice a m ca, .int .i64 id] w fun e w' => e = .returned (.tuple #[.agg (encL (f.getD lZ)).toArray, .bool f.isSome]) ∧ Below w.heap.size w w' := by subst h; exact rfind_L id hm HP
theorem rfindP_s {p : List Opn} {m : Nat} {a : Option Addr} {ca : Nat} {w : World} {id : Int} {r : Opn} (h : findP p id = some r) (hm : p.length = m) (HP : SlR encP 6 w a ca p) : Calls Tryz.prog 34 #[.slice a m ca, .int .i64 id] w fun e w' => e = .returned (.tuple #[.agg (encP r).toArray, .bool true]) ∧ Below w.heap.size w w' := rfindP_e h hm HP
def RefR (w' : World) (e1 : Ending) (R : List Opn × List Lt × Int) : Prop := ∃ a c b d, e1 = .returned (.tuple #[.slice a R.1.length c, .slice b R.2.1.length d, .int .i64 R.2.2]) ∧ SlR encP 6 w' a c R.1 ∧ SlR encL 4 w' b d R.2.1
theorem nilP (w : World) : SlR encP 6 w none 0 [] := by
  obtain ⟨a, c, hv, hs, -⟩ := Own.slR encP_len (Own.nil (enc := encP) (k := 6) (T := 69) (base := 0) w)
  injection hv with h1 _ h3; subst h1 h3; exact hs
theorem nilL (w : World) : SlR encL 4 w none 0 [] := by
  obtain ⟨a, c, hv, hs, -⟩ := Own.slR encL_len (Own.nil (enc := encL) (k := 4) (T := 73) (base := 0) w)
  injection hv with h1 _ h3; subst h1 h3; exact hs
theorem ref_nil (w : World) (c : Int) : RefR w (.returned (.tuple #[.slice none 0 0, .slice none 0 0, .int .i64 c])) ([], [], c) := ⟨_, _, _, _, rfl, nilP w, nilL w⟩
theorem at_of {e : Evt} {ns : List Int} (h : e.nums = ns) {i : Nat} {n : Int} (hx : ns[i]? = some n) : e.nums[i]? = some n := by rw [h]; exact hx
theorem nth_of {e : Evt} {i : Nat} {n : Int} (hx : e.nums[i]? = some n) : nth e i = n := nth_eq rfl hx
theorem left_in {p : List Opn} {t : List Lt} (h : MayV p t) : ∀ x ∈ p, 0 ≤ x.left ∧ x.left ≤ 1048576 := fun x hx => by
  have h1 := (h.2.2.2.1 x hx).2.2.2.2.2
  omega
theorem less_in {p : List Opn} {id q : Int} (hq : 0 ≤ q) (h : ∀ x ∈ p, 0 ≤ x.left ∧ x.left ≤ 1048576) : ∀ x ∈ lessP p id q, 0 ≤ x.left ∧ x.left ≤ 1048576 := fun x hx => by
  unfold lessP at hx
  obtain ⟨h1, h2⟩ := List.mem_filter.1 hx
  obtain ⟨y, hy, he⟩ := List.mem_map.1 h1
  have h3 := h y hy
  have h4 := of_decide_eq_true h2
  subst he
  unfold cutP at h4 ⊢
  split
  · rename_i hid
    rw [if_pos hid] at h4
    dsimp only at h4 ⊢
    omega
  · exact h3
end Go.Proofs.YtnffmbfdfhokeaaGreatDoor
