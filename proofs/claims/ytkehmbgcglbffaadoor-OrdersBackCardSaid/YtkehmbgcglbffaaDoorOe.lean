/-
  Contract of layer 22's May. Conditions: the slices read as lists.
-/
import Derived.Test.YtkehmbgcglbffaaDoorOd
import Derived.Shelf.SortG.SortNone
namespace Go.Proofs.YtkehmbgcglbffaaDoor
open Go.RowKit Go.Sort Go.PlainAid

abbrev leI (x y : Int) : Bool := decide (x ≤ y)
theorem sort_any {base : Nat} {v : Value} {ys : List Int} {w : World} (hbw : base ≤ w.heap.size) (hown : Own encI 1 2 base w v ys) (hlen : ys.length ≤ 1000000) :
    Calls Tryd.prog 22 #[v] w fun e w' => e = .returned (.tuple #[]) ∧ Own encI 1 2 base w' v (ys.mergeSort leI) ∧ Below base w w' := by
  obtain ⟨a, cap, rfl, hs, hb⟩ := Own.slR encI_len hown
  cases ys with
  | nil =>
    refine Calls.mono (R := _) (Go.Proofs.AnyG.slices_Sort_int_none Tryd.sortI a cap w) ?_
    rintro e w' ⟨he, hw⟩
    subst hw
    exact ⟨he, by simpa using hown, Below.refl _ _⟩
  | cons y l =>
    obtain ⟨b, off, h1, _, _⟩ := hs.at (by simp)
    subst h1
    obtain ⟨hb1, hb2⟩ := hb _ rfl
    simp only at hb1 hb2; subst hb2
    refine (sort_I base b cap (y :: l) w hown hlen).mono fun e w' ⟨he, ho, hg⟩ => ⟨he, ?_, (Below.refl base w).grown hg hbw (fun k hk => by injection hk with hk; omega)⟩
    rw [List.length_mergeSort] at ho; exact ho
theorem comp_any {base : Nat} {v : Value} {ys : List Int} {w : World} (hbw : base ≤ w.heap.size) (hown : Own encI 1 2 base w v ys) :
    Calls Tryd.prog 23 #[v] w fun e w' => (∃ a c, e = .returned (.slice a (Lib.compact ys).length c)) ∧ Below base w w' := by
  obtain ⟨a, cap, rfl, hs, hb⟩ := Own.slR encI_len hown
  cases ys with
  | nil =>
    refine Calls.mono (R := _) (Go.Proofs.AnyG.slices_Compact_int_empty Tryd.compI a cap w) ?_
    rintro e w' ⟨he, hw⟩
    subst hw
    exact ⟨⟨a, cap, he⟩, Below.refl _ _⟩
  | cons y l =>
    obtain ⟨b, off, h1, _, _⟩ := hs.at (by simp)
    subst h1
    obtain ⟨hb1, hb2⟩ := hb _ rfl
    simp only at hb1 hb2; subst hb2
    exact (comp_I base b cap (y :: l) w hown).mono fun e w' ⟨he, hg⟩ => ⟨⟨_, _, he⟩, (Below.refl base w).grown hg hbw (fun k hk => by injection hk with hk; omega)⟩
theorem may_not {p : List Opn} {t : List Lt} (h : ¬ MayV p t) : Ending.returned (.bool false) = .returned (.bool (mayV p t)) := by rw [mayV_no.2 h]
set_option maxRecDepth 20000 in
set_option maxHeartbeats 4000000 in
theorem mayV_c {p : List Opn} {t : List Lt} {m n : Nat} {a b : Option Addr} {ca cb : Nat} {w : World} (hm : p.length = m) (hn : t.length = n) (HP : SlR encP 6 w a ca p) (HL : SlR encL 4 w b cb t) : Calls Tryd.prog 11 #[.slice a m ca, .slice b n cb] w fun e w' => e = .returned (.bool (mayV p t)) ∧ Below w.heap.size w w' := by
  subst hm hn
  have hw := Below.refl w.heap.size w
  have hca := HP.le
  have hcm := HP.max
  refine fn_enter 54 Tryd.func11 rfl rfl rfl ?_
  repeat' ((fail_if_success (refine is_seqb ?_)); (fail_if_success (refine is_blk ?_)); first | (refine lw_pure rfl (pv_move rfl) ?_) | (refine lw_pure rfl (pv_assign rfl) ?_) | (refine lw_call (f := 17) (by kernel_rfl) rfl rfl (rise_P rfl (HP.mono hw)) ?_; rintro e w1 ⟨rfl, hb⟩; refine ⟨_, rfl, ?_⟩; replace hw := grow_trans hw hb; clear hb) | (refine lw_call (f := 19) (by kernel_rfl) rfl rfl (rise_L rfl (HL.mono hw)) ?_; rintro e w1 ⟨rfl, hb⟩; refine ⟨_, rfl, ?_⟩; replace hw := grow_trans hw hb; clear hb) | (refine is_cw ?_; first | (refine cw_seq ?_) | (refine cw_region ?_) | (refine cw_true rfl rfl ?_) | (refine cw_skip ?_) | (refine cw_ret ?_)) | (refine is_qw ?_; first | (with_reducible refine qw_then ?_) | (with_reducible refine qw_then_ret ?_)) | (refine lw_nil ?_) | (refine is_guarded ?_; first | (refine lw_not rfl rfl rfl rfl ?_) | (refine lw_on rfl rfl (by first | assumption | exact decide_eq_true (by omega) | exact decide_eq_false (by omega) | exact dec_notT (by omega) | exact dec_notF (by omega)) ?_) | (refine lw_not rfl rfl rfl (by first | assumption | exact decide_eq_true (by omega) | exact decide_eq_false (by omega) | exact dec_notT (by omega) | exact dec_notF (by omega)) ?_) | (refine lw_gs_f rfl rfl rfl (fun hc => ?_) (fun hc => ?_) <;> (first | replace hc := of_decide_eq_true hc | replace hc := of_decide_eq_false hc | replace hc := dec_nT hc | replace hc := dec_nF hc | skip) <;> (try (exfalso; omega)))) | ((refine is_bin ?_; first | (refine lw_pure rfl (pv_gtr rfl rfl) ?_))) | ((refine is_un ?_; first | (refine lw_pure rfl (pv_not rfl) ?_))) | ((refine is_bi ?_; first | (refine lw_pure rfl (pv_lenl (tS rfl) rfl) ?_))) | (refine lw_pure rfl (pv_pick_t rfl rfl rfl) ?_) | (refine lw_pure rfl (pv_pick_t rfl (by first | assumption | exact decide_eq_true (by omega) | exact dec_notT (by omega)) rfl) ?_) | (refine lw_pure rfl (pv_pick_f rfl (by first | assumption | exact decide_eq_false (by omega) | exact dec_notF (by omega)) rfl) ?_) | (refine is_cw ?_; refine cw_split rfl (fun hc => ?_) (fun hc => ?_) <;> (first | replace hc := of_decide_eq_true hc | replace hc := of_decide_eq_false hc | replace hc := dec_nT hc | replace hc := dec_nF hc | skip) <;> (try (exfalso; omega))))
  all_goals first | (refine qw_ret1 rfl rfl ⟨may_not ?_, hw⟩; rintro ⟨h1, h2, h3, -⟩; first | omega | (exact absurd h2 (by assumption)) | (exact absurd h3 (by assumption))) | skip
  have hl : p.length ≤ 128 := by omega
  have h32 : t.length ≤ 32 := by omega
  have hp1 : p.Pairwise keyO := by assumption
  have ht1 : t.Pairwise keyT := by assumption
  repeat' (first | (refine is_cw ?_; first | (refine cw_block ?_)))
  refine cw_loop (σ := Nat × Value) (fun s => [(0, .slice a p.length ca), (1, .slice b t.length cb), (5, s.2), (26, .slice a p.length ca), (27, .int .i64 (p.length : Nat)), (28, .int .i64 (s.1 : Nat))]) (fun s wr => s.1 ≤ p.length ∧ Below w.heap.size w wr ∧ Own encI 1 2 w.heap.size wr s.2 ((p.take s.1).map (·.id)) ∧ ∀ j, j < s.1 → ∀ x, p[j]? = some x → MayO x) (fun s => p.length - s.1) (0, .slice none 0 0) (by repeat' (first | exact trivial | refine ⟨rfl, ?_⟩)) ⟨Nat.zero_le _, hw, Own.nil _, by omega⟩ ?_
  clear hw
  rintro ⟨k, v⟩ wr ⟨hk, hW, hO, hn⟩
  dsimp only at hk hO hn
  change CW _ _ _ _ [(0, .slice a p.length ca), (1, .slice b t.length cb), (5, v), (26, .slice a p.length ca), (27, .int .i64 (p.length : Nat)), (28, .int .i64 (k : Nat))] wr
  by_cases hlt : k < p.length
  · have hxk : p[k]? = some p[k] := List.getElem?_eq_getElem hlt
    obtain ⟨ab, ao, rfl, -, -⟩ := HP.at (by intro h; rw [h] at hlt; simp at hlt)
    generalize p[k] = x at hxk
    have HS := HP.mono hW
    have hw := Below.refl wr.heap.size wr
    repeat' (first | (refine is_cw ?_; first | (refine cw_seq ?_) | (refine cw_region ?_) | (refine cw_true rfl (by first | assumption | exact decide_eq_true (by omega) | exact dec_notT (by omega)) ?_) | (refine cw_skip ?_) | (refine cw_block ?_)) | (refine is_qw ?_; first | (with_reducible refine qw_then ?_)) | (refine lw_nil ?_) | ((refine is_bin ?_; first | (refine lw_pure rfl (pv_lss rfl rfl) ?_))) | ((refine is_load ?_; first | (refine lw_pure rfl (pv_loada (tA rfl) rfl (by first | exact SlR.lda (HS.mono hw) hxk) (by rfl)) ?_))) | ((refine is_ia ?_; first | (refine lw_pure rfl (pv_ian (tS rfl) rfl rfl (by omega)) ?_))))
    refine lw_varN rfl (by first | exact tyv_25 | exact tyv_26 | exact tyv_33 | exact tyv_34 | exact tyv_35 | exact tyv_36 | exact tyv_37 | exact tyv_50 | exact tyv_51 | exact tyv_81 | exact tyv_82) rfl (tZ rfl) (fun _ => rfl) rfl rfl ?_; intro N wn hN HX hb; replace hN := Nat.le_trans hw.size hN; replace hw := grow_trans hw hb; clear hb
    replace hO := hO.mono hw
    have hW2 := grow_trans hW hw
    clear HS hW
    ; clear hw; have hw := Below.refl wn.heap.size wn
    repeat' (first | (refine lw_call (f := 21) (by kernel_rfl) rfl rfl (may_o x _) ?_; rintro e w1 ⟨rfl, hb⟩; refine ⟨_, rfl, ?_⟩; replace hw := grow_trans hw hb; clear hb) | (refine is_cw ?_; first | (refine cw_seq ?_) | (refine cw_region ?_)) | (refine is_qw ?_; first | (with_reducible refine qw_then ?_)) | (refine lw_nil ?_) | ((refine is_load ?_; first | (refine lw_pure rfl (pv_loada (tA rfl) rfl (by first | exact PT.lda (HX.mono hw)) (by rfl)) ?_))) | ((refine is_un ?_; first | (refine lw_pure rfl (pv_not rfl) ?_))))
    by_cases hx : MayO x
    · rw [decide_eq_true hx]
      have htl : ((p.take k).map (·.id)).length ≤ 128 := by rw [List.length_map, List.length_take]; omega
      have hWs := grow_trans hW2 hw
      repeat' (first | (refine lw_pure rfl (pv_move rfl) ?_) | (refine is_cw ?_; first | (refine cw_region ?_) | (refine cw_false rfl rfl ?_) | (refine cw_skip ?_)) | (refine is_qw ?_; first | (with_reducible refine qw_then ?_)) | ((refine is_load ?_; first | (refine lw_pure rfl (pv_load (t1 rfl) rfl (by first | exact PT.ld0 (HX.mono hw) rfl | exact PT.ld (HX.mono hw) rfl)) ?_))) | ((refine is_fa ?_; first | (refine lw_pure rfl (pv_fa (tF rfl) rfl) ?_))))
      refine lw_bs (vs := [.int .i64 x.id]) (cs := [.int .i64 x.id]) elemI rfl rfl rfl (by omega) (by omega) rfl (by simp [Value.cells]) ?_; intro w4 HB hb hz
      refine lw_app elemI encI_len encI_one rfl rfl rfl ((hO.mono hw).mono hb) (HB.slR (xs := [x.id]) encI_len rfl (by omega)) rfl (Nat.le_trans hWs.size hb.size) (by simp; omega) (by simp [maxLen]; omega) ?_; intro v5 w5 hO5 hg5 hb5
      repeat' (first | (refine lw_pure rfl (pv_move rfl) ?_) | (refine lw_pure rfl (pv_assign rfl) ?_) | (refine is_cw ?_; first | (refine cw_region ?_)) | (refine is_qw ?_; first | (with_reducible refine qw_then ?_) | (with_reducible refine qw_in ?_)) | (refine lw_nil ?_) | ((refine is_bin ?_; first | (refine lw_pure rfl (pv_inc rfl rfl (by omega)) ?_))))
      refine qw_round (k + 1, v5) (by repeat' (first | exact trivial | refine ⟨rfl, ?_⟩)) ⟨by show k + 1 ≤ _; omega, (grow_trans hWs hb).trans hb5, ?_, ?_⟩ (by show p.length - (k + 1) < p.length - k; omega)
      · show Own _ _ _ _ _ _ ((p.take (k + 1)).map (·.id))
        rw [List.take_add_one, hxk]; simpa using hO5
      · intro j hj y hy
        by_cases hjk : j = k
        · subst hjk; rw [hxk] at hy; injection hy with hy; subst hy; exact hx
        · exact hn j (by show j < k; have : j < k + 1 := hj; omega) y hy
    · rw [decide_eq_false hx]
      repeat' (first | (refine lw_pure rfl (pv_assign rfl) ?_) | (refine is_cw ?_; first | (refine cw_seq ?_) | (refine cw_region ?_) | (refine cw_true rfl rfl ?_) | (refine cw_ret ?_)) | (refine is_qw ?_; first | (with_reducible refine qw_then ?_) | (with_reducible refine qw_then_ret ?_) | (with_reducible refine qw_in_ret ?_)) | (refine lw_nil ?_))
      exact qw_ret1 rfl rfl ⟨may_not (fun hM => hx (hM.2.2.2.1 x (List.mem_of_getElem? hxk))), grow_trans hW2 hw⟩
  · have hkl : k = p.length := by omega
    subst hkl
    rw [List.take_length] at hO
    have hml : (p.map (·.id)).length = p.length := List.length_map ..
    have hw := Below.refl wr.heap.size wr
    repeat' (first | (refine lw_pure rfl (pv_move rfl) ?_) | (refine is_cw ?_; first | (refine cw_seq ?_) | (refine cw_region ?_) | (refine cw_false rfl (by first | assumption | exact decide_eq_false (by omega) | exact dec_notF (by omega)) ?_) | (refine cw_exit ?_)) | (refine is_qw ?_; first | (with_reducible refine qw_then ?_) | (with_reducible refine qw_in_hit ?_) | (with_reducible refine qw_then_exit ?_)) | (refine lw_nil ?_) | ((refine is_bin ?_; first | (refine lw_pure rfl (pv_lss rfl rfl) ?_))))
    refine lw_call (f := 22) (by kernel_rfl) rfl rfl (sort_any hW.size hO (by omega)) ?_; rintro e w1 ⟨rfl, hO1, hb1⟩; refine ⟨_, rfl, ?_⟩
    replace hW := hW.trans hb1
    repeat' (first | (refine lw_pure rfl (pv_move rfl) ?_) | (refine is_cw ?_; first | (refine cw_seq ?_) | (refine cw_region ?_)) | (refine is_qw ?_; first | (with_reducible refine qw_then ?_)) | (refine lw_nil ?_))
    refine lw_call (f := 23) (by kernel_rfl) rfl rfl (comp_any hW.size hO1) ?_; rintro e w2 ⟨⟨a2, c2, rfl⟩, hb2⟩; refine ⟨_, rfl, ?_⟩
    replace hW := hW.trans hb2
    have hcl := compact_len (ys := p.map (·.id))
    rw [hml] at hcl
    generalize hq : (Lib.compact ((p.map (·.id)).mergeSort leI)).length = q at hcl ⊢
    clear hw hb1 hb2
    have hw := Below.refl w2.heap.size w2
    by_cases hqe : q = p.length
    · have hnd := hcl.1 hqe
      subst hqe
      have hFc : ∀ x, x ∈ t → ∀ w', Below w2.heap.size w2 w' → Calls Tryd.prog 25 (#[] ++ [Value.agg (encL x).toArray].toArray ++ #[]) w' fun e w'' => e = .returned (.bool (!decide (MayL x))) ∧ Below w'.heap.size w' w'' := fun x _ w' _ => by
        have := mayF_c x w'
        simpa using this
      repeat' (first | (refine lw_pure rfl (pv_move rfl) ?_) | (refine lw_pure rfl (pv_assign rfl) ?_) | (refine lw_call (f := 24) (by kernel_rfl) rfl rfl (contains_L w2.heap.size (fun x => !decide (MayL x)) 25 #[] (by kernel_rfl) (Nat.le_refl _) hFc rfl ((HL.mono hW).mono hw)) ?_; rintro e w1 ⟨rfl, hb⟩; refine ⟨_, rfl, ?_⟩; replace hw := grow_trans hw hb; clear hb) | (refine is_cw ?_; first | (refine cw_ret ?_)) | (refine is_qw ?_; first | (with_reducible refine qw_then ?_)) | (refine lw_nil ?_) | (refine is_guarded ?_; first | (refine lw_on rfl rfl (by first | assumption | exact decide_eq_true (by omega) | exact decide_eq_false (by omega) | exact dec_notT (by omega) | exact dec_notF (by omega)) ?_)) | ((refine is_bin ?_; first | (refine lw_pure rfl (pv_eql rfl rfl) ?_))) | ((refine is_un ?_; first | (refine lw_pure rfl (pv_not rfl) ?_))) | ((refine is_bi ?_; first | (refine lw_pure rfl (pv_lenl (tS rfl) rfl) ?_))) | (refine lw_pure rfl (pv_pick_t rfl (by first | assumption | exact decide_eq_true (by omega) | exact dec_notT (by omega)) rfl) ?_))
      refine qw_ret1 rfl rfl ⟨?_, grow_trans hW hw⟩
      have hiff : mayV p t = !(t.any fun x => !decide (MayL x)) := by
        rw [Bool.eq_iff_iff, mayV_iff]
        simp only [Bool.not_eq_true', List.any_eq_false]
        exact ⟨fun h x hx => by simp [h.2.2.2.2.2 x hx], fun h => ⟨⟨hl, h32⟩, hp1, ht1, all_of_get hn, hnd, fun x hx => by simpa using h x hx⟩⟩
      rw [hiff]
    · have hnd : ¬ (p.map (·.id)).Nodup := fun h => hqe (hcl.2 h)
      repeat' (first | (refine lw_pure rfl (pv_move rfl) ?_) | (refine lw_pure rfl (pv_assign rfl) ?_) | (refine is_cw ?_; first | (refine cw_ret ?_)) | (refine is_qw ?_; first | (with_reducible refine qw_then ?_)) | (refine lw_nil ?_) | (refine is_guarded ?_; first | (refine lw_not rfl rfl rfl (by first | assumption | exact decide_eq_true (by omega) | exact decide_eq_false (by omega) | exact dec_notT (by omega) | exact dec_notF (by omega)) ?_)) | ((refine is_bin ?_; first | (refine lw_pure rfl (pv_eql rfl rfl) ?_))) | ((refine is_bi ?_; first | (refine lw_pure rfl (pv_lenl (tS rfl) rfl) ?_))) | (refine lw_pure rfl (pv_pick_f rfl (by first | assumption | exact decide_eq_false (by omega) | exact dec_notF (by omega)) rfl) ?_))
      exact qw_ret1 rfl rfl ⟨may_not (fun hM => hnd hM.2.2.2.2.1), grow_trans hW hw⟩
end Go.Proofs.YtkehmbgcglbffaaDoor
