/-
  Contract of the laws' works (layer 22): its standing example comes to true. Conditions: the table of kinds lies in memory (KnW).
-/
import Derived.Test.YtkehmbgcglbffaaGreatDoorWb
namespace Go.Proofs.YtkehmbgcglbffaaGreatDoor
open Go.RowKit Go.PlainAid

theorem elemV : ElemT Tryz.prog 42 27 4 56 := elem_of Tryz.underlying42 (by kernel_rfl) (by omega)
section
variable {k nb : Nat} {P : Program} {n : Nat} {l : Fr} {w : World} {Q : Exit → Act → World → Prop} {ops : Array Oper} {os : List Oper} {d : Nat} {ty : TypeId} {pos : String} {af : Array Edge} {S T : TypeId}
theorem lw_bsN (E : ElemT P S T k nb) {m : Nat} {ps : List (Nat × Operand)} {vs cs : List Value} (hd : Nat.blt d n = true) (hps : ps.map (·.1) = List.range m) (hvs : evs l (ps.map (·.2)) = some vs) (hp : 0 < m) (hs : m * k ≤ 16777216) (hcs : (vs.flatMap fun v => v.cells.toList) = cs) (h1 : ∀ v ∈ vs, v.cells.size = k)
    (h : ∀ N w', w.heap.size ≤ N → PT w' N T cs → Below w.heap.size w w' → LW P n ops Q os ((d, .slice (some ⟨N, 0, none⟩) m m) :: l) w') :
    LW P n ops Q (⟨some d, .buildSlice S m ps.toArray, ty, pos, af, none⟩ :: os) l w :=
  lw_bs E hd hps hvs hp hs hcs h1 fun w' hp hb _ => h _ w' (Nat.le_refl _) hp hb
end
theorem evs_nil (w : World) : EvsR w [] [] := ⟨rfl, fun j x e h _ => by simp at h⟩
theorem evs_cons {w : World} {x : EvC} {e : Evt} {xs : List EvC} {es : List Evt} (h : EvR w x e) (hs : EvsR w xs es) : EvsR w (x :: xs) (e :: es) := ⟨by simp [hs.1], fun j y f h1 h2 => by
  cases j with
  | zero => simp at h1 h2; subst h1 h2; exact h
  | succ j => exact hs.2 j y f (by simpa using h1) (by simpa using h2)⟩
abbrev wkO : Opn := ⟨2, 1, 1, 1, 10, 2⟩
theorem tx_nil : TxtIn [] := fun x hx => by cases hx
set_option maxRecDepth 20000 in
set_option maxHeartbeats 8000000 in
theorem works_c {w : World} (hK : KnW w) : Calls Tryz.prog 7 #[] w fun e w' => e = .returned (.bool true) ∧ Below w.heap.size w w' := by
  have hw := Below.refl w.heap.size w
  have hW := hw
  refine fn_enter 70 Tryz.func7 rfl rfl rfl ?_
  repeat' (first | (refine lw_pure rfl (pv_assign rfl) ?_) | (refine is_cw ?_; first | (refine cw_seq ?_) | (refine cw_region ?_)) | (refine is_qw ?_; first | (with_reducible refine qw_then ?_)) | (refine lw_nil ?_))
  refine lw_bsN (vs := [.int .i64 1, .int .i64 2, .int .i64 1, .int .i64 1, .int .i64 10, .int .i64 5]) (cs := [.int .i64 1, .int .i64 2, .int .i64 1, .int .i64 1, .int .i64 10, .int .i64 5]) elemI rfl rfl rfl (by omega) (by omega) rfl (by simp [Value.cells]) ?_; intro BA wn _ HX hb
  have hs := grow_trans hw hb; replace hW := grow_trans hW hs; replace hK := hK.mono hs; (try replace HA := HA.mono hs); (try replace HB := HB.mono hs); (try replace HC := HC.mono hs); (try replace HD := HD.mono hs); (try replace HV := HV.mono hs); (try replace HO := HO.mono hs); (try replace HP := HP.mono hs); clear hw hb hs; have hw := Below.refl wn.heap.size wn
  have HA : EvR wn ⟨3, 11, some ⟨BA, 0, none⟩, 6, 6, none, 0, 0⟩ wkA := ⟨rfl, rfl, rfl, rfl, HX.slR (xs := [1, 2, 1, 1, 10, 5]) encI_len rfl (by dsimp only; omega), SlR.nil _, by decide, tx_nil⟩; clear HX
  repeat' (first | (refine lw_call (f := 19) (by kernel_rfl) rfl rfl (evnew_c 11 _ 6 6 _) ?_; rintro e w1 ⟨rfl, hb⟩; refine ⟨_, rfl, ?_⟩; replace hw := grow_trans hw hb; clear hb))
  refine lw_bsN (vs := [.int .i64 2, .int .i64 1, .int .i64 1, .int .i64 2, .int .i64 10, .int .i64 3]) (cs := [.int .i64 2, .int .i64 1, .int .i64 1, .int .i64 2, .int .i64 10, .int .i64 3]) elemI rfl rfl rfl (by omega) (by omega) rfl (by simp [Value.cells]) ?_; intro BB wn _ HX hb
  have hs := grow_trans hw hb; replace hW := grow_trans hW hs; replace hK := hK.mono hs; (try replace HA := HA.mono hs); (try replace HB := HB.mono hs); (try replace HC := HC.mono hs); (try replace HD := HD.mono hs); (try replace HV := HV.mono hs); (try replace HO := HO.mono hs); (try replace HP := HP.mono hs); clear hw hb hs; have hw := Below.refl wn.heap.size wn
  have HB : EvR wn ⟨3, 11, some ⟨BB, 0, none⟩, 6, 6, none, 0, 0⟩ wkB := ⟨rfl, rfl, rfl, rfl, HX.slR (xs := [2, 1, 1, 2, 10, 3]) encI_len rfl (by dsimp only; omega), SlR.nil _, by decide, tx_nil⟩; clear HX
  repeat' (first | (refine lw_call (f := 19) (by kernel_rfl) rfl rfl (evnew_c 11 _ 6 6 _) ?_; rintro e w1 ⟨rfl, hb⟩; refine ⟨_, rfl, ?_⟩; replace hw := grow_trans hw hb; clear hb))
  refine lw_bsN (vs := [.int .i64 2, .int .i64 1, .int .i64 10, .int .i64 3, .int .i64 0]) (cs := [.int .i64 2, .int .i64 1, .int .i64 10, .int .i64 3, .int .i64 0]) elemI rfl rfl rfl (by omega) (by omega) rfl (by simp [Value.cells]) ?_; intro BC wn _ HX hb
  have hs := grow_trans hw hb; replace hW := grow_trans hW hs; replace hK := hK.mono hs; (try replace HA := HA.mono hs); (try replace HB := HB.mono hs); (try replace HC := HC.mono hs); (try replace HD := HD.mono hs); (try replace HV := HV.mono hs); (try replace HO := HO.mono hs); (try replace HP := HP.mono hs); clear hw hb hs; have hw := Below.refl wn.heap.size wn
  have HC : EvR wn ⟨3, 13, some ⟨BC, 0, none⟩, 5, 5, none, 0, 0⟩ wkC := ⟨rfl, rfl, rfl, rfl, HX.slR (xs := [2, 1, 10, 3, 0]) encI_len rfl (by dsimp only; omega), SlR.nil _, by decide, tx_nil⟩; clear HX
  repeat' (first | (refine lw_call (f := 19) (by kernel_rfl) rfl rfl (evnew_c 13 _ 5 5 _) ?_; rintro e w1 ⟨rfl, hb⟩; refine ⟨_, rfl, ?_⟩; replace hw := grow_trans hw hb; clear hb))
  obtain ⟨xA, hA⟩ : ∃ x : EvC, x = ⟨3, 11, some ⟨BA, 0, none⟩, 6, 6, none, 0, 0⟩ := ⟨_, rfl⟩
  obtain ⟨xB, hB⟩ : ∃ x : EvC, x = ⟨3, 11, some ⟨BB, 0, none⟩, 6, 6, none, 0, 0⟩ := ⟨_, rfl⟩
  obtain ⟨xC, hC⟩ : ∃ x : EvC, x = ⟨3, 13, some ⟨BC, 0, none⟩, 5, 5, none, 0, 0⟩ := ⟨_, rfl⟩
  refine lw_bsN (vs := [.agg (encV xA).toArray, .agg (encV xB).toArray, .agg (encV xC).toArray]) (cs := encV xA ++ (encV xB ++ encV xC)) elemV rfl rfl (by subst hA hB hC; rfl) (by omega) (by omega) rfl (by simp [Value.cells]) ?_; intro B4 wn _ HX hb
  rw [← hA] at HA; rw [← hB] at HB; rw [← hC] at HC
  have hs := grow_trans hw hb; replace hW := grow_trans hW hs; replace hK := hK.mono hs; (try replace HA := HA.mono hs); (try replace HB := HB.mono hs); (try replace HC := HC.mono hs); (try replace HD := HD.mono hs); (try replace HV := HV.mono hs); (try replace HO := HO.mono hs); (try replace HP := HP.mono hs); clear hw hb hs; have hw := Below.refl wn.heap.size wn
  have HV : SlR encV 4 wn (some ⟨B4, 0, none⟩) 3 [xA, xB, xC] := HX.slR (xs := [xA, xB, xC]) encV_len rfl (by omega)
  clear HX hA hB hC
  repeat' (first | (refine lw_pure rfl (pv_move rfl) ?_) | (refine lw_pure rfl (pv_assign rfl) ?_) | (refine is_cw ?_; first | (refine cw_seq ?_) | (refine cw_region ?_)) | (refine is_qw ?_; first | (with_reducible refine qw_then ?_)) | (refine lw_nil ?_))
  refine lw_call (f := 20) (by kernel_rfl) rfl rfl (run_c rfl (HV.mono hw) ((evs_cons HA (evs_cons HB (evs_cons HC (evs_nil _)))).mono hw) (hK.mono hw)) ?_; rintro e1 wn ⟨⟨vo, vt, rfl, HO, -⟩, hb⟩; refine ⟨_, rfl, ?_⟩
  rw [wk1] at HO ⊢
  obtain ⟨oa, oc, rfl, HP, -⟩ := Own.slR encP_len HO
  clear HO
  have hs := grow_trans hw hb; replace hW := grow_trans hW hs; replace hK := hK.mono hs; (try replace HA := HA.mono hs); (try replace HB := HB.mono hs); (try replace HC := HC.mono hs); (try replace HD := HD.mono hs); (try replace HV := HV.mono hs); (try replace HO := HO.mono hs); (try replace HP := HP.mono hs); clear hw hb hs; have hw := Below.refl wn.heap.size wn
  repeat' (first | (refine lw_pure rfl (pv_move rfl) ?_) | (refine lw_pure rfl (pv_assign rfl) ?_) | (refine is_cw ?_; first | (refine cw_seq ?_) | (refine cw_region ?_)) | (refine is_qw ?_; first | (with_reducible refine qw_then ?_)) | (refine lw_nil ?_) | (refine lw_pure rfl (pv_extract rfl rfl) ?_))
  refine lw_bs0 (enc := encV) elemV rfl ?_; intro u11 HO hb hz
  have hT := grow_trans hw hb
  clear hz hw
  have hw := Below.refl u11.heap.size u11
  repeat' (first | (refine lw_pure rfl (pv_move rfl) ?_))
  refine lw_app elemV encV_len encV_one rfl rfl rfl (HO.mono hw) (HV.mono (grow_trans hT hw)) rfl (grow_trans hT hw).size (by simp) (by simp [maxLen]) ?_; intro v21 u21 HO2 hg hb9
  replace hT := (grow_trans hT hw).trans hb9
  clear HO hg hb9 hw hb
  have HO := HO2
  clear HO2
  have hlt := Own.lt HO
  have hw := Below.refl u21.heap.size u21
  skip
  refine lw_bsN (vs := [.int .i64 2]) (cs := [.int .i64 2]) elemI rfl rfl rfl (by omega) (by omega) rfl (by simp [Value.cells]) ?_; intro BD u31 hBD HX hb
  have hne : ∀ q, v21.ownBlock = some q → q ≠ BD := fun q hq e => by have := (hlt q hq).2; have := hw.size; omega
  have hs := grow_trans hw hb
  replace hT := grow_trans hT hs
  replace HO := HO.mono hs
  have HD : SlR encI 1 u31 (some ⟨BD, 0, none⟩) 1 [2] := HX.slR (xs := [2]) encI_len rfl (by omega)
  clear HX hw hs hb hBD hlt
  have hw := Below.refl u31.heap.size u31
  repeat' (first | (refine lw_call (f := 19) (by kernel_rfl) rfl rfl (evnew_c 12 _ 1 1 _) ?_; rintro e w1 ⟨rfl, hb⟩; refine ⟨_, rfl, ?_⟩; replace hw := grow_trans hw hb; clear hb))
  obtain ⟨xD, hD⟩ : ∃ x : EvC, x = ⟨3, 12, some ⟨BD, 0, none⟩, 1, 1, none, 0, 0⟩ := ⟨_, rfl⟩
  refine lw_bsN (vs := [.agg (encV xD).toArray]) (cs := encV xD) elemV rfl rfl (by subst hD; rfl) (by omega) (by omega) rfl (by simp [Value.cells]) ?_; intro B5 u41 _ HX hb
  have hs := grow_trans hw hb
  replace hT := grow_trans hT hs
  replace HO := HO.mono hs
  replace HD := HD.mono hs
  clear hw hb hs
  have hw := Below.refl u41.heap.size u41
  skip
  refine lw_app elemV encV_len encV_one rfl rfl rfl (HO.mono hw) ((HX.slR (xs := [xD]) encV_len rfl (by simp)).mono hw) rfl (grow_trans hT hw).size (by simp) (by simp [maxLen]) ?_; intro v31 u51 HO3 hg hb9
  replace hT := (grow_trans hT hw).trans hb9
  replace HD := (HD.mono hw).grown hg (fun ad had e => by injection had with had; subst had; exact hne _ e.symm rfl)
  have HE : EvR u51 xD wkD := by subst hD; exact ⟨rfl, rfl, rfl, rfl, HD, SlR.nil _, by decide, tx_nil⟩
  clear HO hg hb9 hw HX HD hne hD
  replace hW := grow_trans hW hT
  replace hK := hK.mono hT; replace HA := HA.mono hT; replace HB := HB.mono hT; replace HC := HC.mono hT; replace HV := HV.mono hT; replace HP := HP.mono hT
  obtain ⟨qa, qc, rfl, HQ, -⟩ := Own.slR encV_len HO3
  clear hT HO3
  have hw := Below.refl u51.heap.size u51
  skip
  refine lw_call (f := 20) (by kernel_rfl) rfl rfl (run_c (es := [wkA, wkB, wkC, wkD]) rfl (HQ.mono hw) ((evs_cons HA (evs_cons HB (evs_cons HC (evs_cons HE (evs_nil _))))).mono hw) (hK.mono hw)) ?_; rintro e1 u61 ⟨⟨vo1, vt1, rfl, -, -⟩, hb⟩; refine ⟨_, rfl, ?_⟩
  rw [wk2]
  have hs := grow_trans hw hb; replace hW := grow_trans hW hs; replace hK := hK.mono hs; replace HA := HA.mono hs; replace HB := HB.mono hs; replace HC := HC.mono hs; replace HV := HV.mono hs; replace HP := HP.mono hs
  clear hw hb hs HE HQ
  have hw := Below.refl u61.heap.size u61
  repeat' (first | (refine lw_pure rfl (pv_move rfl) ?_) | (refine lw_pure rfl (pv_assign rfl) ?_) | (refine is_cw ?_; first | (refine cw_seq ?_) | (refine cw_region ?_)) | (refine is_qw ?_; first | (with_reducible refine qw_then ?_)) | (refine lw_nil ?_) | (refine lw_pure rfl (pv_extract rfl rfl) ?_))
  refine lw_bs0 (enc := encV) elemV rfl ?_; intro u12 HO hb hz
  have hT := grow_trans hw hb
  clear hz hw
  have hw := Below.refl u12.heap.size u12
  repeat' (first | (refine lw_pure rfl (pv_move rfl) ?_))
  refine lw_app elemV encV_len encV_one rfl rfl rfl (HO.mono hw) (HV.mono (grow_trans hT hw)) rfl (grow_trans hT hw).size (by simp) (by simp [maxLen]) ?_; intro v22 u22 HO2 hg hb9
  replace hT := (grow_trans hT hw).trans hb9
  clear HO hg hb9 hw hb
  have HO := HO2
  clear HO2
  have hlt := Own.lt HO
  have hw := Below.refl u22.heap.size u22
  skip
  refine lw_bsN (vs := [.int .i64 1, .int .i64 1, .int .i64 10, .int .i64 1, .int .i64 0]) (cs := [.int .i64 1, .int .i64 1, .int .i64 10, .int .i64 1, .int .i64 0]) elemI rfl rfl rfl (by omega) (by omega) rfl (by simp [Value.cells]) ?_; intro BD u32 hBD HX hb
  have hne : ∀ q, v22.ownBlock = some q → q ≠ BD := fun q hq e => by have := (hlt q hq).2; have := hw.size; omega
  have hs := grow_trans hw hb
  replace hT := grow_trans hT hs
  replace HO := HO.mono hs
  have HD : SlR encI 1 u32 (some ⟨BD, 0, none⟩) 5 [1, 1, 10, 1, 0] := HX.slR (xs := [1, 1, 10, 1, 0]) encI_len rfl (by omega)
  clear HX hw hs hb hBD hlt
  have hw := Below.refl u32.heap.size u32
  repeat' (first | (refine lw_call (f := 19) (by kernel_rfl) rfl rfl (evnew_c 13 _ 5 5 _) ?_; rintro e w1 ⟨rfl, hb⟩; refine ⟨_, rfl, ?_⟩; replace hw := grow_trans hw hb; clear hb))
  obtain ⟨xD, hD⟩ : ∃ x : EvC, x = ⟨3, 13, some ⟨BD, 0, none⟩, 5, 5, none, 0, 0⟩ := ⟨_, rfl⟩
  refine lw_bsN (vs := [.agg (encV xD).toArray]) (cs := encV xD) elemV rfl rfl (by subst hD; rfl) (by omega) (by omega) rfl (by simp [Value.cells]) ?_; intro B5 u42 _ HX hb
  have hs := grow_trans hw hb
  replace hT := grow_trans hT hs
  replace HO := HO.mono hs
  replace HD := HD.mono hs
  clear hw hb hs
  have hw := Below.refl u42.heap.size u42
  skip
  refine lw_app elemV encV_len encV_one rfl rfl rfl (HO.mono hw) ((HX.slR (xs := [xD]) encV_len rfl (by simp)).mono hw) rfl (grow_trans hT hw).size (by simp) (by simp [maxLen]) ?_; intro v32 u52 HO3 hg hb9
  replace hT := (grow_trans hT hw).trans hb9
  replace HD := (HD.mono hw).grown hg (fun ad had e => by injection had with had; subst had; exact hne _ e.symm rfl)
  have HE : EvR u52 xD wkE := by subst hD; exact ⟨rfl, rfl, rfl, rfl, HD, SlR.nil _, by decide, tx_nil⟩
  clear HO hg hb9 hw HX HD hne hD
  replace hW := grow_trans hW hT
  replace hK := hK.mono hT; replace HA := HA.mono hT; replace HB := HB.mono hT; replace HC := HC.mono hT; replace HV := HV.mono hT; replace HP := HP.mono hT
  obtain ⟨qa, qc, rfl, HQ, -⟩ := Own.slR encV_len HO3
  clear hT HO3
  have hw := Below.refl u52.heap.size u52
  skip
  refine lw_call (f := 20) (by kernel_rfl) rfl rfl (run_c (es := [wkA, wkB, wkC, wkE]) rfl (HQ.mono hw) ((evs_cons HA (evs_cons HB (evs_cons HC (evs_cons HE (evs_nil _))))).mono hw) (hK.mono hw)) ?_; rintro e1 u62 ⟨⟨vo2, vt2, rfl, -, -⟩, hb⟩; refine ⟨_, rfl, ?_⟩
  rw [wk3]
  have hs := grow_trans hw hb; replace hW := grow_trans hW hs; replace hK := hK.mono hs; replace HA := HA.mono hs; replace HB := HB.mono hs; replace HC := HC.mono hs; replace HV := HV.mono hs; replace HP := HP.mono hs
  clear hw hb hs HE HQ
  have hw := Below.refl u62.heap.size u62
  obtain ⟨pb, po, rfl, -, -⟩ := HP.at (by simp)
  have hx : [(⟨2, 1, 1, 1, 10, 2⟩ : Opn)][0]? = some ⟨2, 1, 1, 1, 10, 2⟩ := rfl
  have hl1 : ([(⟨2, 1, 1, 1, 10, 2⟩ : Opn)]).length = 1 := rfl
  rw [hl1]
  repeat' (first | (refine lw_pure rfl (pv_move rfl) ?_) | (refine lw_pure rfl (pv_assign rfl) ?_) | (refine is_cw ?_; first | (refine cw_seq ?_) | (refine cw_region ?_) | (refine cw_ret ?_)) | (refine is_qw ?_; first | (with_reducible refine qw_then ?_)) | (refine lw_nil ?_) | (refine is_guarded ?_; first | (refine lw_on rfl rfl rfl ?_)) | ((refine is_bin ?_; first | (refine lw_pure rfl (pv_eqlP wkO wkO rfl rfl) ?_) | (refine lw_pure rfl (pv_eql rfl rfl) ?_))) | ((refine is_load ?_; first | (refine lw_pure rfl (pv_loada (tA rfl) rfl (by first | exact SlR.lda (HP.mono hw) hx) (by rfl)) ?_))) | ((refine is_ia ?_; first | (refine lw_pure rfl (pv_ia (tS rfl) rfl rfl (by omega)) ?_))) | ((refine is_bi ?_; first | (refine lw_pure rfl (pv_lenl (tS rfl) rfl) ?_))) | ((refine is_bd ?_; first | (refine lw_pure rfl (tyB_37 rfl rfl rfl) ?_))) | (refine lw_pure rfl (pv_pick_t rfl rfl rfl) ?_) | (refine lw_pure rfl (pv_extract rfl rfl) ?_))
  all_goals exact qw_ret1 rfl rfl ⟨rfl, grow_trans hW hw⟩
end Go.Proofs.YtkehmbgcglbffaaGreatDoor
