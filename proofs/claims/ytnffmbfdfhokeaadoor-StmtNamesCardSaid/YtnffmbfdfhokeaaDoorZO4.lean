/-
  StmtNames: its row and its card: whatever the input: true; the input reads as it did. Conditions: what the row prints (the table of functions reads as the program's text lays it).
-/
import Derived.Test.YtnffmbfdfhokeaaDoorZO3
import Derived.Test.YtnffmbfdfhokeaaDoorTie
import Derived.Test.YtnffmbfdfhokeaaDoorCards
import Derived.SevenTiedAt
namespace Go.Proofs.YtnffmbfdfhokeaaDoor
open Go.RowKit Go.PlainAid

set_option maxRecDepth 20000 in
set_option maxHeartbeats 16000000 in
theorem names_c {w : World} (hK : KnW w) : Calls Tryd.prog 3 #[] w fun e w' => e = .returned (.bool true) ∧ Below w.heap.size w w' := by
  have hw := Below.refl w.heap.size w
  refine fn_enter 301 Tryd.func3 rfl rfl rfl ?_
  repeat' (first | (refine lw_pure rfl (pv_assign rfl) ?_) | (refine is_cw ?_; first | (refine cw_seq ?_) | (refine cw_region ?_)) | (refine is_qw ?_; first | (with_reducible refine qw_then ?_)) | (refine lw_nil ?_))
  refine lw_call (f := 6) (by kernel_rfl) rfl rfl (worksL_c hK) ?_; rintro e1 W1 ⟨rfl, hb⟩; refine ⟨_, rfl, ?_⟩; replace hw := grow_trans hw hb; clear hb
  repeat' (first | (refine is_cw ?_; first | (refine cw_seq ?_) | (refine cw_region ?_) | (refine cw_false rfl rfl ?_) | (refine cw_skip ?_)) | (refine is_qw ?_; first | (with_reducible refine qw_then ?_)) | (refine lw_nil ?_) | ((refine is_un ?_; first | (refine lw_pure rfl (pv_not rfl) ?_))))
  refine lw_call (f := 7) (by kernel_rfl) rfl rfl (some_c _) ?_; rintro e1 W1 ⟨⟨pa, pc, ta, tc, rfl, HP, HL⟩, hb⟩; refine ⟨_, rfl, ?_⟩; replace hw := grow_trans hw hb; clear hb
  replace hK := hK.mono hw
  have hW := hw
  clear hw
  have hw := Below.refl W1.heap.size W1
  repeat' (first | (refine lw_pure rfl (pv_move rfl) ?_) | (refine lw_pure rfl (pv_assign rfl) ?_) | (refine is_cw ?_; first | (refine cw_seq ?_) | (refine cw_region ?_)) | (refine is_qw ?_; first | (with_reducible refine qw_then ?_)) | (refine lw_nil ?_) | (refine lw_pure rfl (pv_extract rfl rfl) ?_))
  refine lw_call (f := 9) (by kernel_rfl) rfl rfl (line_c _ _ _ _ _ _) ?_; rintro e1 wn ⟨rfl, hb⟩; refine ⟨_, rfl, ?_⟩
  replace hw := grow_trans hw hb; (try replace HT := HT.mono fun _ _ h => h.mono hb); (try replace HN := HN.mono hb); (try replace HY := HY.mono hb); clear hb
  skip
  refine lw_call (f := 9) (by kernel_rfl) rfl rfl (line_c _ _ _ _ _ _) ?_; rintro e1 wn ⟨rfl, hb⟩; refine ⟨_, rfl, ?_⟩
  replace hw := grow_trans hw hb; (try replace HT := HT.mono fun _ _ h => h.mono hb); (try replace HN := HN.mono hb); (try replace HY := HY.mono hb); clear hb
  skip
  refine lw_bsN (vs := [.agg (encN ⟨2, 3, 6, 100, 100⟩).toArray, .agg (encN ⟨3, 3, 6, 40, 40⟩).toArray]) (cs := lnL.flatMap encN) elemLn rfl rfl rfl (by omega) (by omega) rfl (by simp [Value.cells, encN]) ?_; intro BS wn _ HX hb
  replace hw := grow_trans hw hb; (try replace HT := HT.mono fun _ _ h => h.mono hb); (try replace HN := HN.mono hb); (try replace HY := HY.mono hb); clear hb
  have HS : SlR encN 5 wn (some ⟨BS, 0, none⟩) 2 lnL := HX.slR (xs := lnL) encN_len rfl (by simp)
  clear HX
  skip
  refine lw_call (f := 8) (by kernel_rfl) rfl rfl (lines_c _ _) ?_; rintro e1 W1 ⟨rfl, hb⟩; refine ⟨_, rfl, ?_⟩
  replace HS := HS.mono hb
  replace hw := grow_trans hw hb
  clear hb
  replace hK := hK.mono hw
  replace HP := HP.mono hw
  replace HL := HL.mono hw
  replace hW := grow_trans hW hw
  clear hw
  have hw := Below.refl W1.heap.size W1
  repeat' (first | (refine lw_pure rfl (pv_assign rfl) ?_) | (refine is_cw ?_; first | (refine cw_seq ?_) | (refine cw_region ?_)) | (refine is_qw ?_; first | (with_reducible refine qw_then ?_)) | (refine lw_nil ?_))
  have HT : Fits FitA W1 [] [] := Fits.nil
  skip
  refine lw_bsN (vs := [.int .i64 3, .int .i64 5]) (cs := [.int .i64 3, .int .i64 5]) elemI rfl rfl rfl (by omega) (by omega) rfl (by simp [Value.cells]) ?_; intro BN0 wn hBB HX hb; clear hBB
  replace hw := grow_trans hw hb; (try replace HT := HT.mono fun _ _ h => h.mono hb); (try replace HN := HN.mono hb); (try replace HY := HY.mono hb); clear hb
  have HN : SlR encI 1 wn (some ⟨BN0, 0, none⟩) 2 [3, 5] := HX.slR (xs := [3, 5]) encI_len rfl (by simp)
  clear HX
  skip
  refine lw_call (f := 10) (by kernel_rfl) rfl rfl (evnewL_c 6 _ 2 2 _) ?_; rintro e1 wn ⟨rfl, hb⟩; refine ⟨_, rfl, ?_⟩
  replace hw := grow_trans hw hb; (try replace HT := HT.mono fun _ _ h => h.mono hb); (try replace HN := HN.mono hb); (try replace HY := HY.mono hb); clear hb
  skip
  refine lw_call (f := 9) (by kernel_rfl) rfl rfl (line_c _ _ _ _ _ _) ?_; rintro e1 wn ⟨rfl, hb⟩; refine ⟨_, rfl, ?_⟩
  replace hw := grow_trans hw hb; (try replace HT := HT.mono fun _ _ h => h.mono hb); (try replace HN := HN.mono hb); (try replace HY := HY.mono hb); clear hb
  skip
  refine lw_bsN (vs := [.agg (encN (⟨3, 9, 6, 5, 45⟩ : Ln)).toArray]) (cs := ([(⟨3, 9, 6, 5, 45⟩ : Ln)] : List Ln).flatMap encN) elemLn rfl rfl rfl (by omega) (by omega) rfl (by simp [Value.cells, encN]) ?_; intro BL0 wn hBB HX hb; clear hBB
  replace hw := grow_trans hw hb; (try replace HT := HT.mono fun _ _ h => h.mono hb); (try replace HN := HN.mono hb); (try replace HY := HY.mono hb); clear hb
  have HY : SlR encN 5 wn (some ⟨BL0, 0, none⟩) 1 [(⟨3, 9, 6, 5, 45⟩ : Ln)] := HX.slR (xs := [(⟨3, 9, 6, 5, 45⟩ : Ln)]) encN_len rfl (by simp)
  clear HX
  skip
  refine lw_call (f := 8) (by kernel_rfl) rfl rfl (lines_c _ _) ?_; rintro e1 wn ⟨rfl, hb⟩; refine ⟨_, rfl, ?_⟩
  replace hw := grow_trans hw hb; (try replace HT := HT.mono fun _ _ h => h.mono hb); (try replace HN := HN.mono hb); (try replace HY := HY.mono hb); clear hb
  replace HT := HT.snoc (r := ⟨⟨3, 6, some ⟨BN0, 0, none⟩, 2, 2, none, 0, 0⟩, some ⟨BL0, 0, none⟩, 1, 1⟩) (t := ((⟨3, 6, [3, 5], []⟩ : Evt), [(⟨3, 9, 6, 5, 45⟩ : Ln)])) ⟨⟨rfl, rfl, rfl, rfl, HN, SlR.nil _, by decide, tx_nil⟩, rfl, HY⟩
  clear HN HY
  repeat' (first | ((refine is_bd ?_; first | (refine lw_pure rfl (tyB_37 rfl rfl rfl) ?_))))
  refine lw_bsN (vs := [.int .i64 2, .int .i64 100]) (cs := [.int .i64 2, .int .i64 100]) elemI rfl rfl rfl (by omega) (by omega) rfl (by simp [Value.cells]) ?_; intro BN1 wn hBB HX hb; clear hBB
  replace hw := grow_trans hw hb; (try replace HT := HT.mono fun _ _ h => h.mono hb); (try replace HN := HN.mono hb); (try replace HY := HY.mono hb); clear hb
  have HN : SlR encI 1 wn (some ⟨BN1, 0, none⟩) 2 [2, 100] := HX.slR (xs := [2, 100]) encI_len rfl (by simp)
  clear HX
  skip
  refine lw_call (f := 10) (by kernel_rfl) rfl rfl (evnewL_c 7 _ 2 2 _) ?_; rintro e1 wn ⟨rfl, hb⟩; refine ⟨_, rfl, ?_⟩
  replace hw := grow_trans hw hb; (try replace HT := HT.mono fun _ _ h => h.mono hb); (try replace HN := HN.mono hb); (try replace HY := HY.mono hb); clear hb
  skip
  refine lw_call (f := 9) (by kernel_rfl) rfl rfl (line_c _ _ _ _ _ _) ?_; rintro e1 wn ⟨rfl, hb⟩; refine ⟨_, rfl, ?_⟩
  replace hw := grow_trans hw hb; (try replace HT := HT.mono fun _ _ h => h.mono hb); (try replace HN := HN.mono hb); (try replace HY := HY.mono hb); clear hb
  skip
  refine lw_bsN (vs := [.agg (encN (⟨2, 9, 7, -100, 0⟩ : Ln)).toArray]) (cs := ([(⟨2, 9, 7, -100, 0⟩ : Ln)] : List Ln).flatMap encN) elemLn rfl rfl rfl (by omega) (by omega) rfl (by simp [Value.cells, encN]) ?_; intro BL1 wn hBB HX hb; clear hBB
  replace hw := grow_trans hw hb; (try replace HT := HT.mono fun _ _ h => h.mono hb); (try replace HN := HN.mono hb); (try replace HY := HY.mono hb); clear hb
  have HY : SlR encN 5 wn (some ⟨BL1, 0, none⟩) 1 [(⟨2, 9, 7, -100, 0⟩ : Ln)] := HX.slR (xs := [(⟨2, 9, 7, -100, 0⟩ : Ln)]) encN_len rfl (by simp)
  clear HX
  skip
  refine lw_call (f := 8) (by kernel_rfl) rfl rfl (lines_c _ _) ?_; rintro e1 wn ⟨rfl, hb⟩; refine ⟨_, rfl, ?_⟩
  replace hw := grow_trans hw hb; (try replace HT := HT.mono fun _ _ h => h.mono hb); (try replace HN := HN.mono hb); (try replace HY := HY.mono hb); clear hb
  replace HT := HT.snoc (r := ⟨⟨3, 7, some ⟨BN1, 0, none⟩, 2, 2, none, 0, 0⟩, some ⟨BL1, 0, none⟩, 1, 1⟩) (t := ((⟨3, 7, [2, 100], []⟩ : Evt), [(⟨2, 9, 7, -100, 0⟩ : Ln)])) ⟨⟨rfl, rfl, rfl, rfl, HN, SlR.nil _, by decide, tx_nil⟩, rfl, HY⟩
  clear HN HY
  repeat' (first | ((refine is_bd ?_; first | (refine lw_pure rfl (tyB_37 rfl rfl rfl) ?_))))
  refine lw_bsN (vs := [.int .i64 2, .int .i64 5, .int .i64 30]) (cs := [.int .i64 2, .int .i64 5, .int .i64 30]) elemI rfl rfl rfl (by omega) (by omega) rfl (by simp [Value.cells]) ?_; intro BN2 wn hBB HX hb; clear hBB
  replace hw := grow_trans hw hb; (try replace HT := HT.mono fun _ _ h => h.mono hb); (try replace HN := HN.mono hb); (try replace HY := HY.mono hb); clear hb
  have HN : SlR encI 1 wn (some ⟨BN2, 0, none⟩) 3 [2, 5, 30] := HX.slR (xs := [2, 5, 30]) encI_len rfl (by simp)
  clear HX
  skip
  refine lw_call (f := 10) (by kernel_rfl) rfl rfl (evnewL_c 21 _ 3 3 _) ?_; rintro e1 wn ⟨rfl, hb⟩; refine ⟨_, rfl, ?_⟩
  replace hw := grow_trans hw hb; (try replace HT := HT.mono fun _ _ h => h.mono hb); (try replace HN := HN.mono hb); (try replace HY := HY.mono hb); clear hb
  skip
  refine lw_call (f := 9) (by kernel_rfl) rfl rfl (line_c _ _ _ _ _ _) ?_; rintro e1 wn ⟨rfl, hb⟩; refine ⟨_, rfl, ?_⟩
  replace hw := grow_trans hw hb; (try replace HT := HT.mono fun _ _ h => h.mono hb); (try replace HN := HN.mono hb); (try replace HY := HY.mono hb); clear hb
  skip
  refine lw_call (f := 9) (by kernel_rfl) rfl rfl (line_c _ _ _ _ _ _) ?_; rintro e1 wn ⟨rfl, hb⟩; refine ⟨_, rfl, ?_⟩
  replace hw := grow_trans hw hb; (try replace HT := HT.mono fun _ _ h => h.mono hb); (try replace HN := HN.mono hb); (try replace HY := HY.mono hb); clear hb
  skip
  refine lw_bsN (vs := [.agg (encN (⟨2, 9, 21, -30, 70⟩ : Ln)).toArray, .agg (encN (⟨5, 9, 21, 30, 30⟩ : Ln)).toArray]) (cs := ([(⟨2, 9, 21, -30, 70⟩ : Ln), (⟨5, 9, 21, 30, 30⟩ : Ln)] : List Ln).flatMap encN) elemLn rfl rfl rfl (by omega) (by omega) rfl (by simp [Value.cells, encN]) ?_; intro BL2 wn hBB HX hb; clear hBB
  replace hw := grow_trans hw hb; (try replace HT := HT.mono fun _ _ h => h.mono hb); (try replace HN := HN.mono hb); (try replace HY := HY.mono hb); clear hb
  have HY : SlR encN 5 wn (some ⟨BL2, 0, none⟩) 2 [(⟨2, 9, 21, -30, 70⟩ : Ln), (⟨5, 9, 21, 30, 30⟩ : Ln)] := HX.slR (xs := [(⟨2, 9, 21, -30, 70⟩ : Ln), (⟨5, 9, 21, 30, 30⟩ : Ln)]) encN_len rfl (by simp)
  clear HX
  skip
  refine lw_call (f := 8) (by kernel_rfl) rfl rfl (lines_c _ _) ?_; rintro e1 wn ⟨rfl, hb⟩; refine ⟨_, rfl, ?_⟩
  replace hw := grow_trans hw hb; (try replace HT := HT.mono fun _ _ h => h.mono hb); (try replace HN := HN.mono hb); (try replace HY := HY.mono hb); clear hb
  replace HT := HT.snoc (r := ⟨⟨3, 21, some ⟨BN2, 0, none⟩, 3, 3, none, 0, 0⟩, some ⟨BL2, 0, none⟩, 2, 2⟩) (t := ((⟨3, 21, [2, 5, 30], []⟩ : Evt), [(⟨2, 9, 21, -30, 70⟩ : Ln), (⟨5, 9, 21, 30, 30⟩ : Ln)])) ⟨⟨rfl, rfl, rfl, rfl, HN, SlR.nil _, by decide, tx_nil⟩, rfl, HY⟩
  clear HN HY
  repeat' (first | ((refine is_bd ?_; first | (refine lw_pure rfl (tyB_37 rfl rfl rfl) ?_))))
  refine lw_bsN (vs := [.int .i64 1, .int .i64 5, .int .i64 10, .int .i64 3, .int .i64 2]) (cs := [.int .i64 1, .int .i64 5, .int .i64 10, .int .i64 3, .int .i64 2]) elemI rfl rfl rfl (by omega) (by omega) rfl (by simp [Value.cells]) ?_; intro BN3 wn hBB HX hb; clear hBB
  replace hw := grow_trans hw hb; (try replace HT := HT.mono fun _ _ h => h.mono hb); (try replace HN := HN.mono hb); (try replace HY := HY.mono hb); clear hb
  have HN : SlR encI 1 wn (some ⟨BN3, 0, none⟩) 5 [1, 5, 10, 3, 2] := HX.slR (xs := [1, 5, 10, 3, 2]) encI_len rfl (by simp)
  clear HX
  skip
  refine lw_call (f := 10) (by kernel_rfl) rfl rfl (evnewL_c 13 _ 5 5 _) ?_; rintro e1 wn ⟨rfl, hb⟩; refine ⟨_, rfl, ?_⟩
  replace hw := grow_trans hw hb; (try replace HT := HT.mono fun _ _ h => h.mono hb); (try replace HN := HN.mono hb); (try replace HY := HY.mono hb); clear hb
  skip
  refine lw_call (f := 9) (by kernel_rfl) rfl rfl (line_c _ _ _ _ _ _) ?_; rintro e1 wn ⟨rfl, hb⟩; refine ⟨_, rfl, ?_⟩
  replace hw := grow_trans hw hb; (try replace HT := HT.mono fun _ _ h => h.mono hb); (try replace HN := HN.mono hb); (try replace HY := HY.mono hb); clear hb
  skip
  refine lw_call (f := 9) (by kernel_rfl) rfl rfl (line_c _ _ _ _ _ _) ?_; rintro e1 wn ⟨rfl, hb⟩; refine ⟨_, rfl, ?_⟩
  replace hw := grow_trans hw hb; (try replace HT := HT.mono fun _ _ h => h.mono hb); (try replace HN := HN.mono hb); (try replace HY := HY.mono hb); clear hb
  skip
  refine lw_bsN (vs := [.agg (encN (⟨2, 9, 13, -30, 70⟩ : Ln)).toArray, .agg (encN (⟨3, 9, 13, 28, 68⟩ : Ln)).toArray]) (cs := ([(⟨2, 9, 13, -30, 70⟩ : Ln), (⟨3, 9, 13, 28, 68⟩ : Ln)] : List Ln).flatMap encN) elemLn rfl rfl rfl (by omega) (by omega) rfl (by simp [Value.cells, encN]) ?_; intro BL3 wn hBB HX hb; clear hBB
  replace hw := grow_trans hw hb; (try replace HT := HT.mono fun _ _ h => h.mono hb); (try replace HN := HN.mono hb); (try replace HY := HY.mono hb); clear hb
  have HY : SlR encN 5 wn (some ⟨BL3, 0, none⟩) 2 [(⟨2, 9, 13, -30, 70⟩ : Ln), (⟨3, 9, 13, 28, 68⟩ : Ln)] := HX.slR (xs := [(⟨2, 9, 13, -30, 70⟩ : Ln), (⟨3, 9, 13, 28, 68⟩ : Ln)]) encN_len rfl (by simp)
  clear HX
  skip
  refine lw_call (f := 8) (by kernel_rfl) rfl rfl (lines_c _ _) ?_; rintro e1 wn ⟨rfl, hb⟩; refine ⟨_, rfl, ?_⟩
  replace hw := grow_trans hw hb; (try replace HT := HT.mono fun _ _ h => h.mono hb); (try replace HN := HN.mono hb); (try replace HY := HY.mono hb); clear hb
  replace HT := HT.snoc (r := ⟨⟨3, 13, some ⟨BN3, 0, none⟩, 5, 5, none, 0, 0⟩, some ⟨BL3, 0, none⟩, 2, 2⟩) (t := ((⟨3, 13, [1, 5, 10, 3, 2], []⟩ : Evt), [(⟨2, 9, 13, -30, 70⟩ : Ln), (⟨3, 9, 13, 28, 68⟩ : Ln)])) ⟨⟨rfl, rfl, rfl, rfl, HN, SlR.nil _, by decide, tx_nil⟩, rfl, HY⟩
  clear HN HY
  repeat' (first | ((refine is_bd ?_; first | (refine lw_pure rfl (tyB_37 rfl rfl rfl) ?_))))
  refine lw_bsN (vs := [.int .i64 7, .int .i64 2, .int .i64 50, .int .i64 4]) (cs := [.int .i64 7, .int .i64 2, .int .i64 50, .int .i64 4]) elemI rfl rfl rfl (by omega) (by omega) rfl (by simp [Value.cells]) ?_; intro BN4 wn hBB HX hb; clear hBB
  replace hw := grow_trans hw hb; (try replace HT := HT.mono fun _ _ h => h.mono hb); (try replace HN := HN.mono hb); (try replace HY := HY.mono hb); clear hb
  have HN : SlR encI 1 wn (some ⟨BN4, 0, none⟩) 4 [7, 2, 50, 4] := HX.slR (xs := [7, 2, 50, 4]) encI_len rfl (by simp)
  clear HX
  skip
  refine lw_call (f := 10) (by kernel_rfl) rfl rfl (evnewL_c 18 _ 4 4 _) ?_; rintro e1 wn ⟨rfl, hb⟩; refine ⟨_, rfl, ?_⟩
  replace hw := grow_trans hw hb; (try replace HT := HT.mono fun _ _ h => h.mono hb); (try replace HN := HN.mono hb); (try replace HY := HY.mono hb); clear hb
  skip
  refine lw_call (f := 9) (by kernel_rfl) rfl rfl (line_c _ _ _ _ _ _) ?_; rintro e1 wn ⟨rfl, hb⟩; refine ⟨_, rfl, ?_⟩
  replace hw := grow_trans hw hb; (try replace HT := HT.mono fun _ _ h => h.mono hb); (try replace HN := HN.mono hb); (try replace HY := HY.mono hb); clear hb
  skip
  refine lw_call (f := 9) (by kernel_rfl) rfl rfl (line_c _ _ _ _ _ _) ?_; rintro e1 wn ⟨rfl, hb⟩; refine ⟨_, rfl, ?_⟩
  replace hw := grow_trans hw hb; (try replace HT := HT.mono fun _ _ h => h.mono hb); (try replace HN := HN.mono hb); (try replace HY := HY.mono hb); clear hb
  skip
  refine lw_bsN (vs := [.agg (encN (⟨2, 9, 18, -50, 50⟩ : Ln)).toArray, .agg (encN (⟨3, 9, 18, 46, 86⟩ : Ln)).toArray]) (cs := ([(⟨2, 9, 18, -50, 50⟩ : Ln), (⟨3, 9, 18, 46, 86⟩ : Ln)] : List Ln).flatMap encN) elemLn rfl rfl rfl (by omega) (by omega) rfl (by simp [Value.cells, encN]) ?_; intro BL4 wn hBB HX hb; clear hBB
  replace hw := grow_trans hw hb; (try replace HT := HT.mono fun _ _ h => h.mono hb); (try replace HN := HN.mono hb); (try replace HY := HY.mono hb); clear hb
  have HY : SlR encN 5 wn (some ⟨BL4, 0, none⟩) 2 [(⟨2, 9, 18, -50, 50⟩ : Ln), (⟨3, 9, 18, 46, 86⟩ : Ln)] := HX.slR (xs := [(⟨2, 9, 18, -50, 50⟩ : Ln), (⟨3, 9, 18, 46, 86⟩ : Ln)]) encN_len rfl (by simp)
  clear HX
  skip
  refine lw_call (f := 8) (by kernel_rfl) rfl rfl (lines_c _ _) ?_; rintro e1 wn ⟨rfl, hb⟩; refine ⟨_, rfl, ?_⟩
  replace hw := grow_trans hw hb; (try replace HT := HT.mono fun _ _ h => h.mono hb); (try replace HN := HN.mono hb); (try replace HY := HY.mono hb); clear hb
  replace HT := HT.snoc (r := ⟨⟨3, 18, some ⟨BN4, 0, none⟩, 4, 4, none, 0, 0⟩, some ⟨BL4, 0, none⟩, 2, 2⟩) (t := ((⟨3, 18, [7, 2, 50, 4], []⟩ : Evt), [(⟨2, 9, 18, -50, 50⟩ : Ln), (⟨3, 9, 18, 46, 86⟩ : Ln)])) ⟨⟨rfl, rfl, rfl, rfl, HN, SlR.nil _, by decide, tx_nil⟩, rfl, HY⟩
  clear HN HY
  repeat' (first | ((refine is_bd ?_; first | (refine lw_pure rfl (tyB_37 rfl rfl rfl) ?_))))
  refine lw_bsN (vs := [.int .i64 1, .int .i64 5, .int .i64 10, .int .i64 1, .int .i64 10]) (cs := [.int .i64 1, .int .i64 5, .int .i64 10, .int .i64 1, .int .i64 10]) elemI rfl rfl rfl (by omega) (by omega) rfl (by simp [Value.cells]) ?_; intro BN5 wn hBB HX hb; clear hBB
  replace hw := grow_trans hw hb; (try replace HT := HT.mono fun _ _ h => h.mono hb); (try replace HN := HN.mono hb); (try replace HY := HY.mono hb); clear hb
  have HN : SlR encI 1 wn (some ⟨BN5, 0, none⟩) 5 [1, 5, 10, 1, 10] := HX.slR (xs := [1, 5, 10, 1, 10]) encI_len rfl (by simp)
  clear HX
  skip
  refine lw_call (f := 10) (by kernel_rfl) rfl rfl (evnewL_c 13 _ 5 5 _) ?_; rintro e1 wn ⟨rfl, hb⟩; refine ⟨_, rfl, ?_⟩
  replace hw := grow_trans hw hb; (try replace HT := HT.mono fun _ _ h => h.mono hb); (try replace HN := HN.mono hb); (try replace HY := HY.mono hb); clear hb
  skip
  refine lw_call (f := 9) (by kernel_rfl) rfl rfl (line_c _ _ _ _ _ _) ?_; rintro e1 wn ⟨rfl, hb⟩; refine ⟨_, rfl, ?_⟩
  replace hw := grow_trans hw hb; (try replace HT := HT.mono fun _ _ h => h.mono hb); (try replace HN := HN.mono hb); (try replace HY := HY.mono hb); clear hb
  skip
  refine lw_bsN (vs := [.agg (encN (⟨2, 9, 13, -10, 90⟩ : Ln)).toArray]) (cs := ([(⟨2, 9, 13, -10, 90⟩ : Ln)] : List Ln).flatMap encN) elemLn rfl rfl rfl (by omega) (by omega) rfl (by simp [Value.cells, encN]) ?_; intro BL5 wn hBB HX hb; clear hBB
  replace hw := grow_trans hw hb; (try replace HT := HT.mono fun _ _ h => h.mono hb); (try replace HN := HN.mono hb); (try replace HY := HY.mono hb); clear hb
  have HY : SlR encN 5 wn (some ⟨BL5, 0, none⟩) 1 [(⟨2, 9, 13, -10, 90⟩ : Ln)] := HX.slR (xs := [(⟨2, 9, 13, -10, 90⟩ : Ln)]) encN_len rfl (by simp)
  clear HX
  skip
  refine lw_call (f := 8) (by kernel_rfl) rfl rfl (lines_c _ _) ?_; rintro e1 wn ⟨rfl, hb⟩; refine ⟨_, rfl, ?_⟩
  replace hw := grow_trans hw hb; (try replace HT := HT.mono fun _ _ h => h.mono hb); (try replace HN := HN.mono hb); (try replace HY := HY.mono hb); clear hb
  replace HT := HT.snoc (r := ⟨⟨3, 13, some ⟨BN5, 0, none⟩, 5, 5, none, 0, 0⟩, some ⟨BL5, 0, none⟩, 1, 1⟩) (t := ((⟨3, 13, [1, 5, 10, 1, 10], []⟩ : Evt), [(⟨2, 9, 13, -10, 90⟩ : Ln)])) ⟨⟨rfl, rfl, rfl, rfl, HN, SlR.nil _, by decide, tx_nil⟩, rfl, HY⟩
  clear HN HY
  repeat' (first | ((refine is_bd ?_; first | (refine lw_pure rfl (tyB_37 rfl rfl rfl) ?_))))
  refine lw_bsN (vs := [.int .i64 9, .int .i64 2, .int .i64 1, .int .i64 1, .int .i64 5, .int .i64 5]) (cs := [.int .i64 9, .int .i64 2, .int .i64 1, .int .i64 1, .int .i64 5, .int .i64 5]) elemI rfl rfl rfl (by omega) (by omega) rfl (by simp [Value.cells]) ?_; intro BN6 wn hBB HX hb; clear hBB
  replace hw := grow_trans hw hb; (try replace HT := HT.mono fun _ _ h => h.mono hb); (try replace HN := HN.mono hb); (try replace HY := HY.mono hb); clear hb
  have HN : SlR encI 1 wn (some ⟨BN6, 0, none⟩) 6 [9, 2, 1, 1, 5, 5] := HX.slR (xs := [9, 2, 1, 1, 5, 5]) encI_len rfl (by simp)
  clear HX
  skip
  refine lw_call (f := 10) (by kernel_rfl) rfl rfl (evnewL_c 11 _ 6 6 _) ?_; rintro e1 wn ⟨rfl, hb⟩; refine ⟨_, rfl, ?_⟩
  replace hw := grow_trans hw hb; (try replace HT := HT.mono fun _ _ h => h.mono hb); (try replace HN := HN.mono hb); (try replace HY := HY.mono hb); clear hb
  replace HT := HT.snoc (r := ⟨⟨3, 11, some ⟨BN6, 0, none⟩, 6, 6, none, 0, 0⟩, none, 0, 0⟩) (t := ((⟨3, 11, [9, 2, 1, 1, 5, 5], []⟩ : Evt), [])) ⟨⟨rfl, rfl, rfl, rfl, HN, SlR.nil _, by decide, tx_nil⟩, rfl, SlR.nil _⟩
  clear HN
  repeat' (first | ((refine is_bd ?_; first | (refine lw_pure rfl (tyB_37 rfl rfl rfl) ?_))))
  refine lw_bsN (vs := [.int .i64 2, .int .i64 1, .int .i64 5]) (cs := [.int .i64 2, .int .i64 1, .int .i64 5]) elemI rfl rfl rfl (by omega) (by omega) rfl (by simp [Value.cells]) ?_; intro BN7 wn hBB HX hb; clear hBB
  replace hw := grow_trans hw hb; (try replace HT := HT.mono fun _ _ h => h.mono hb); (try replace HN := HN.mono hb); (try replace HY := HY.mono hb); clear hb
  have HN : SlR encI 1 wn (some ⟨BN7, 0, none⟩) 3 [2, 1, 5] := HX.slR (xs := [2, 1, 5]) encI_len rfl (by simp)
  clear HX
  skip
  refine lw_call (f := 10) (by kernel_rfl) rfl rfl (evnewL_c 8 _ 3 3 _) ?_; rintro e1 wn ⟨rfl, hb⟩; refine ⟨_, rfl, ?_⟩
  replace hw := grow_trans hw hb; (try replace HT := HT.mono fun _ _ h => h.mono hb); (try replace HN := HN.mono hb); (try replace HY := HY.mono hb); clear hb
  replace HT := HT.snoc (r := ⟨⟨3, 8, some ⟨BN7, 0, none⟩, 3, 3, none, 0, 0⟩, none, 0, 0⟩) (t := ((⟨3, 8, [2, 1, 5], []⟩ : Evt), [])) ⟨⟨rfl, rfl, rfl, rfl, HN, SlR.nil _, by decide, tx_nil⟩, rfl, SlR.nil _⟩
  clear HN
  repeat' (first | ((refine is_bd ?_; first | (refine lw_pure rfl (tyB_37 rfl rfl rfl) ?_))))
  refine lw_bsN (vs := [.int .i64 99]) (cs := [.int .i64 99]) elemI rfl rfl rfl (by omega) (by omega) rfl (by simp [Value.cells]) ?_; intro BN8 wn hBB HX hb; clear hBB
  replace hw := grow_trans hw hb; (try replace HT := HT.mono fun _ _ h => h.mono hb); (try replace HN := HN.mono hb); (try replace HY := HY.mono hb); clear hb
  have HN : SlR encI 1 wn (some ⟨BN8, 0, none⟩) 1 [99] := HX.slR (xs := [99]) encI_len rfl (by simp)
  clear HX
  skip
  refine lw_call (f := 10) (by kernel_rfl) rfl rfl (evnewL_c 19 _ 1 1 _) ?_; rintro e1 wn ⟨rfl, hb⟩; refine ⟨_, rfl, ?_⟩
  replace hw := grow_trans hw hb; (try replace HT := HT.mono fun _ _ h => h.mono hb); (try replace HN := HN.mono hb); (try replace HY := HY.mono hb); clear hb
  replace HT := HT.snoc (r := ⟨⟨3, 19, some ⟨BN8, 0, none⟩, 1, 1, none, 0, 0⟩, none, 0, 0⟩) (t := ((⟨3, 19, [99], []⟩ : Evt), [])) ⟨⟨rfl, rfl, rfl, rfl, HN, SlR.nil _, by decide, tx_nil⟩, rfl, SlR.nil _⟩
  clear HN
  repeat' (first | ((refine is_bd ?_; first | (refine lw_pure rfl (tyB_37 rfl rfl rfl) ?_))))
  refine lw_bsN (vs := [.int .i64 9]) (cs := [.int .i64 9]) elemI rfl rfl rfl (by omega) (by omega) rfl (by simp [Value.cells]) ?_; intro BN9 wn hBB HX hb; clear hBB
  replace hw := grow_trans hw hb; (try replace HT := HT.mono fun _ _ h => h.mono hb); (try replace HN := HN.mono hb); (try replace HY := HY.mono hb); clear hb
  have HN : SlR encI 1 wn (some ⟨BN9, 0, none⟩) 1 [9] := HX.slR (xs := [9]) encI_len rfl (by simp)
  clear HX
  skip
  refine lw_call (f := 10) (by kernel_rfl) rfl rfl (evnewL_c 20 _ 1 1 _) ?_; rintro e1 wn ⟨rfl, hb⟩; refine ⟨_, rfl, ?_⟩
  replace hw := grow_trans hw hb; (try replace HT := HT.mono fun _ _ h => h.mono hb); (try replace HN := HN.mono hb); (try replace HY := HY.mono hb); clear hb
  replace HT := HT.snoc (r := ⟨⟨3, 20, some ⟨BN9, 0, none⟩, 1, 1, none, 0, 0⟩, none, 0, 0⟩) (t := ((⟨3, 20, [9], []⟩ : Evt), [])) ⟨⟨rfl, rfl, rfl, rfl, HN, SlR.nil _, by decide, tx_nil⟩, rfl, SlR.nil _⟩
  clear HN
  repeat' (first | ((refine is_bd ?_; first | (refine lw_pure rfl (tyB_37 rfl rfl rfl) ?_))))
  refine lw_bsT (fun r : NmA => .agg (encNA r).toArray) (fun _ => rfl) encNA_len elemNA HT (fun w' r t hb h => h.mono hb) rfl rfl rfl rfl (by omega) (by omega) (by omega) ?_; intro BT wn hBB HR HQ hb; clear hBB HT; have HT := HQ; clear HQ
  replace hw := grow_trans hw hb; clear hb
  have hX : ∃ rs, ∃ ts, SlR encNA 5 wn (some ⟨BT, 0, none⟩) 10 rs ∧ Fits FitA wn rs ts ∧ rs.length = 10 ∧ ts = tblA := ⟨_, _, HR, HT, rfl, rfl⟩
  clear HR HT
  obtain ⟨rs, ts, HR, HT, hrl, htl⟩ := hX
  replace hK := hK.mono hw; replace HP := HP.mono hw; replace HL := HL.mono hw; replace HS := HS.mono hw; replace hW := grow_trans hW hw; clear hw; have hw := Below.refl wn.heap.size wn
  repeat' (first | (refine lw_pure rfl (pv_move rfl) ?_) | (refine is_cw ?_; first | (refine cw_block ?_)) | (refine is_qw ?_; first | (with_reducible refine qw_then ?_)) | (refine lw_nil ?_) | ((refine is_bi ?_; first | (refine lw_pure rfl (pv_lenl (tS rfl) rfl) ?_))))
  refine cw_loop (σ := Nat) (fun i => [(1, .slice pa 3 pc), (2, .slice ta 1 tc), (3, .slice (some ⟨BS, 0, none⟩) 2 2), (78, .slice (some ⟨BT, 0, none⟩) 10 10), (79, .int .i64 10), (80, .int .i64 (i : Nat))]) (fun i wr => i ≤ 10 ∧ Below wn.heap.size wn wr) (fun i => 10 - i) 0 (by repeat' (first | exact trivial | refine ⟨rfl, ?_⟩)) ⟨by omega, hw⟩ ?_
  clear hw
  rintro i wr ⟨hi, hw⟩
  by_cases hlt : i < 10
  · have hri : rs[i]? = some (rs[i]'(by omega)) := List.getElem?_eq_getElem _
    have hti : ts[i]? = some (ts[i]'(by rw [← HT.1]; omega)) := List.getElem?_eq_getElem _
    generalize rs[i]'(by omega) = r at hri
    generalize ts[i]'_ = t at hti
    have hF := HT.2 i r t hri hti
    have hok := tblA_at (by rw [← htl]; exact List.mem_of_getElem? hti)
    obtain ⟨⟨xv, xk, xan, xmn, xcn, xax, xmx, xcx⟩, wa, wm, wc⟩ := r
    obtain ⟨ev, want⟩ := t
    obtain ⟨⟨r1, r2, r3, r4, r5, r6, r7, r8⟩, hm, hs⟩ := hF
    simp only at r1 r2 r3 r4 r5 r6 r7 r8 hm hs hok
    subst r1 r2 r3 r4 hm
    repeat' (first | (refine is_cw ?_; first | (refine cw_seq ?_) | (refine cw_region ?_) | (refine is_cd ?_; refine cw_true rfl (by first | assumption | exact decide_eq_true (by omega) | exact dec_notT (by omega)) ?_) | (refine cw_skip ?_) | (refine cw_block ?_)) | (refine is_qw ?_; first | (with_reducible refine qw_then ?_)) | (refine lw_nil ?_) | ((refine is_bin ?_; first | (refine lw_pure rfl (pv_lss rfl rfl) ?_))) | ((refine is_load ?_; first | (refine lw_pure rfl (pv_loada (tA rfl) rfl (by first | exact SlR.lda (HR.mono hw) hri) (by rfl)) ?_))) | ((refine is_ia ?_; first | (refine lw_pure rfl (pv_ian (tS rfl) rfl rfl (by omega)) ?_))))
    refine lw_varN rfl (by first | exact tyv_29 | exact tyv_30 | exact tyv_34 | exact tyv_35 | exact tyv_37 | exact tyv_43 | exact tyv_53 | exact tyv_54 | exact tyv_55 | exact tyv_56 | exact tyv_112 | exact tyv_113 | exact tyv_121 | exact tyv_122) rfl (tZ rfl) (fun _ => rfl) rfl rfl ?_; intro N5 wv hN5 HX hb
    replace hw := grow_trans hw hb; clear hb
    have hB := hw
    replace HP := HP.mono hw
    replace HL := HL.mono hw
    replace HS := HS.mono hw
    replace hK := hK.mono hw
    replace r5 := r5.mono hw
    replace r6 := r6.mono hw
    replace hs := hs.mono hw
    clear hw
    have hw := Below.refl wv.heap.size wv
    replace HX : PT wv N5 37 [.int .u8 ev.v, .int .u8 ev.kind, .slice xan ev.nums.length xcn, .slice xax ev.texts.length xcx, .slice wa want.length wc] := HX
    repeat' (first | (refine lw_pure rfl (pv_move rfl) ?_) | (refine lw_pure rfl (pv_ld4 (tA rfl) rfl (HX.mono hw) rfl rfl rfl rfl) ?_) | (refine is_cw ?_; first | (refine cw_seq ?_) | (refine cw_region ?_)) | (refine is_qw ?_; first | (with_reducible refine qw_then ?_)) | (refine lw_nil ?_) | ((refine is_fa ?_; first | (refine lw_pure rfl (pv_fa (tF rfl) rfl) ?_))))
    refine lw_call (f := 11) (by kernel_rfl) rfl rfl (stmt_e hok rfl rfl r7 rfl rfl rfl rfl rfl (HS.mono hw) in64_L (by simp) (HP.mono hw) (HL.mono hw) (r5.mono hw) (r6.mono hw) r8 (hK.mono hw)) ?_; rintro e1 w6 ⟨⟨ma, mc, rfl, HM⟩, hb⟩; refine ⟨_, rfl, ?_⟩
    replace hw := grow_trans hw hb; clear hb
    replace hB := grow_trans hB hw
    replace HS := HS.mono hw
    replace hs := hs.mono hw
    replace HX := HX.mono hw
    clear hw
    have hw := Below.refl w6.heap.size w6
    have hwl := hs.le
    have hws := hs.max
    have hw3 : want.length ≤ 10 := tblA_len (by rw [← htl]; exact List.mem_of_getElem? hti)
    repeat' (first | (refine lw_pure rfl (pv_move rfl) ?_) | (refine lw_pure rfl (pv_assign rfl) ?_) | (refine is_cw ?_; first | (refine cw_seq ?_)) | (refine is_qw ?_; first | (with_reducible refine qw_then ?_)) | (refine lw_nil ?_) | (refine lw_pure rfl (pv_extract rfl rfl) ?_))
    refine cw_drawn (fun w' => Below w6.heap.size w6 w') (by kernel_rfl) (by repeat (first | exact NoPanic.body | with_reducible refine NoPanic.then ?_ | with_reducible refine NoPanic.inBlock ?_)) (fun hNP => ?_)
    have hS := hw.drew
    (refine at0 0 rfl (fun w' hq => pv_move rfl) ?_)
    (refine at0 1 rfl (fun w' hq => pv_neq rfl rfl) ?_)
    (refine at0 2 rfl (fun w' hq => pv_move rfl) ?_)
    (refine at1 3 rfl rfl rfl rfl (fun w' hq => pv_move rfl) ?_)
    (refine at1 5 rfl rfl rfl rfl (fun w' hq => pv_move rfl) ?_)
    (refine at1 7 rfl rfl rfl rfl (fun w' hq => pv_fa (tF rfl) rfl) ?_)
    (refine at1 8 rfl rfl rfl rfl (fun w' hq => pv_load (t1 rfl) rfl (by first | exact PT.ld0 (HX.mono hq) rfl | exact PT.ld (HX.mono hq) rfl)) ?_)
    refine aw_act 4 (by kernel_rfl) rfl rfl rfl ?_
    refine act_bs0N (enc := encN) elemLn ?_; intro wb HO hb; have hz1 := hS.size; have hz2 := hb.size; refine ⟨grow_trans hS hb, fun hS => ?_⟩; clear hb
    refine aw_act 6 (by kernel_rfl) rfl rfl rfl ?_
    refine act_app elemLn encN_len encN_one rfl rfl HO (HS.mono hS) rfl hz2 (by simp) (by simp [maxLen]) ?_; intro v2 wc2 HO2 hg hb; have hz3 := hb.size; refine ⟨hS.trans (hb.mono hz1), fun hS => ?_⟩; clear hb hg HO
    refine aw_act 9 (by kernel_rfl) rfl rfl rfl ?_
    refine act_app elemLn encN_len encN_one rfl rfl HO2 (hs.mono hS) rfl (Nat.le_trans hz2 hz3) (by simp; omega) (by simp [maxLen]; omega) ?_; intro v3 wc3 HO3 hg hb; obtain ⟨a3, c3, rfl, HO3s, -⟩ := Own.slR encN_len HO3; refine ⟨hS.trans (hb.mono hz1), fun hS => ?_⟩; clear hb hg HO2 HO3
    refine aw_act 10 (by kernel_rfl) rfl rfl rfl ?_
    refine act_call (f := 12) (by kernel_rfl) rfl (rsameN_t rfl rfl (HM.mono hS) HO3s) ?_; rintro e9 w9 ⟨rfl, hb⟩; refine ⟨_, rfl, grow_trans hS hb, fun hS => ?_⟩; clear hb
    (refine at1 11 rfl rfl rfl rfl (fun w' hq => pv_not rfl) ?_)
    (refine at0 12 rfl (fun w' hq => pv_pick_f rfl rfl rfl) ?_)
    refine aw_done (by kernel_rfl) ?_
    replace hw := hS; clear hS hNP
    repeat' (first | (refine lw_pure rfl (pv_move rfl) ?_) | (refine is_cw ?_; first | (refine cw_region ?_) | (refine cw_false rfl rfl ?_) | (refine cw_skip ?_)) | (refine is_qw ?_; first | (with_reducible refine qw_then ?_) | (with_reducible refine qw_in ?_)) | (refine lw_nil ?_) | ((refine is_bin ?_; first | (refine lw_pure rfl (pv_inc rfl rfl (by omega)) ?_))))
    exact qw_round (i + 1) (by repeat' (first | exact trivial | refine ⟨rfl, ?_⟩)) ⟨by omega, grow_trans hB hw⟩ (by omega)
  · have hi10 : i = 10 := by omega
    subst hi10
    clear HR HT hrl htl hlt hi
    replace hK := hK.mono hw; replace HP := HP.mono hw; replace HL := HL.mono hw; replace HS := HS.mono hw; replace hW := grow_trans hW hw; clear hw; have hw := Below.refl wr.heap.size wr
    repeat' (first | (refine is_cw ?_; first | (refine cw_seq ?_) | (refine cw_region ?_) | (refine cw_false rfl rfl ?_) | (refine cw_exit ?_)) | (refine is_qw ?_; first | (with_reducible refine qw_then ?_) | (with_reducible refine qw_in_hit ?_) | (with_reducible refine qw_then_exit ?_)) | (refine lw_nil ?_) | ((refine is_bin ?_; first | (refine lw_pure rfl (pv_lss rfl rfl) ?_))))
    have HT : Fits FitB wr [] [] := Fits.nil
    skip
    refine lw_bsN (vs := [.int .i64 1, .int .i64 9, .int .i64 10, .int .i64 3, .int .i64 2]) (cs := [.int .i64 1, .int .i64 9, .int .i64 10, .int .i64 3, .int .i64 2]) elemI rfl rfl rfl (by omega) (by omega) rfl (by simp [Value.cells]) ?_; intro BN0 wn hBB HX hb; clear hBB
    replace hw := grow_trans hw hb; (try replace HT := HT.mono fun _ _ h => h.mono hb); (try replace HN := HN.mono hb); (try replace HY := HY.mono hb); clear hb
    have HN : SlR encI 1 wn (some ⟨BN0, 0, none⟩) 5 [1, 9, 10, 3, 2] := HX.slR (xs := [1, 9, 10, 3, 2]) encI_len rfl (by simp)
    clear HX
    skip
    refine lw_call (f := 10) (by kernel_rfl) rfl rfl (evnewL_c 13 _ 5 5 _) ?_; rintro e1 wn ⟨rfl, hb⟩; refine ⟨_, rfl, ?_⟩
    replace hw := grow_trans hw hb; (try replace HT := HT.mono fun _ _ h => h.mono hb); (try replace HN := HN.mono hb); (try replace HY := HY.mono hb); clear hb
    replace HT := HT.snoc (r := ⟨9, ⟨3, 13, some ⟨BN0, 0, none⟩, 5, 5, none, 0, 0⟩, 5⟩) (t := (9, (⟨3, 13, [1, 9, 10, 3, 2], []⟩ : Evt), 5)) ⟨rfl, ⟨rfl, rfl, rfl, rfl, HN, SlR.nil _, by decide, tx_nil⟩, rfl⟩
    clear HN
    repeat' (first | ((refine is_bd ?_; first | (refine lw_pure rfl (tyB_43 rfl rfl rfl) ?_))))
    refine lw_bsN (vs := [.int .i64 9, .int .i64 1, .int .i64 10, .int .i64 3, .int .i64 2]) (cs := [.int .i64 9, .int .i64 1, .int .i64 10, .int .i64 3, .int .i64 2]) elemI rfl rfl rfl (by omega) (by omega) rfl (by simp [Value.cells]) ?_; intro BN1 wn hBB HX hb; clear hBB
    replace hw := grow_trans hw hb; (try replace HT := HT.mono fun _ _ h => h.mono hb); (try replace HN := HN.mono hb); (try replace HY := HY.mono hb); clear hb
    have HN : SlR encI 1 wn (some ⟨BN1, 0, none⟩) 5 [9, 1, 10, 3, 2] := HX.slR (xs := [9, 1, 10, 3, 2]) encI_len rfl (by simp)
    clear HX
    skip
    refine lw_call (f := 10) (by kernel_rfl) rfl rfl (evnewL_c 13 _ 5 5 _) ?_; rintro e1 wn ⟨rfl, hb⟩; refine ⟨_, rfl, ?_⟩
    replace hw := grow_trans hw hb; (try replace HT := HT.mono fun _ _ h => h.mono hb); (try replace HN := HN.mono hb); (try replace HY := HY.mono hb); clear hb
    replace HT := HT.snoc (r := ⟨9, ⟨3, 13, some ⟨BN1, 0, none⟩, 5, 5, none, 0, 0⟩, 5⟩) (t := (9, (⟨3, 13, [9, 1, 10, 3, 2], []⟩ : Evt), 5)) ⟨rfl, ⟨rfl, rfl, rfl, rfl, HN, SlR.nil _, by decide, tx_nil⟩, rfl⟩
    clear HN
    repeat' (first | ((refine is_bd ?_; first | (refine lw_pure rfl (tyB_43 rfl rfl rfl) ?_))))
    refine lw_bsN (vs := [.int .i64 5, .int .i64 6, .int .i64 10, .int .i64 3, .int .i64 2]) (cs := [.int .i64 5, .int .i64 6, .int .i64 10, .int .i64 3, .int .i64 2]) elemI rfl rfl rfl (by omega) (by omega) rfl (by simp [Value.cells]) ?_; intro BN2 wn hBB HX hb; clear hBB
    replace hw := grow_trans hw hb; (try replace HT := HT.mono fun _ _ h => h.mono hb); (try replace HN := HN.mono hb); (try replace HY := HY.mono hb); clear hb
    have HN : SlR encI 1 wn (some ⟨BN2, 0, none⟩) 5 [5, 6, 10, 3, 2] := HX.slR (xs := [5, 6, 10, 3, 2]) encI_len rfl (by simp)
    clear HX
    skip
    refine lw_call (f := 10) (by kernel_rfl) rfl rfl (evnewL_c 13 _ 5 5 _) ?_; rintro e1 wn ⟨rfl, hb⟩; refine ⟨_, rfl, ?_⟩
    replace hw := grow_trans hw hb; (try replace HT := HT.mono fun _ _ h => h.mono hb); (try replace HN := HN.mono hb); (try replace HY := HY.mono hb); clear hb
    replace HT := HT.snoc (r := ⟨9, ⟨3, 13, some ⟨BN2, 0, none⟩, 5, 5, none, 0, 0⟩, 1⟩) (t := (9, (⟨3, 13, [5, 6, 10, 3, 2], []⟩ : Evt), 1)) ⟨rfl, ⟨rfl, rfl, rfl, rfl, HN, SlR.nil _, by decide, tx_nil⟩, rfl⟩
    clear HN
    repeat' (first | ((refine is_bd ?_; first | (refine lw_pure rfl (tyB_43 rfl rfl rfl) ?_))))
    refine lw_bsN (vs := [.int .i64 8, .int .i64 2, .int .i64 50, .int .i64 4]) (cs := [.int .i64 8, .int .i64 2, .int .i64 50, .int .i64 4]) elemI rfl rfl rfl (by omega) (by omega) rfl (by simp [Value.cells]) ?_; intro BN3 wn hBB HX hb; clear hBB
    replace hw := grow_trans hw hb; (try replace HT := HT.mono fun _ _ h => h.mono hb); (try replace HN := HN.mono hb); (try replace HY := HY.mono hb); clear hb
    have HN : SlR encI 1 wn (some ⟨BN3, 0, none⟩) 4 [8, 2, 50, 4] := HX.slR (xs := [8, 2, 50, 4]) encI_len rfl (by simp)
    clear HX
    skip
    refine lw_call (f := 10) (by kernel_rfl) rfl rfl (evnewL_c 18 _ 4 4 _) ?_; rintro e1 wn ⟨rfl, hb⟩; refine ⟨_, rfl, ?_⟩
    replace hw := grow_trans hw hb; (try replace HT := HT.mono fun _ _ h => h.mono hb); (try replace HN := HN.mono hb); (try replace HY := HY.mono hb); clear hb
    replace HT := HT.snoc (r := ⟨9, ⟨3, 18, some ⟨BN3, 0, none⟩, 4, 4, none, 0, 0⟩, 5⟩) (t := (9, (⟨3, 18, [8, 2, 50, 4], []⟩ : Evt), 5)) ⟨rfl, ⟨rfl, rfl, rfl, rfl, HN, SlR.nil _, by decide, tx_nil⟩, rfl⟩
    clear HN
    repeat' (first | ((refine is_bd ?_; first | (refine lw_pure rfl (tyB_43 rfl rfl rfl) ?_))))
    refine lw_bsN (vs := [.int .i64 2, .int .i64 101]) (cs := [.int .i64 2, .int .i64 101]) elemI rfl rfl rfl (by omega) (by omega) rfl (by simp [Value.cells]) ?_; intro BN4 wn hBB HX hb; clear hBB
    replace hw := grow_trans hw hb; (try replace HT := HT.mono fun _ _ h => h.mono hb); (try replace HN := HN.mono hb); (try replace HY := HY.mono hb); clear hb
    have HN : SlR encI 1 wn (some ⟨BN4, 0, none⟩) 2 [2, 101] := HX.slR (xs := [2, 101]) encI_len rfl (by simp)
    clear HX
    skip
    refine lw_call (f := 10) (by kernel_rfl) rfl rfl (evnewL_c 7 _ 2 2 _) ?_; rintro e1 wn ⟨rfl, hb⟩; refine ⟨_, rfl, ?_⟩
    replace hw := grow_trans hw hb; (try replace HT := HT.mono fun _ _ h => h.mono hb); (try replace HN := HN.mono hb); (try replace HY := HY.mono hb); clear hb
    replace HT := HT.snoc (r := ⟨9, ⟨3, 7, some ⟨BN4, 0, none⟩, 2, 2, none, 0, 0⟩, 41⟩) (t := (9, (⟨3, 7, [2, 101], []⟩ : Evt), 41)) ⟨rfl, ⟨rfl, rfl, rfl, rfl, HN, SlR.nil _, by decide, tx_nil⟩, rfl⟩
    clear HN
    repeat' (first | ((refine is_bd ?_; first | (refine lw_pure rfl (tyB_43 rfl rfl rfl) ?_))))
    refine lw_bsN (vs := [.int .i64 2, .int .i64 1125899906842624]) (cs := [.int .i64 2, .int .i64 1125899906842624]) elemI rfl rfl rfl (by omega) (by omega) rfl (by simp [Value.cells]) ?_; intro BN5 wn hBB HX hb; clear hBB
    replace hw := grow_trans hw hb; (try replace HT := HT.mono fun _ _ h => h.mono hb); (try replace HN := HN.mono hb); (try replace HY := HY.mono hb); clear hb
    have HN : SlR encI 1 wn (some ⟨BN5, 0, none⟩) 2 [2, 1125899906842624] := HX.slR (xs := [2, 1125899906842624]) encI_len rfl (by simp)
    clear HX
    skip
    refine lw_call (f := 10) (by kernel_rfl) rfl rfl (evnewL_c 6 _ 2 2 _) ?_; rintro e1 wn ⟨rfl, hb⟩; refine ⟨_, rfl, ?_⟩
    replace hw := grow_trans hw hb; (try replace HT := HT.mono fun _ _ h => h.mono hb); (try replace HN := HN.mono hb); (try replace HY := HY.mono hb); clear hb
    replace HT := HT.snoc (r := ⟨9, ⟨3, 6, some ⟨BN5, 0, none⟩, 2, 2, none, 0, 0⟩, 41⟩) (t := (9, (⟨3, 6, [2, 1125899906842624], []⟩ : Evt), 41)) ⟨rfl, ⟨rfl, rfl, rfl, rfl, HN, SlR.nil _, by decide, tx_nil⟩, rfl⟩
    clear HN
    repeat' (first | ((refine is_bd ?_; first | (refine lw_pure rfl (tyB_43 rfl rfl rfl) ?_))))
    refine lw_bsN (vs := [.int .i64 5, .int .i64 2, .int .i64 1]) (cs := [.int .i64 5, .int .i64 2, .int .i64 1]) elemI rfl rfl rfl (by omega) (by omega) rfl (by simp [Value.cells]) ?_; intro BN6 wn hBB HX hb; clear hBB
    replace hw := grow_trans hw hb; (try replace HT := HT.mono fun _ _ h => h.mono hb); (try replace HN := HN.mono hb); (try replace HY := HY.mono hb); clear hb
    have HN : SlR encI 1 wn (some ⟨BN6, 0, none⟩) 3 [5, 2, 1] := HX.slR (xs := [5, 2, 1]) encI_len rfl (by simp)
    clear HX
    skip
    refine lw_call (f := 10) (by kernel_rfl) rfl rfl (evnewL_c 21 _ 3 3 _) ?_; rintro e1 wn ⟨rfl, hb⟩; refine ⟨_, rfl, ?_⟩
    replace hw := grow_trans hw hb; (try replace HT := HT.mono fun _ _ h => h.mono hb); (try replace HN := HN.mono hb); (try replace HY := HY.mono hb); clear hb
    replace HT := HT.snoc (r := ⟨9, ⟨3, 21, some ⟨BN6, 0, none⟩, 3, 3, none, 0, 0⟩, 41⟩) (t := (9, (⟨3, 21, [5, 2, 1], []⟩ : Evt), 41)) ⟨rfl, ⟨rfl, rfl, rfl, rfl, HN, SlR.nil _, by decide, tx_nil⟩, rfl⟩
    clear HN
    repeat' (first | ((refine is_bd ?_; first | (refine lw_pure rfl (tyB_43 rfl rfl rfl) ?_))))
    refine lw_bsN (vs := [.int .i64 7, .int .i64 2, .int .i64 101, .int .i64 4]) (cs := [.int .i64 7, .int .i64 2, .int .i64 101, .int .i64 4]) elemI rfl rfl rfl (by omega) (by omega) rfl (by simp [Value.cells]) ?_; intro BN7 wn hBB HX hb; clear hBB
    replace hw := grow_trans hw hb; (try replace HT := HT.mono fun _ _ h => h.mono hb); (try replace HN := HN.mono hb); (try replace HY := HY.mono hb); clear hb
    have HN : SlR encI 1 wn (some ⟨BN7, 0, none⟩) 4 [7, 2, 101, 4] := HX.slR (xs := [7, 2, 101, 4]) encI_len rfl (by simp)
    clear HX
    skip
    refine lw_call (f := 10) (by kernel_rfl) rfl rfl (evnewL_c 18 _ 4 4 _) ?_; rintro e1 wn ⟨rfl, hb⟩; refine ⟨_, rfl, ?_⟩
    replace hw := grow_trans hw hb; (try replace HT := HT.mono fun _ _ h => h.mono hb); (try replace HN := HN.mono hb); (try replace HY := HY.mono hb); clear hb
    replace HT := HT.snoc (r := ⟨9, ⟨3, 18, some ⟨BN7, 0, none⟩, 4, 4, none, 0, 0⟩, 41⟩) (t := (9, (⟨3, 18, [7, 2, 101, 4], []⟩ : Evt), 41)) ⟨rfl, ⟨rfl, rfl, rfl, rfl, HN, SlR.nil _, by decide, tx_nil⟩, rfl⟩
    clear HN
    repeat' (first | ((refine is_bd ?_; first | (refine lw_pure rfl (tyB_43 rfl rfl rfl) ?_))))
    refine lw_bsN (vs := [.int .i64 9]) (cs := [.int .i64 9]) elemI rfl rfl rfl (by omega) (by omega) rfl (by simp [Value.cells]) ?_; intro BN8 wn hBB HX hb; clear hBB
    replace hw := grow_trans hw hb; (try replace HT := HT.mono fun _ _ h => h.mono hb); (try replace HN := HN.mono hb); (try replace HY := HY.mono hb); clear hb
    have HN : SlR encI 1 wn (some ⟨BN8, 0, none⟩) 1 [9] := HX.slR (xs := [9]) encI_len rfl (by simp)
    clear HX
    skip
    refine lw_call (f := 10) (by kernel_rfl) rfl rfl (evnewL_c 20 _ 1 1 _) ?_; rintro e1 wn ⟨rfl, hb⟩; refine ⟨_, rfl, ?_⟩
    replace hw := grow_trans hw hb; (try replace HT := HT.mono fun _ _ h => h.mono hb); (try replace HN := HN.mono hb); (try replace HY := HY.mono hb); clear hb
    replace HT := HT.snoc (r := ⟨2, ⟨3, 20, some ⟨BN8, 0, none⟩, 1, 1, none, 0, 0⟩, 4⟩) (t := (2, (⟨3, 20, [9], []⟩ : Evt), 4)) ⟨rfl, ⟨rfl, rfl, rfl, rfl, HN, SlR.nil _, by decide, tx_nil⟩, rfl⟩
    clear HN
    repeat' (first | ((refine is_bd ?_; first | (refine lw_pure rfl (tyB_43 rfl rfl rfl) ?_))))
    refine lw_bsN (vs := [.int .i64 9]) (cs := [.int .i64 9]) elemI rfl rfl rfl (by omega) (by omega) rfl (by simp [Value.cells]) ?_; intro BN9 wn hBB HX hb; clear hBB
    replace hw := grow_trans hw hb; (try replace HT := HT.mono fun _ _ h => h.mono hb); (try replace HN := HN.mono hb); (try replace HY := HY.mono hb); clear hb
    have HN : SlR encI 1 wn (some ⟨BN9, 0, none⟩) 1 [9] := HX.slR (xs := [9]) encI_len rfl (by simp)
    clear HX
    skip
    refine lw_call (f := 10) (by kernel_rfl) rfl rfl (evnewL_c 20 _ 1 1 _) ?_; rintro e1 wn ⟨rfl, hb⟩; refine ⟨_, rfl, ?_⟩
    replace hw := grow_trans hw hb; (try replace HT := HT.mono fun _ _ h => h.mono hb); (try replace HN := HN.mono hb); (try replace HY := HY.mono hb); clear hb
    replace HT := HT.snoc (r := ⟨-1, ⟨3, 20, some ⟨BN9, 0, none⟩, 1, 1, none, 0, 0⟩, 4⟩) (t := (-1, (⟨3, 20, [9], []⟩ : Evt), 4)) ⟨rfl, ⟨rfl, rfl, rfl, rfl, HN, SlR.nil _, by decide, tx_nil⟩, rfl⟩
    clear HN
    repeat' (first | ((refine is_bd ?_; first | (refine lw_pure rfl (tyB_43 rfl rfl rfl) ?_))))
    refine lw_bsN (vs := [.int .i64 9]) (cs := [.int .i64 9]) elemI rfl rfl rfl (by omega) (by omega) rfl (by simp [Value.cells]) ?_; intro BN10 wn hBB HX hb; clear hBB
    replace hw := grow_trans hw hb; (try replace HT := HT.mono fun _ _ h => h.mono hb); (try replace HN := HN.mono hb); (try replace HY := HY.mono hb); clear hb
    have HN : SlR encI 1 wn (some ⟨BN10, 0, none⟩) 1 [9] := HX.slR (xs := [9]) encI_len rfl (by simp)
    clear HX
    skip
    refine lw_call (f := 10) (by kernel_rfl) rfl rfl (evnewL_c 20 _ 1 1 _) ?_; rintro e1 wn ⟨rfl, hb⟩; refine ⟨_, rfl, ?_⟩
    replace hw := grow_trans hw hb; (try replace HT := HT.mono fun _ _ h => h.mono hb); (try replace HN := HN.mono hb); (try replace HY := HY.mono hb); clear hb
    replace HT := HT.snoc (r := ⟨1048576, ⟨3, 20, some ⟨BN10, 0, none⟩, 1, 1, none, 0, 0⟩, 4⟩) (t := (1048576, (⟨3, 20, [9], []⟩ : Evt), 4)) ⟨rfl, ⟨rfl, rfl, rfl, rfl, HN, SlR.nil _, by decide, tx_nil⟩, rfl⟩
    clear HN
    repeat' (first | ((refine is_bd ?_; first | (refine lw_pure rfl (tyB_43 rfl rfl rfl) ?_))))
    refine lw_bsN (vs := [.int .i64 0]) (cs := [.int .i64 0]) elemI rfl rfl rfl (by omega) (by omega) rfl (by simp [Value.cells]) ?_; intro BN11 wn hBB HX hb; clear hBB
    replace hw := grow_trans hw hb; (try replace HT := HT.mono fun _ _ h => h.mono hb); (try replace HN := HN.mono hb); (try replace HY := HY.mono hb); clear hb
    have HN : SlR encI 1 wn (some ⟨BN11, 0, none⟩) 1 [0] := HX.slR (xs := [0]) encI_len rfl (by simp)
    clear HX
    skip
    refine lw_call (f := 10) (by kernel_rfl) rfl rfl (evnewL_c 20 _ 1 1 _) ?_; rintro e1 wn ⟨rfl, hb⟩; refine ⟨_, rfl, ?_⟩
    replace hw := grow_trans hw hb; (try replace HT := HT.mono fun _ _ h => h.mono hb); (try replace HN := HN.mono hb); (try replace HY := HY.mono hb); clear hb
    replace HT := HT.snoc (r := ⟨9, ⟨3, 20, some ⟨BN11, 0, none⟩, 1, 1, none, 0, 0⟩, 4⟩) (t := (9, (⟨3, 20, [0], []⟩ : Evt), 4)) ⟨rfl, ⟨rfl, rfl, rfl, rfl, HN, SlR.nil _, by decide, tx_nil⟩, rfl⟩
    clear HN
    repeat' (first | ((refine is_bd ?_; first | (refine lw_pure rfl (tyB_43 rfl rfl rfl) ?_))))
    refine lw_bsN (vs := [.int .i64 9]) (cs := [.int .i64 9]) elemI rfl rfl rfl (by omega) (by omega) rfl (by simp [Value.cells]) ?_; intro BN12 wn hBB HX hb; clear hBB
    replace hw := grow_trans hw hb; (try replace HT := HT.mono fun _ _ h => h.mono hb); (try replace HN := HN.mono hb); (try replace HY := HY.mono hb); clear hb
    have HN : SlR encI 1 wn (some ⟨BN12, 0, none⟩) 1 [9] := HX.slR (xs := [9]) encI_len rfl (by simp)
    clear HX
    replace HT := HT.snoc (r := ⟨9, ⟨2, 20, some ⟨BN12, 0, none⟩, 1, 1, none, 0, 0⟩, 4⟩) (t := (9, (⟨2, 20, [9], []⟩ : Evt), 4)) ⟨rfl, ⟨rfl, rfl, rfl, rfl, HN, SlR.nil _, by decide, tx_nil⟩, rfl⟩
    clear HN
    repeat' (first | ((refine is_bd ?_; first | (refine lw_pure rfl (tyB_35 rfl rfl rfl) ?_) | (refine lw_pure rfl (tyB_43 rfl rfl rfl) ?_))))
    refine lw_bsT (fun r : NmB => .agg (encNB r).toArray) (fun _ => rfl) encNB_len elemNB HT (fun w' r t hb h => h.mono hb) rfl rfl rfl rfl (by omega) (by omega) (by omega) ?_; intro BT wn hBB HR HQ hb; clear hBB HT; have HT := HQ; clear HQ
    replace hw := grow_trans hw hb; clear hb
    have hX : ∃ rs, ∃ ts, SlR encNB 6 wn (some ⟨BT, 0, none⟩) 13 rs ∧ Fits FitB wn rs ts ∧ rs.length = 13 ∧ ts = tblB := ⟨_, _, HR, HT, rfl, rfl⟩
    clear HR HT
    obtain ⟨rs, ts, HR, HT, hrl, htl⟩ := hX
    replace hK := hK.mono hw; replace HP := HP.mono hw; replace HL := HL.mono hw; replace HS := HS.mono hw; replace hW := grow_trans hW hw; clear hw; have hw := Below.refl wn.heap.size wn
    repeat' (first | (refine lw_pure rfl (pv_move rfl) ?_) | (refine is_cw ?_; first | (refine cw_block ?_)) | (refine is_qw ?_; first | (with_reducible refine qw_then ?_)) | (refine lw_nil ?_) | ((refine is_bi ?_; first | (refine lw_pure rfl (pv_lenl (tS rfl) rfl) ?_))))
    refine cw_loop (σ := Nat) (fun i => [(1, .slice pa 3 pc), (2, .slice ta 1 tc), (3, .slice (some ⟨BS, 0, none⟩) 2 2), (146, .slice (some ⟨BT, 0, none⟩) 13 13), (147, .int .i64 13), (148, .int .i64 (i : Nat))]) (fun i wr => i ≤ 13 ∧ Below wn.heap.size wn wr) (fun i => 13 - i) 0 (by repeat' (first | exact trivial | refine ⟨rfl, ?_⟩)) ⟨by omega, hw⟩ ?_
    clear hw
    rintro i wr ⟨hi, hw⟩
    by_cases hlt : i < 13
    · have hri : rs[i]? = some (rs[i]'(by omega)) := List.getElem?_eq_getElem _
      have hti : ts[i]? = some (ts[i]'(by rw [← HT.1]; omega)) := List.getElem?_eq_getElem _
      generalize rs[i]'(by omega) = r at hri
      generalize ts[i]'_ = t at hti
      have hF := HT.2 i r t hri hti
      have hok := tblB_at (by rw [← htl]; exact List.mem_of_getElem? hti)
      obtain ⟨sq, ⟨xv, xk, xan, xmn, xcn, xax, xmx, xcx⟩, ek⟩ := r
      obtain ⟨tq, ev, tk⟩ := t
      obtain ⟨hs, ⟨r1, r2, r3, r4, r5, r6, r7, r8⟩, hm⟩ := hF
      simp only at r1 r2 r3 r4 r5 r6 r7 r8 hm hs hok
      subst r1 r2 r3 r4 hm hs
      repeat' (first | (refine is_cw ?_; first | (refine cw_seq ?_) | (refine cw_region ?_) | (refine is_cd ?_; refine cw_true rfl (by first | assumption | exact decide_eq_true (by omega) | exact dec_notT (by omega)) ?_) | (refine cw_skip ?_) | (refine cw_block ?_)) | (refine is_qw ?_; first | (with_reducible refine qw_then ?_)) | (refine lw_nil ?_) | ((refine is_bin ?_; first | (refine lw_pure rfl (pv_lss rfl rfl) ?_))) | ((refine is_load ?_; first | (refine lw_pure rfl (pv_loada (tA rfl) rfl (by first | exact SlR.lda (HR.mono hw) hri) (by rfl)) ?_))) | ((refine is_ia ?_; first | (refine lw_pure rfl (pv_ian (tS rfl) rfl rfl (by omega)) ?_))))
      refine lw_varN rfl (by first | exact tyv_29 | exact tyv_30 | exact tyv_34 | exact tyv_35 | exact tyv_37 | exact tyv_43 | exact tyv_53 | exact tyv_54 | exact tyv_55 | exact tyv_56 | exact tyv_112 | exact tyv_113 | exact tyv_121 | exact tyv_122) rfl (tZ rfl) (fun _ => rfl) rfl rfl ?_; intro N5 wv hN5 HX hb
      replace hw := grow_trans hw hb; clear hb
      have hB := hw
      replace HP := HP.mono hw
      replace HL := HL.mono hw
      replace HS := HS.mono hw
      replace hK := hK.mono hw
      replace r5 := r5.mono hw
      replace r6 := r6.mono hw
      clear hw
      have hw := Below.refl wv.heap.size wv
      replace HX : PT wv N5 43 [.int .i64 sq, .int .u8 ev.v, .int .u8 ev.kind, .slice xan ev.nums.length xcn, .slice xax ev.texts.length xcx, .int .i64 ek] := HX
      repeat' (first | (refine lw_pure rfl (pv_move rfl) ?_) | (refine lw_pure rfl (pv_ld4 (tA rfl) rfl (HX.mono hw) rfl rfl rfl rfl) ?_) | (refine is_cw ?_; first | (refine cw_seq ?_) | (refine cw_region ?_)) | (refine is_qw ?_; first | (with_reducible refine qw_then ?_)) | (refine lw_nil ?_) | ((refine is_load ?_; first | (refine lw_pure rfl (pv_load (t1 rfl) rfl (by first | exact PT.ld0 (HX.mono hw) rfl | exact PT.ld (HX.mono hw) rfl)) ?_))) | ((refine is_fa ?_; first | (refine lw_pure rfl (pv_fa (tF rfl) rfl) ?_))))
      refine lw_call (f := 11) (by kernel_rfl) rfl rfl (stmt_e hok rfl rfl r7 rfl rfl rfl rfl rfl (HS.mono hw) in64_L (by simp) (HP.mono hw) (HL.mono hw) (r5.mono hw) (r6.mono hw) r8 (hK.mono hw)) ?_; rintro e1 w6 ⟨⟨ma, mc, rfl, HM⟩, hb⟩; refine ⟨_, rfl, ?_⟩
      replace hw := grow_trans hw hb; clear hb
      repeat' (first | (refine lw_pure rfl (pv_move rfl) ?_) | (refine lw_pure rfl (pv_assign rfl) ?_) | (refine lw_pure rfl (pv_neqs rfl rfl) ?_) | (refine is_cw ?_; first | (refine cw_seq ?_) | (refine cw_region ?_) | (refine cw_false rfl rfl ?_) | (refine cw_skip ?_)) | (refine is_qw ?_; first | (with_reducible refine qw_then ?_) | (with_reducible refine qw_in ?_)) | (refine lw_nil ?_) | (refine is_guarded ?_; first | (refine lw_on rfl rfl rfl ?_)) | ((refine is_bin ?_; first | (refine lw_pure rfl (pv_gtr rfl rfl) ?_) | (refine lw_pure rfl (pv_inc rfl rfl (by omega)) ?_))) | ((refine is_load ?_; first | (refine lw_pure rfl (pv_load (t1 rfl) rfl (by first | exact PT.ld0 (HX.mono hw) rfl | exact PT.ld (HX.mono hw) rfl)) ?_))) | ((refine is_fa ?_; first | (refine lw_pure rfl (pv_fa (tF rfl) rfl) ?_))) | ((refine is_bi ?_; first | (refine lw_pure rfl (pv_lenl (tS rfl) rfl) ?_))) | (refine is_pk ?_; refine lw_pure rfl (pv_pick_f rfl rfl rfl) ?_) | (refine lw_pure rfl (pv_extract rfl rfl) ?_))
      exact qw_round (i + 1) (by repeat' (first | exact trivial | refine ⟨rfl, ?_⟩)) ⟨by omega, grow_trans hB hw⟩ (by omega)
    · have hi13 : i = 13 := by omega
      subst hi13
      clear HR HT hrl htl hlt hi
      replace hK := hK.mono hw; replace HP := HP.mono hw; replace HL := HL.mono hw; replace HS := HS.mono hw; replace hW := grow_trans hW hw; clear hw; have hw := Below.refl wr.heap.size wr
      have HT : Fits FitC wr [] [] := Fits.nil
      repeat' (first | (refine is_cw ?_; first | (refine cw_seq ?_) | (refine cw_region ?_) | (refine cw_false rfl rfl ?_) | (refine cw_exit ?_)) | (refine is_qw ?_; first | (with_reducible refine qw_then ?_) | (with_reducible refine qw_in_hit ?_) | (with_reducible refine qw_then_exit ?_)) | (refine lw_nil ?_) | ((refine is_bin ?_; first | (refine lw_pure rfl (pv_lss rfl rfl) ?_))))
      refine lw_call (f := 9) (by kernel_rfl) rfl rfl (line_c _ _ _ _ _ _) ?_; rintro e1 wn ⟨rfl, hb⟩; refine ⟨_, rfl, ?_⟩
      replace hw := grow_trans hw hb; (try replace HT := HT.mono fun _ _ h => h.mono hb); (try replace HN := HN.mono hb); (try replace HY := HY.mono hb); clear hb
      skip
      refine lw_bsN (vs := [.agg (encN (⟨0, 1, 6, 5, 5⟩ : Ln)).toArray]) (cs := ([(⟨0, 1, 6, 5, 5⟩ : Ln)] : List Ln).flatMap encN) elemLn rfl rfl rfl (by omega) (by omega) rfl (by simp [Value.cells, encN]) ?_; intro BL0 wn hBB HX hb; clear hBB
      replace hw := grow_trans hw hb; (try replace HT := HT.mono fun _ _ h => h.mono hb); (try replace HN := HN.mono hb); (try replace HY := HY.mono hb); clear hb
      have HY : SlR encN 5 wn (some ⟨BL0, 0, none⟩) 1 [(⟨0, 1, 6, 5, 5⟩ : Ln)] := HX.slR (xs := [(⟨0, 1, 6, 5, 5⟩ : Ln)]) encN_len rfl (by simp)
      clear HX
      skip
      refine lw_call (f := 8) (by kernel_rfl) rfl rfl (lines_c _ _) ?_; rintro e1 wn ⟨rfl, hb⟩; refine ⟨_, rfl, ?_⟩
      replace hw := grow_trans hw hb; (try replace HT := HT.mono fun _ _ h => h.mono hb); (try replace HN := HN.mono hb); (try replace HY := HY.mono hb); clear hb
      replace HT := HT.snoc (r := ⟨some ⟨BL0, 0, none⟩, 1, 1⟩) (t := [(⟨0, 1, 6, 5, 5⟩ : Ln)]) ⟨rfl, HY⟩
      clear HY
      skip
      refine lw_call (f := 9) (by kernel_rfl) rfl rfl (line_c _ _ _ _ _ _) ?_; rintro e1 wn ⟨rfl, hb⟩; refine ⟨_, rfl, ?_⟩
      replace hw := grow_trans hw hb; (try replace HT := HT.mono fun _ _ h => h.mono hb); (try replace HN := HN.mono hb); (try replace HY := HY.mono hb); clear hb
      skip
      refine lw_bsN (vs := [.agg (encN (⟨65, 1, 6, 5, 5⟩ : Ln)).toArray]) (cs := ([(⟨65, 1, 6, 5, 5⟩ : Ln)] : List Ln).flatMap encN) elemLn rfl rfl rfl (by omega) (by omega) rfl (by simp [Value.cells, encN]) ?_; intro BL1 wn hBB HX hb; clear hBB
      replace hw := grow_trans hw hb; (try replace HT := HT.mono fun _ _ h => h.mono hb); (try replace HN := HN.mono hb); (try replace HY := HY.mono hb); clear hb
      have HY : SlR encN 5 wn (some ⟨BL1, 0, none⟩) 1 [(⟨65, 1, 6, 5, 5⟩ : Ln)] := HX.slR (xs := [(⟨65, 1, 6, 5, 5⟩ : Ln)]) encN_len rfl (by simp)
      clear HX
      skip
      refine lw_call (f := 8) (by kernel_rfl) rfl rfl (lines_c _ _) ?_; rintro e1 wn ⟨rfl, hb⟩; refine ⟨_, rfl, ?_⟩
      replace hw := grow_trans hw hb; (try replace HT := HT.mono fun _ _ h => h.mono hb); (try replace HN := HN.mono hb); (try replace HY := HY.mono hb); clear hb
      replace HT := HT.snoc (r := ⟨some ⟨BL1, 0, none⟩, 1, 1⟩) (t := [(⟨65, 1, 6, 5, 5⟩ : Ln)]) ⟨rfl, HY⟩
      clear HY
      skip
      refine lw_call (f := 9) (by kernel_rfl) rfl rfl (line_c _ _ _ _ _ _) ?_; rintro e1 wn ⟨rfl, hb⟩; refine ⟨_, rfl, ?_⟩
      replace hw := grow_trans hw hb; (try replace HT := HT.mono fun _ _ h => h.mono hb); (try replace HN := HN.mono hb); (try replace HY := HY.mono hb); clear hb
      skip
      refine lw_bsN (vs := [.agg (encN (⟨1, -1, 6, 5, 5⟩ : Ln)).toArray]) (cs := ([(⟨1, -1, 6, 5, 5⟩ : Ln)] : List Ln).flatMap encN) elemLn rfl rfl rfl (by omega) (by omega) rfl (by simp [Value.cells, encN]) ?_; intro BL2 wn hBB HX hb; clear hBB
      replace hw := grow_trans hw hb; (try replace HT := HT.mono fun _ _ h => h.mono hb); (try replace HN := HN.mono hb); (try replace HY := HY.mono hb); clear hb
      have HY : SlR encN 5 wn (some ⟨BL2, 0, none⟩) 1 [(⟨1, -1, 6, 5, 5⟩ : Ln)] := HX.slR (xs := [(⟨1, -1, 6, 5, 5⟩ : Ln)]) encN_len rfl (by simp)
      clear HX
      skip
      refine lw_call (f := 8) (by kernel_rfl) rfl rfl (lines_c _ _) ?_; rintro e1 wn ⟨rfl, hb⟩; refine ⟨_, rfl, ?_⟩
      replace hw := grow_trans hw hb; (try replace HT := HT.mono fun _ _ h => h.mono hb); (try replace HN := HN.mono hb); (try replace HY := HY.mono hb); clear hb
      replace HT := HT.snoc (r := ⟨some ⟨BL2, 0, none⟩, 1, 1⟩) (t := [(⟨1, -1, 6, 5, 5⟩ : Ln)]) ⟨rfl, HY⟩
      clear HY
      skip
      refine lw_call (f := 9) (by kernel_rfl) rfl rfl (line_c _ _ _ _ _ _) ?_; rintro e1 wn ⟨rfl, hb⟩; refine ⟨_, rfl, ?_⟩
      replace hw := grow_trans hw hb; (try replace HT := HT.mono fun _ _ h => h.mono hb); (try replace HN := HN.mono hb); (try replace HY := HY.mono hb); clear hb
      skip
      refine lw_bsN (vs := [.agg (encN (⟨1, 1048576, 6, 5, 5⟩ : Ln)).toArray]) (cs := ([(⟨1, 1048576, 6, 5, 5⟩ : Ln)] : List Ln).flatMap encN) elemLn rfl rfl rfl (by omega) (by omega) rfl (by simp [Value.cells, encN]) ?_; intro BL3 wn hBB HX hb; clear hBB
      replace hw := grow_trans hw hb; (try replace HT := HT.mono fun _ _ h => h.mono hb); (try replace HN := HN.mono hb); (try replace HY := HY.mono hb); clear hb
      have HY : SlR encN 5 wn (some ⟨BL3, 0, none⟩) 1 [(⟨1, 1048576, 6, 5, 5⟩ : Ln)] := HX.slR (xs := [(⟨1, 1048576, 6, 5, 5⟩ : Ln)]) encN_len rfl (by simp)
      clear HX
      skip
      refine lw_call (f := 8) (by kernel_rfl) rfl rfl (lines_c _ _) ?_; rintro e1 wn ⟨rfl, hb⟩; refine ⟨_, rfl, ?_⟩
      replace hw := grow_trans hw hb; (try replace HT := HT.mono fun _ _ h => h.mono hb); (try replace HN := HN.mono hb); (try replace HY := HY.mono hb); clear hb
      replace HT := HT.snoc (r := ⟨some ⟨BL3, 0, none⟩, 1, 1⟩) (t := [(⟨1, 1048576, 6, 5, 5⟩ : Ln)]) ⟨rfl, HY⟩
      clear HY
      skip
      refine lw_call (f := 9) (by kernel_rfl) rfl rfl (line_c _ _ _ _ _ _) ?_; rintro e1 wn ⟨rfl, hb⟩; refine ⟨_, rfl, ?_⟩
      replace hw := grow_trans hw hb; (try replace HT := HT.mono fun _ _ h => h.mono hb); (try replace HN := HN.mono hb); (try replace HY := HY.mono hb); clear hb
      skip
      refine lw_bsN (vs := [.agg (encN (⟨1, 1, 8, 5, 5⟩ : Ln)).toArray]) (cs := ([(⟨1, 1, 8, 5, 5⟩ : Ln)] : List Ln).flatMap encN) elemLn rfl rfl rfl (by omega) (by omega) rfl (by simp [Value.cells, encN]) ?_; intro BL4 wn hBB HX hb; clear hBB
      replace hw := grow_trans hw hb; (try replace HT := HT.mono fun _ _ h => h.mono hb); (try replace HN := HN.mono hb); (try replace HY := HY.mono hb); clear hb
      have HY : SlR encN 5 wn (some ⟨BL4, 0, none⟩) 1 [(⟨1, 1, 8, 5, 5⟩ : Ln)] := HX.slR (xs := [(⟨1, 1, 8, 5, 5⟩ : Ln)]) encN_len rfl (by simp)
      clear HX
      skip
      refine lw_call (f := 8) (by kernel_rfl) rfl rfl (lines_c _ _) ?_; rintro e1 wn ⟨rfl, hb⟩; refine ⟨_, rfl, ?_⟩
      replace hw := grow_trans hw hb; (try replace HT := HT.mono fun _ _ h => h.mono hb); (try replace HN := HN.mono hb); (try replace HY := HY.mono hb); clear hb
      replace HT := HT.snoc (r := ⟨some ⟨BL4, 0, none⟩, 1, 1⟩) (t := [(⟨1, 1, 8, 5, 5⟩ : Ln)]) ⟨rfl, HY⟩
      clear HY
      skip
      refine lw_call (f := 9) (by kernel_rfl) rfl rfl (line_c _ _ _ _ _ _) ?_; rintro e1 wn ⟨rfl, hb⟩; refine ⟨_, rfl, ?_⟩
      replace hw := grow_trans hw hb; (try replace HT := HT.mono fun _ _ h => h.mono hb); (try replace HN := HN.mono hb); (try replace HY := HY.mono hb); clear hb
      skip
      refine lw_bsN (vs := [.agg (encN (⟨1, 1, 6, 0, 0⟩ : Ln)).toArray]) (cs := ([(⟨1, 1, 6, 0, 0⟩ : Ln)] : List Ln).flatMap encN) elemLn rfl rfl rfl (by omega) (by omega) rfl (by simp [Value.cells, encN]) ?_; intro BL5 wn hBB HX hb; clear hBB
      replace hw := grow_trans hw hb; (try replace HT := HT.mono fun _ _ h => h.mono hb); (try replace HN := HN.mono hb); (try replace HY := HY.mono hb); clear hb
      have HY : SlR encN 5 wn (some ⟨BL5, 0, none⟩) 1 [(⟨1, 1, 6, 0, 0⟩ : Ln)] := HX.slR (xs := [(⟨1, 1, 6, 0, 0⟩ : Ln)]) encN_len rfl (by simp)
      clear HX
      skip
      refine lw_call (f := 8) (by kernel_rfl) rfl rfl (lines_c _ _) ?_; rintro e1 wn ⟨rfl, hb⟩; refine ⟨_, rfl, ?_⟩
      replace hw := grow_trans hw hb; (try replace HT := HT.mono fun _ _ h => h.mono hb); (try replace HN := HN.mono hb); (try replace HY := HY.mono hb); clear hb
      replace HT := HT.snoc (r := ⟨some ⟨BL5, 0, none⟩, 1, 1⟩) (t := [(⟨1, 1, 6, 0, 0⟩ : Ln)]) ⟨rfl, HY⟩
      clear HY
      skip
      refine lw_call (f := 9) (by kernel_rfl) rfl rfl (line_c _ _ _ _ _ _) ?_; rintro e1 wn ⟨rfl, hb⟩; refine ⟨_, rfl, ?_⟩
      replace hw := grow_trans hw hb; (try replace HT := HT.mono fun _ _ h => h.mono hb); (try replace HN := HN.mono hb); (try replace HY := HY.mono hb); clear hb
      skip
      refine lw_bsN (vs := [.agg (encN (⟨1, 1, 6, 5, 6⟩ : Ln)).toArray]) (cs := ([(⟨1, 1, 6, 5, 6⟩ : Ln)] : List Ln).flatMap encN) elemLn rfl rfl rfl (by omega) (by omega) rfl (by simp [Value.cells, encN]) ?_; intro BL6 wn hBB HX hb; clear hBB
      replace hw := grow_trans hw hb; (try replace HT := HT.mono fun _ _ h => h.mono hb); (try replace HN := HN.mono hb); (try replace HY := HY.mono hb); clear hb
      have HY : SlR encN 5 wn (some ⟨BL6, 0, none⟩) 1 [(⟨1, 1, 6, 5, 6⟩ : Ln)] := HX.slR (xs := [(⟨1, 1, 6, 5, 6⟩ : Ln)]) encN_len rfl (by simp)
      clear HX
      skip
      refine lw_call (f := 8) (by kernel_rfl) rfl rfl (lines_c _ _) ?_; rintro e1 wn ⟨rfl, hb⟩; refine ⟨_, rfl, ?_⟩
      replace hw := grow_trans hw hb; (try replace HT := HT.mono fun _ _ h => h.mono hb); (try replace HN := HN.mono hb); (try replace HY := HY.mono hb); clear hb
      replace HT := HT.snoc (r := ⟨some ⟨BL6, 0, none⟩, 1, 1⟩) (t := [(⟨1, 1, 6, 5, 6⟩ : Ln)]) ⟨rfl, HY⟩
      clear HY
      skip
      refine lw_call (f := 9) (by kernel_rfl) rfl rfl (line_c _ _ _ _ _ _) ?_; rintro e1 wn ⟨rfl, hb⟩; refine ⟨_, rfl, ?_⟩
      replace hw := grow_trans hw hb; (try replace HT := HT.mono fun _ _ h => h.mono hb); (try replace HN := HN.mono hb); (try replace HY := HY.mono hb); clear hb
      skip
      refine lw_bsN (vs := [.agg (encN (⟨1, 1, 7, -5, -5⟩ : Ln)).toArray]) (cs := ([(⟨1, 1, 7, -5, -5⟩ : Ln)] : List Ln).flatMap encN) elemLn rfl rfl rfl (by omega) (by omega) rfl (by simp [Value.cells, encN]) ?_; intro BL7 wn hBB HX hb; clear hBB
      replace hw := grow_trans hw hb; (try replace HT := HT.mono fun _ _ h => h.mono hb); (try replace HN := HN.mono hb); (try replace HY := HY.mono hb); clear hb
      have HY : SlR encN 5 wn (some ⟨BL7, 0, none⟩) 1 [(⟨1, 1, 7, -5, -5⟩ : Ln)] := HX.slR (xs := [(⟨1, 1, 7, -5, -5⟩ : Ln)]) encN_len rfl (by simp)
      clear HX
      skip
      refine lw_call (f := 8) (by kernel_rfl) rfl rfl (lines_c _ _) ?_; rintro e1 wn ⟨rfl, hb⟩; refine ⟨_, rfl, ?_⟩
      replace hw := grow_trans hw hb; (try replace HT := HT.mono fun _ _ h => h.mono hb); (try replace HN := HN.mono hb); (try replace HY := HY.mono hb); clear hb
      replace HT := HT.snoc (r := ⟨some ⟨BL7, 0, none⟩, 1, 1⟩) (t := [(⟨1, 1, 7, -5, -5⟩ : Ln)]) ⟨rfl, HY⟩
      clear HY
      skip
      refine lw_call (f := 9) (by kernel_rfl) rfl rfl (line_c _ _ _ _ _ _) ?_; rintro e1 wn ⟨rfl, hb⟩; refine ⟨_, rfl, ?_⟩
      replace hw := grow_trans hw hb; (try replace HT := HT.mono fun _ _ h => h.mono hb); (try replace HN := HN.mono hb); (try replace HY := HY.mono hb); clear hb
      skip
      refine lw_bsN (vs := [.agg (encN (⟨1, 1, 6, 1125899906842625, 1125899906842625⟩ : Ln)).toArray]) (cs := ([(⟨1, 1, 6, 1125899906842625, 1125899906842625⟩ : Ln)] : List Ln).flatMap encN) elemLn rfl rfl rfl (by omega) (by omega) rfl (by simp [Value.cells, encN]) ?_; intro BL8 wn hBB HX hb; clear hBB
      replace hw := grow_trans hw hb; (try replace HT := HT.mono fun _ _ h => h.mono hb); (try replace HN := HN.mono hb); (try replace HY := HY.mono hb); clear hb
      have HY : SlR encN 5 wn (some ⟨BL8, 0, none⟩) 1 [(⟨1, 1, 6, 1125899906842625, 1125899906842625⟩ : Ln)] := HX.slR (xs := [(⟨1, 1, 6, 1125899906842625, 1125899906842625⟩ : Ln)]) encN_len rfl (by simp)
      clear HX
      skip
      refine lw_call (f := 8) (by kernel_rfl) rfl rfl (lines_c _ _) ?_; rintro e1 wn ⟨rfl, hb⟩; refine ⟨_, rfl, ?_⟩
      replace hw := grow_trans hw hb; (try replace HT := HT.mono fun _ _ h => h.mono hb); (try replace HN := HN.mono hb); (try replace HY := HY.mono hb); clear hb
      replace HT := HT.snoc (r := ⟨some ⟨BL8, 0, none⟩, 1, 1⟩) (t := [(⟨1, 1, 6, 1125899906842625, 1125899906842625⟩ : Ln)]) ⟨rfl, HY⟩
      clear HY
      skip
      refine lw_call (f := 9) (by kernel_rfl) rfl rfl (line_c _ _ _ _ _ _) ?_; rintro e1 wn ⟨rfl, hb⟩; refine ⟨_, rfl, ?_⟩
      replace hw := grow_trans hw hb; (try replace HT := HT.mono fun _ _ h => h.mono hb); (try replace HN := HN.mono hb); (try replace HY := HY.mono hb); clear hb
      skip
      refine lw_call (f := 9) (by kernel_rfl) rfl rfl (line_c _ _ _ _ _ _) ?_; rintro e1 wn ⟨rfl, hb⟩; refine ⟨_, rfl, ?_⟩
      replace hw := grow_trans hw hb; (try replace HT := HT.mono fun _ _ h => h.mono hb); (try replace HN := HN.mono hb); (try replace HY := HY.mono hb); clear hb
      skip
      refine lw_bsN (vs := [.agg (encN (⟨1, 2, 6, 5, 5⟩ : Ln)).toArray, .agg (encN (⟨2, 1, 6, 5, 5⟩ : Ln)).toArray]) (cs := ([(⟨1, 2, 6, 5, 5⟩ : Ln), (⟨2, 1, 6, 5, 5⟩ : Ln)] : List Ln).flatMap encN) elemLn rfl rfl rfl (by omega) (by omega) rfl (by simp [Value.cells, encN]) ?_; intro BL9 wn hBB HX hb; clear hBB
      replace hw := grow_trans hw hb; (try replace HT := HT.mono fun _ _ h => h.mono hb); (try replace HN := HN.mono hb); (try replace HY := HY.mono hb); clear hb
      have HY : SlR encN 5 wn (some ⟨BL9, 0, none⟩) 2 [(⟨1, 2, 6, 5, 5⟩ : Ln), (⟨2, 1, 6, 5, 5⟩ : Ln)] := HX.slR (xs := [(⟨1, 2, 6, 5, 5⟩ : Ln), (⟨2, 1, 6, 5, 5⟩ : Ln)]) encN_len rfl (by simp)
      clear HX
      skip
      refine lw_call (f := 8) (by kernel_rfl) rfl rfl (lines_c _ _) ?_; rintro e1 wn ⟨rfl, hb⟩; refine ⟨_, rfl, ?_⟩
      replace hw := grow_trans hw hb; (try replace HT := HT.mono fun _ _ h => h.mono hb); (try replace HN := HN.mono hb); (try replace HY := HY.mono hb); clear hb
      replace HT := HT.snoc (r := ⟨some ⟨BL9, 0, none⟩, 2, 2⟩) (t := [(⟨1, 2, 6, 5, 5⟩ : Ln), (⟨2, 1, 6, 5, 5⟩ : Ln)]) ⟨rfl, HY⟩
      clear HY
      skip
      refine lw_call (f := 9) (by kernel_rfl) rfl rfl (line_c _ _ _ _ _ _) ?_; rintro e1 wn ⟨rfl, hb⟩; refine ⟨_, rfl, ?_⟩
      replace hw := grow_trans hw hb; (try replace HT := HT.mono fun _ _ h => h.mono hb); (try replace HN := HN.mono hb); (try replace HY := HY.mono hb); clear hb
      skip
      refine lw_call (f := 9) (by kernel_rfl) rfl rfl (line_c _ _ _ _ _ _) ?_; rintro e1 wn ⟨rfl, hb⟩; refine ⟨_, rfl, ?_⟩
      replace hw := grow_trans hw hb; (try replace HT := HT.mono fun _ _ h => h.mono hb); (try replace HN := HN.mono hb); (try replace HY := HY.mono hb); clear hb
      skip
      refine lw_bsN (vs := [.agg (encN (⟨1, 2, 6, 5, 5⟩ : Ln)).toArray, .agg (encN (⟨1, 2, 6, 5, 5⟩ : Ln)).toArray]) (cs := ([(⟨1, 2, 6, 5, 5⟩ : Ln), (⟨1, 2, 6, 5, 5⟩ : Ln)] : List Ln).flatMap encN) elemLn rfl rfl rfl (by omega) (by omega) rfl (by simp [Value.cells, encN]) ?_; intro BL10 wn hBB HX hb; clear hBB
      replace hw := grow_trans hw hb; (try replace HT := HT.mono fun _ _ h => h.mono hb); (try replace HN := HN.mono hb); (try replace HY := HY.mono hb); clear hb
      have HY : SlR encN 5 wn (some ⟨BL10, 0, none⟩) 2 [(⟨1, 2, 6, 5, 5⟩ : Ln), (⟨1, 2, 6, 5, 5⟩ : Ln)] := HX.slR (xs := [(⟨1, 2, 6, 5, 5⟩ : Ln), (⟨1, 2, 6, 5, 5⟩ : Ln)]) encN_len rfl (by simp)
      clear HX
      skip
      refine lw_call (f := 8) (by kernel_rfl) rfl rfl (lines_c _ _) ?_; rintro e1 wn ⟨rfl, hb⟩; refine ⟨_, rfl, ?_⟩
      replace hw := grow_trans hw hb; (try replace HT := HT.mono fun _ _ h => h.mono hb); (try replace HN := HN.mono hb); (try replace HY := HY.mono hb); clear hb
      replace HT := HT.snoc (r := ⟨some ⟨BL10, 0, none⟩, 2, 2⟩) (t := [(⟨1, 2, 6, 5, 5⟩ : Ln), (⟨1, 2, 6, 5, 5⟩ : Ln)]) ⟨rfl, HY⟩
      clear HY
      skip
      refine lw_bsT (fun r : NmC => .slice r.a r.m r.c) (fun _ => rfl) encNC_len elemNC HT (fun w' r t hb h => h.mono hb) rfl rfl rfl rfl (by omega) (by omega) (by omega) ?_; intro BT wn hBB HR HQ hb; clear hBB HT; have HT := HQ; clear HQ
      replace hw := grow_trans hw hb; clear hb
      have hX : ∃ rs, ∃ ts, SlR encNC 1 wn (some ⟨BT, 0, none⟩) 11 rs ∧ Fits FitC wn rs ts ∧ rs.length = 11 ∧ ts = tblC := ⟨_, _, HR, HT, rfl, rfl⟩
      clear HR HT
      obtain ⟨rs, ts, HR, HT, hrl, htl⟩ := hX
      replace hK := hK.mono hw; replace HP := HP.mono hw; replace HL := HL.mono hw; replace HS := HS.mono hw; replace hW := grow_trans hW hw; clear hw; have hw := Below.refl wn.heap.size wn
      repeat' (first | (refine lw_pure rfl (pv_move rfl) ?_) | (refine is_cw ?_; first | (refine cw_block ?_)) | (refine is_qw ?_; first | (with_reducible refine qw_then ?_)) | (refine lw_nil ?_) | ((refine is_bi ?_; first | (refine lw_pure rfl (pv_lenl (tS rfl) rfl) ?_))))
      refine cw_loop (σ := Nat) (fun i => [(208, .slice (some ⟨BT, 0, none⟩) 11 11), (209, .int .i64 11), (210, .int .i64 (i : Nat))]) (fun i wr => i ≤ 11 ∧ Below wn.heap.size wn wr) (fun i => 11 - i) 0 (by repeat' (first | exact trivial | refine ⟨rfl, ?_⟩)) ⟨by omega, hw⟩ ?_
      clear hw
      rintro i wr ⟨hi, hw⟩
      by_cases hlt : i < 11
      · have hri : rs[i]? = some (rs[i]'(by omega)) := List.getElem?_eq_getElem _
        have hti : ts[i]? = some (ts[i]'(by rw [← HT.1]; omega)) := List.getElem?_eq_getElem _
        generalize rs[i]'(by omega) = r at hri
        generalize ts[i]'_ = t at hti
        have hF := HT.2 i r t hri hti
        have hmm : t ∈ tblC := by rw [← htl]; exact List.mem_of_getElem? hti
        obtain ⟨hok, hmay, hln⟩ := tblC_at hmm
        have hin := tblC_inn hmm
        obtain ⟨xa, xm, xc⟩ := r
        obtain ⟨hm, hs⟩ := hF
        simp only at hm hs
        subst hm
        repeat' (first | (refine lw_pure rfl (pv_move rfl) ?_) | (refine lw_pure rfl (pv_assign rfl) ?_) | (refine is_cw ?_; first | (refine cw_seq ?_) | (refine cw_region ?_) | (refine is_cd ?_; refine cw_true rfl (by first | assumption | exact decide_eq_true (by omega) | exact dec_notT (by omega)) ?_) | (refine cw_skip ?_) | (refine cw_block ?_)) | (refine is_qw ?_; first | (with_reducible refine qw_then ?_)) | (refine lw_nil ?_) | ((refine is_bin ?_; first | (refine lw_pure rfl (pv_lss rfl rfl) ?_))) | ((refine is_load ?_; first | (refine lw_pure rfl (pv_load (t1 rfl) rfl (by first | exact SlR.ld (HR.mono hw) hri rfl | exact SlR.ld1 (HR.mono hw) hri rfl)) ?_))) | ((refine is_ia ?_; first | (refine lw_pure rfl (pv_ian (tS rfl) rfl rfl (by omega)) ?_))))
        refine lw_bsN (vs := [.int .i64 9]) (cs := [.int .i64 9]) elemI rfl rfl rfl (by omega) (by omega) rfl (by simp [Value.cells]) ?_; intro BM wn hBB HX hb; clear hBB
        replace hw := grow_trans hw hb; clear hb
        have hB := hw
        replace hs := hs.mono hw
        replace hK := hK.mono hw
        have HN : SlR encI 1 wn (some ⟨BM, 0, none⟩) 1 [9] := HX.slR (xs := [9]) encI_len rfl (by simp)
        clear HX hw
        have hw := Below.refl wn.heap.size wn
        repeat' (first | (refine lw_call (f := 10) (by kernel_rfl) rfl rfl (evnewL_c 20 _ 1 1 _) ?_; rintro e w1 ⟨rfl, hb⟩; refine ⟨_, rfl, ?_⟩; replace hw := grow_trans hw hb; clear hb))
        refine lw_call (f := 11) (by kernel_rfl) rfl rfl (stmt_e (e := evM) hok rfl rfl (by decide) rfl rfl rfl rfl rfl (hs.mono hw) hin (by omega) (SlR.nil _) (SlR.nil _) (HN.mono hw) (SlR.nil _) tx_nil (hK.mono hw)) ?_; rintro e1 w6 ⟨⟨ma, mc, rfl, HM⟩, hb⟩; refine ⟨_, rfl, ?_⟩
        replace hw := grow_trans hw hb; clear hb
        repeat' (first | (refine lw_pure rfl (pv_move rfl) ?_) | (refine lw_pure rfl (pv_assign rfl) ?_) | (refine lw_pure rfl (pv_neqs rfl rfl) ?_) | (refine lw_call (f := 13) (by kernel_rfl) rfl rfl (R.mayLn_e hmay rfl (hs.mono hw) hin) ?_; rintro e w1 ⟨rfl, hb⟩; refine ⟨_, rfl, ?_⟩; replace hw := grow_trans hw hb; clear hb) | (refine is_cw ?_; first | (refine cw_seq ?_) | (refine cw_region ?_) | (refine cw_false rfl rfl ?_) | (refine cw_skip ?_)) | (refine is_qw ?_; first | (with_reducible refine qw_then ?_) | (with_reducible refine qw_in ?_)) | (refine lw_nil ?_) | (refine is_guarded ?_; first | (refine lw_on rfl rfl rfl ?_)) | ((refine is_bin ?_; first | (refine lw_pure rfl (pv_inc rfl rfl (by omega)) ?_))) | (refine is_pk ?_; refine lw_pure rfl (pv_pick_f rfl rfl rfl) ?_) | (refine lw_pure rfl (pv_extract rfl rfl) ?_))
        exact qw_round (i + 1) (by repeat' (first | exact trivial | refine ⟨rfl, ?_⟩)) ⟨by omega, grow_trans hB hw⟩ (by omega)
      · have hi11 : i = 11 := by omega
        subst hi11
        clear HR HT hrl htl hlt hi HP HL HS
        replace hW := grow_trans hW hw; clear hw; have hw := Below.refl wr.heap.size wr
        repeat' (first | (refine lw_call (f := 9) (by kernel_rfl) rfl rfl (line_c _ _ _ _ _ _) ?_; rintro e w1 ⟨rfl, hb⟩; refine ⟨_, rfl, ?_⟩; replace hw := grow_trans hw hb; clear hb) | (refine is_cw ?_; first | (refine cw_seq ?_) | (refine cw_region ?_) | (refine cw_false rfl rfl ?_) | (refine cw_exit ?_)) | (refine is_qw ?_; first | (with_reducible refine qw_then ?_) | (with_reducible refine qw_in_hit ?_) | (with_reducible refine qw_then_exit ?_)) | (refine lw_nil ?_) | ((refine is_bin ?_; first | (refine lw_pure rfl (pv_lss rfl rfl) ?_))))
        refine lw_bsN (vs := [.agg (encN ⟨1, 0, 6, 1, 1⟩).toArray, .agg (encN ⟨2, 0, 6, 1, 1⟩).toArray, .agg (encN ⟨1, 0, 6, 1, 2⟩).toArray, .agg (encN ⟨1, 0, 6, 1, 3⟩).toArray]) (cs := lnG.flatMap encN) elemLn rfl rfl rfl (by omega) (by omega) rfl (by simp [Value.cells, encN]) ?_; intro BG wn hBB HX hb; clear hBB
        replace hw := grow_trans hw hb; clear hb
        have HG : SlR encN 5 wn (some ⟨BG, 0, none⟩) 4 lnG := HX.slR (xs := lnG) encN_len rfl (by simp)
        clear HX
        replace hW := grow_trans hW hw; clear hw; have hw := Below.refl wn.heap.size wn
        repeat' (first | (refine lw_pure rfl (pv_move rfl) ?_) | (refine lw_pure rfl (pv_assign rfl) ?_) | (refine lw_call (f := 8) (by kernel_rfl) rfl rfl (lines_c _ _) ?_; rintro e w1 ⟨rfl, hb⟩; refine ⟨_, rfl, ?_⟩; replace hw := grow_trans hw hb; clear hb) | (refine lw_call (f := 13) (by kernel_rfl) rfl rfl (R.mayLn_e mayLn_nil rfl (SlR.nil _) in64_0) ?_; rintro e w1 ⟨rfl, hb⟩; refine ⟨_, rfl, ?_⟩; replace hw := grow_trans hw hb; clear hb) | (refine is_cw ?_; first | (refine cw_seq ?_) | (refine cw_region ?_)) | (refine is_qw ?_; first | (with_reducible refine qw_then ?_)) | (refine lw_nil ?_) | (refine is_guarded ?_; first | (refine lw_on rfl rfl rfl ?_)))
        refine lw_call (f := 13) (by kernel_rfl) rfl rfl (R.mayLn_e lnG_ok rfl (HG.mono hw) in64_G) ?_; rintro e w1 ⟨rfl, hb⟩; refine ⟨_, rfl, ?_⟩; replace hw := grow_trans hw hb; clear hb
        repeat' (first | (refine lw_pure rfl (pv_move rfl) ?_) | (refine is_guarded ?_; first | (refine lw_on rfl rfl rfl ?_)) | (refine is_pk ?_; refine lw_pure rfl (pv_pick_t rfl rfl rfl) ?_))
        refine lw_call (f := 14) (by kernel_rfl) rfl rfl (pageL_e (a := 1) (from_ := 0) (n := 9) (ys := [(⟨1, 0, 6, 1, 1⟩ : Ln), (⟨1, 0, 6, 1, 2⟩ : Ln), (⟨1, 0, 6, 1, 3⟩ : Ln)]) (by kernel_rfl) rfl (HG.mono hw) (by simp)) ?_; rintro e1 wn ⟨⟨qa, qc, rfl, HQ⟩, hb⟩; refine ⟨_, rfl, ?_⟩
        replace hw := grow_trans hw hb; clear hb
        repeat' (first | (refine lw_pure rfl (pv_move rfl) ?_) | (refine is_guarded ?_; first | (refine lw_on rfl rfl rfl ?_)) | ((refine is_bin ?_; first | (refine lw_pure rfl (pv_eql rfl rfl) ?_))) | ((refine is_bi ?_; first | (refine lw_pure rfl (pv_lenl (tS rfl) rfl) ?_))) | (refine is_pk ?_; refine lw_pure rfl (pv_pick_t rfl rfl rfl) ?_))
        refine lw_call (f := 14) (by kernel_rfl) rfl rfl (pageL_e (a := 1) (from_ := 1) (n := 1) (ys := [(⟨1, 0, 6, 1, 2⟩ : Ln)]) (by kernel_rfl) rfl (HG.mono hw) (by simp)) ?_; rintro e1 wn ⟨⟨qa, qc, rfl, HQ⟩, hb⟩; refine ⟨_, rfl, ?_⟩
        replace hw := grow_trans hw hb; clear hb
        repeat' (first | (refine lw_pure rfl (pv_move rfl) ?_) | (refine is_guarded ?_; first | (refine lw_on rfl rfl rfl ?_)) | ((refine is_bin ?_; first | (refine lw_pure rfl (pv_eql rfl rfl) ?_))) | ((refine is_bi ?_; first | (refine lw_pure rfl (pv_lenl (tS rfl) rfl) ?_))) | (refine is_pk ?_; refine lw_pure rfl (pv_pick_t rfl rfl rfl) ?_))
        refine lw_call (f := 14) (by kernel_rfl) rfl rfl (pageL_e (a := 1) (from_ := 1) (n := 1) (ys := [(⟨1, 0, 6, 1, 2⟩ : Ln)]) (by kernel_rfl) rfl (HG.mono hw) (by simp)) ?_; rintro e1 wn ⟨⟨qa, qc, rfl, HQ⟩, hb⟩; refine ⟨_, rfl, ?_⟩
        replace hw := grow_trans hw hb; clear hb
        replace HG := HG.mono hw; replace hW := grow_trans hW hw; clear hw; have hw := Below.refl wn.heap.size wn
        obtain ⟨qb, qo, rfl, -, -⟩ := HQ.at (by simp)
        have hx0 : [(⟨1, 0, 6, 1, 2⟩ : Ln)][0]? = some (⟨1, 0, 6, 1, 2⟩ : Ln) := rfl
        have hl1 : ([(⟨1, 0, 6, 1, 2⟩ : Ln)] : List Ln).length = 1 := rfl
        rw [hl1]
        repeat' (first | (refine lw_pure rfl (pv_move rfl) ?_) | (refine is_guarded ?_; first | (refine lw_on rfl rfl rfl ?_)) | ((refine is_bin ?_; first | (refine lw_pure rfl (pv_eql rfl rfl) ?_))) | ((refine is_load ?_; first | (refine lw_pure rfl (pv_load (t1 rfl) rfl (by first | exact SlR.ld (HQ.mono hw) hx0 rfl | exact SlR.ld1 (HQ.mono hw) hx0 rfl)) ?_))) | ((refine is_fa ?_; first | (refine lw_pure rfl (pv_fa (tF rfl) rfl) ?_))) | ((refine is_ia ?_; first | (refine lw_pure rfl (pv_ia (tS rfl) rfl rfl (by omega)) ?_))) | (refine is_pk ?_; refine lw_pure rfl (pv_pick_t rfl rfl rfl) ?_))
        refine lw_call (f := 14) (by kernel_rfl) rfl rfl (pageL_e (a := 1) (from_ := 3) (n := 9) (ys := []) (by kernel_rfl) rfl (HG.mono hw) (by simp)) ?_; rintro e1 wn ⟨⟨qa, qc, rfl, HQ⟩, hb⟩; refine ⟨_, rfl, ?_⟩
        replace hw := grow_trans hw hb; clear hb
        repeat' (first | (refine lw_pure rfl (pv_move rfl) ?_) | (refine is_guarded ?_; first | (refine lw_on rfl rfl rfl ?_)) | ((refine is_bin ?_; first | (refine lw_pure rfl (pv_eql rfl rfl) ?_))) | ((refine is_bi ?_; first | (refine lw_pure rfl (pv_lenl (tS rfl) rfl) ?_))) | (refine is_pk ?_; refine lw_pure rfl (pv_pick_t rfl rfl rfl) ?_))
        refine lw_call (f := 14) (by kernel_rfl) rfl rfl (pageL_e (a := 1) (from_ := (-1)) (n := 9) (ys := []) (by kernel_rfl) rfl (HG.mono hw) (by simp)) ?_; rintro e1 wn ⟨⟨qa, qc, rfl, HQ⟩, hb⟩; refine ⟨_, rfl, ?_⟩
        replace hw := grow_trans hw hb; clear hb
        repeat' (first | (refine lw_pure rfl (pv_move rfl) ?_) | (refine is_guarded ?_; first | (refine lw_on rfl rfl rfl ?_)) | ((refine is_bin ?_; first | (refine lw_pure rfl (pv_eql rfl rfl) ?_))) | ((refine is_bi ?_; first | (refine lw_pure rfl (pv_lenl (tS rfl) rfl) ?_))) | (refine is_pk ?_; refine lw_pure rfl (pv_pick_t rfl rfl rfl) ?_))
        refine lw_call (f := 14) (by kernel_rfl) rfl rfl (pageL_e (a := 1) (from_ := 0) (n := (-1)) (ys := []) (by kernel_rfl) rfl (HG.mono hw) (by simp)) ?_; rintro e1 wn ⟨⟨qa, qc, rfl, HQ⟩, hb⟩; refine ⟨_, rfl, ?_⟩
        replace hw := grow_trans hw hb; clear hb
        repeat' (first | (refine lw_pure rfl (pv_move rfl) ?_) | (refine is_guarded ?_; first | (refine lw_on rfl rfl rfl ?_)) | ((refine is_bin ?_; first | (refine lw_pure rfl (pv_eql rfl rfl) ?_))) | ((refine is_bi ?_; first | (refine lw_pure rfl (pv_lenl (tS rfl) rfl) ?_))) | (refine is_pk ?_; refine lw_pure rfl (pv_pick_t rfl rfl rfl) ?_))
        refine lw_call (f := 14) (by kernel_rfl) rfl rfl (pageL_e (a := 1) (from_ := 0) (n := 0) (ys := []) (by kernel_rfl) rfl (HG.mono hw) (by simp)) ?_; rintro e1 wn ⟨⟨qa, qc, rfl, HQ⟩, hb⟩; refine ⟨_, rfl, ?_⟩
        replace hw := grow_trans hw hb; clear hb
        repeat' (first | (refine lw_pure rfl (pv_move rfl) ?_) | (refine is_guarded ?_; first | (refine lw_on rfl rfl rfl ?_)) | ((refine is_bin ?_; first | (refine lw_pure rfl (pv_eql rfl rfl) ?_))) | ((refine is_bi ?_; first | (refine lw_pure rfl (pv_lenl (tS rfl) rfl) ?_))) | (refine is_pk ?_; refine lw_pure rfl (pv_pick_t rfl rfl rfl) ?_))
        refine lw_call (f := 14) (by kernel_rfl) rfl rfl (pageL_e (a := 7) (from_ := 0) (n := 5) (ys := []) (by kernel_rfl) rfl (HG.mono hw) (by simp)) ?_; rintro e1 wn ⟨⟨qa, qc, rfl, HQ⟩, hb⟩; refine ⟨_, rfl, ?_⟩
        replace hw := grow_trans hw hb; clear hb
        repeat' (first | (refine lw_pure rfl (pv_move rfl) ?_) | (refine is_guarded ?_; first | (refine lw_on rfl rfl rfl ?_)) | ((refine is_bin ?_; first | (refine lw_pure rfl (pv_eql rfl rfl) ?_))) | ((refine is_bi ?_; first | (refine lw_pure rfl (pv_lenl (tS rfl) rfl) ?_))) | (refine is_pk ?_; refine lw_pure rfl (pv_pick_t rfl rfl rfl) ?_))
        refine lw_call (f := 14) (by kernel_rfl) rfl rfl (pageL_e (a := 1) (from_ := 4611686018427387904) (n := 4611686018427387904) (ys := []) (by kernel_rfl) rfl (HG.mono hw) (by simp)) ?_; rintro e1 wn ⟨⟨qa, qc, rfl, HQ⟩, hb⟩; refine ⟨_, rfl, ?_⟩
        replace hw := grow_trans hw hb; clear hb
        repeat' (first | (refine lw_pure rfl (pv_move rfl) ?_) | (refine is_guarded ?_; first | (refine lw_on rfl rfl rfl ?_)) | ((refine is_bin ?_; first | (refine lw_pure rfl (pv_eql rfl rfl) ?_))) | ((refine is_bi ?_; first | (refine lw_pure rfl (pv_lenl (tS rfl) rfl) ?_))) | (refine is_pk ?_; refine lw_pure rfl (pv_pick_t rfl rfl rfl) ?_))
        refine lw_call (f := 14) (by kernel_rfl) rfl rfl (pageL_e (a := 1) (from_ := 2) (n := 4611686018427387904) (ys := [(⟨1, 0, 6, 1, 3⟩ : Ln)]) (by kernel_rfl) rfl (HG.mono hw) (by simp)) ?_; rintro e1 wn ⟨⟨qa, qc, rfl, HQ⟩, hb⟩; refine ⟨_, rfl, ?_⟩
        replace hw := grow_trans hw hb; clear hb
        repeat' (first | (refine lw_pure rfl (pv_assign rfl) ?_) | (refine is_cw ?_; first | (refine cw_ret ?_)) | (refine is_qw ?_; first | (with_reducible refine qw_then ?_)) | (refine lw_nil ?_) | (refine is_guarded ?_; first | (refine lw_on rfl rfl rfl ?_)) | ((refine is_bin ?_; first | (refine lw_pure rfl (pv_eql rfl rfl) ?_))) | ((refine is_bi ?_; first | (refine lw_pure rfl (pv_lenl (tS rfl) rfl) ?_))) | (refine is_pk ?_; refine lw_pure rfl (pv_pick_t rfl rfl rfl) ?_))
        exact qw_ret1 rfl rfl ⟨rfl, grow_trans hW hw⟩
end Go.Proofs.YtnffmbfdfhokeaaDoor
namespace Go.Proofs.YtnffmbfdfhokeaaDoor
open Go.ChangeShapes Go.WideShapes Go.ChangeAt Go.RowKit

set_option maxRecDepth 100000 in
theorem stmtNames_lifted (os : Os) (started : os.Started) (H : Type) (enc : TypeId × Value → H) :
    ReturnsInHanded {} Tryd.checked os 3 .any (fun w args => (Rows.stmtNamesSpec.pre enc Tryd.prog Tryd.f3 [] false w args ∧ laidMetH Tryd.prog Rows.stmtNamesRow.laid w) ∧ sizedMet enc Tryd.prog Tryd.f3 (OpenSpec.ofChange Rows.stmtNamesSpec) false w args)
      (Rows.stmtNamesSpec.post enc Tryd.prog Tryd.f3 false true false false) := by
  refine returnsInHanded_of_change_and (C := Tryd.checked) (X := fun w _ => laidMetH Tryd.prog Rows.stmtNamesRow.laid w) (fun _ _ _ hh h => h.of_heap hh) seatOwn started (by kernel_rfl) Tryd.func3
    (ChangeSpec.witness_shaped (enc := enc) (C := Tryd.checked) (os := os) (X := fun w _ => laidMetH Tryd.prog Rows.stmtNamesRow.laid w) false (World.doorLaid Tryd.prog 200 os) #[] 8 rfl (World.shaped_of_RefB (by kernel_rfl) (by kernel_rfl)) (by kernel_rfl) (by kernel_rfl) (by kernel_rfl) (door_met os _)) ?_
  intro W base args ds gs before hval0 hW _ hZ hL _
  have hval : ∀ (j : Nat) t v, Tryd.f3.params[j]? = some t → args[j]? = some v → Value.okWide Tryd.prog W .any base t v := hval0
  have hW' := hW
  obtain ⟨p, q, hA0, hV, hpq, hfz, hnd⟩ := hW
  have hA : DataW.TrodAll enc Tryd.prog W 0 (fun _ => true) true Tryd.f3.params.toList args.toList ds p := hA0
  rw [Tryd.params3] at hA hval
  obtain ⟨args⟩ := args
  have hA1 : DataW.TrodAll enc Tryd.prog W 0 (fun _ => true) true _ args ds p := hA
  clear hA
  obtain ⟨hvn, hdn, hpn⟩ := trodAll_nil hA1
  subst hvn hdn hpn
  obtain ⟨rfl, rfl⟩ := trodVars_none hV
  have hpr := knW_of hL
  subst hpq
  refine (names_c hpr).mono fun e W' ⟨he, hw⟩ => ?_
  subst he
  have hB := below_trodAll hw (by decide +kernel) hA1
  rw [← Tryd.params3] at hB
  exact ⟨_, rfl, _, _, _, [], _, [], hW', trodAll_mk1 (shut_bool Tryd.underlying4 true), hB, rfl, hw.frame _, fun h => by cases h⟩
theorem stmtNames_holds : Rows.StmtNamesSaid :=
  OpenClaim.holds_of_wide 3 Tryd.f3 rfl rfl rfl rfl rfl rfl rfl ⟨rfl, rfl, rfl, rfl, rfl⟩ rfl rfl rfl rfl rfl (by kernel_rfl) Tryd.func3 (by kernel_rfl)
    (of_decide_eq_true (by kernel_rfl)) (by unfold Func.isWrapper; first | (rw [if_pos (by decide +kernel)]; kernel_rfl) | (rw [if_neg (by decide +kernel)]; exact ⟨rfl, rfl⟩))
    (fun os started H enc _ => stmtNames_lifted os started H enc)
theorem stmtNames_card : Rows.StmtNamesCardSaid :=
  Claim7.holds_tied_plain_at .later [] [.data] true (true, "47cb1cf1c81929e4d4f1daccc1717fc074d724e35a820f8d4ae6b23934e80cfc") false
    stmtNames_holds (fun _ h => by cases h) (by kernel_rfl) (fun _ h => by cases h) stmtNames_row_tie rfl ⟨rfl, rfl⟩ (by kernel_rfl) rfl
    (fun f fn hf hfn => by
      obtain rfl : f = 3 := Option.some.inj ((show Tryd.prog.funcNamed Rows.stmtNamesRow.func = some 3 by kernel_rfl).symm.trans hf) |>.symm
      obtain rfl : fn = Tryd.f3 := (Option.some.inj (Tryd.func3.symm.trans hfn)).symm
      exact ⟨by kernel_rfl, fun j t ht => by
        have hall : (Tryd.f3.params.toList.all fun u => !Tryd.prog.wantsStandIn u) = true := by kernel_rfl
        have hm : t ∈ Tryd.f3.params.toList := Array.mem_toList_iff.2 (Array.mem_of_getElem? ht)
        exact (show Tryd.prog.wantsStandIn t = false by simpa using List.all_eq_true.1 hall t hm)⟩)
    (by kernel_rfl)
#print axioms stmtNames_card
end Go.Proofs.YtnffmbfdfhokeaaDoor
