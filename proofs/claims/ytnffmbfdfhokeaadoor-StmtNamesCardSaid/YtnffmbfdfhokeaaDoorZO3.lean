/-
  Part 3 of the texts of: StmtNames: its row and its card: whatever the input: true; the input reads as it did. Conditions: what the row prints (the table of functions reads as the program's text lays it).
-/
import Derived.Test.YtnffmbfdfhokeaaDoorZO2
namespace Go.Proofs.YtnffmbfdfhokeaaDoor
open Go.RowKit Go.PlainAid

theorem lfld6 : fieldsR 3 6 = some ({ data := #[97, 109] }, false) := by kernel_rfl
theorem lfld7 : fieldsR 3 7 = some ({ data := #[97, 109] }, false) := by kernel_rfl
theorem lfld21 : fieldsR 3 21 = some ({ data := #[97, 97, 109] }, false) := by kernel_rfl
theorem lfld13 : fieldsR 3 13 = some ({ data := #[111, 111, 112, 113, 122] }, false) := by kernel_rfl
theorem lfld18 : fieldsR 3 18 = some ({ data := #[99, 97, 109, 122] }, false) := by kernel_rfl
theorem lnums6 {e : Evt} (h : mayE e = true) (hv : e.v = 3) (hk : e.kind = 6 ∨ e.kind = 7) : ∃ n0 n1, e.nums = [n0, n1] ∧ (1 ≤ n0 ∧ n0 ≤ 64) ∧ (1 ≤ n1 ∧ n1 ≤ 1125899906842624) := by
  have h1 : allR 3 [97, 109] e.nums = true := by
    rcases hk with hk | hk
    · exact (may_nums h hv hk lfld6).1
    · exact (may_nums h hv hk lfld7).1
  obtain ⟨n0, r0, e0, f0, h1⟩ := all_cons h1
  obtain ⟨n1, r1, rfl, f1, h1⟩ := all_cons h1
  have h2 := all_nil h1; subst h2
  exact ⟨n0, n1, e0, fits_lo f0 bnd_a, fits_lo f1 bnd_m⟩
theorem lnums21 {e : Evt} (h : mayE e = true) (hv : e.v = 3) (hk : e.kind = 21) : ∃ n0 n1 n2, e.nums = [n0, n1, n2] ∧ (1 ≤ n0 ∧ n0 ≤ 64) ∧ (1 ≤ n1 ∧ n1 ≤ 64) ∧ (1 ≤ n2 ∧ n2 ≤ 1125899906842624) := by
  have h1 : allR 3 [97, 97, 109] e.nums = true := (may_nums h hv hk lfld21).1
  obtain ⟨n0, r0, e0, f0, h1⟩ := all_cons h1
  obtain ⟨n1, r1, rfl, f1, h1⟩ := all_cons h1
  obtain ⟨n2, r2, rfl, f2, h1⟩ := all_cons h1
  have h2 := all_nil h1; subst h2
  exact ⟨n0, n1, n2, e0, fits_lo f0 bnd_a, fits_lo f1 bnd_a, fits_lo f2 bnd_m⟩
theorem lnums13 {e : Evt} (h : mayE e = true) (hv : e.v = 3) (hk : e.kind = 13) : ∃ n0 n1 n2 n3 n4, e.nums = [n0, n1, n2, n3, n4] ∧ (1 ≤ n2 ∧ n2 ≤ 1073741824) ∧ (1 ≤ n3 ∧ n3 ≤ 1048576) ∧ (0 ≤ n4 ∧ n4 ≤ 1125899906842624) := by
  have h1 : allR 3 [111, 111, 112, 113, 122] e.nums = true := (may_nums h hv hk lfld13).1
  obtain ⟨n0, r0, e0, f0, h1⟩ := all_cons h1
  obtain ⟨n1, r1, rfl, f1, h1⟩ := all_cons h1
  obtain ⟨n2, r2, rfl, f2, h1⟩ := all_cons h1
  obtain ⟨n3, r3, rfl, f3, h1⟩ := all_cons h1
  obtain ⟨n4, r4, rfl, f4, h1⟩ := all_cons h1
  have h2 := all_nil h1; subst h2
  exact ⟨n0, n1, n2, n3, n4, e0, fits_lo f2 bnd_p, fits_lo f3 bnd_q, fits_lo f4 bnd_z⟩
theorem lnums18 {e : Evt} (h : mayE e = true) (hv : e.v = 3) (hk : e.kind = 18) : ∃ n0 n1 n2 n3, e.nums = [n0, n1, n2, n3] ∧ (1 ≤ n1 ∧ n1 ≤ 64) ∧ (1 ≤ n2 ∧ n2 ≤ 1125899906842624) ∧ (0 ≤ n3 ∧ n3 ≤ 1125899906842624) := by
  have h1 : allR 3 [99, 97, 109, 122] e.nums = true := (may_nums h hv hk lfld18).1
  obtain ⟨n0, r0, e0, f0, h1⟩ := all_cons h1
  obtain ⟨n1, r1, rfl, f1, h1⟩ := all_cons h1
  obtain ⟨n2, r2, rfl, f2, h1⟩ := all_cons h1
  obtain ⟨n3, r3, rfl, f3, h1⟩ := all_cons h1
  have h2 := all_nil h1; subst h2
  exact ⟨n0, n1, n2, n3, e0, fits_lo f1 bnd_a, fits_lo f2 bnd_m, fits_lo f3 bnd_z⟩
theorem mul_in {a b : Int} (ha : 1 ≤ a ∧ a ≤ 1073741824) (hb : 1 ≤ b ∧ b ≤ 1048576) : 0 ≤ a * b ∧ a * b ≤ 1125899906842624 :=
  ⟨Int.mul_nonneg (by omega) (by omega), Int.le_trans (Int.mul_le_mul ha.2 hb.2 (by omega) (by omega)) (by omega)⟩
theorem elemA : ElemT Tryd.prog 91 3 1 8 := elem_of Tryd.underlying91 (by kernel_rfl) (by omega)
theorem elemB6 : ElemT Tryd.prog 32 2 1 8 := elem_of Tryd.underlying32 (by kernel_rfl) (by omega)
def RowF (w : World) (F : Value) (rs : List (Int × Int)) : Prop := ∃ A B a ca b cb, F = .func (.func 47) #[] #[.pointer (some ⟨A, 0, none⟩), .pointer (some ⟨B, 0, none⟩)] ∧ PT w A 91 [.slice a rs.length ca] ∧ PT w B 32 [.slice b rs.length cb] ∧ SlR encI 1 w a ca (rs.map (·.1)) ∧ SlR encI 1 w b cb (rs.map (·.2))
set_option maxRecDepth 20000 in
theorem row_c {rs : List (Int × Int)} {m ca cb : Nat} {a b : Option Addr} {w : World} (hm : rs.length = m) (SA : SlR encI 1 w a ca (rs.map (·.1))) (SB : SlR encI 1 w b cb (rs.map (·.2))) : Calls Tryd.prog 46 #[.slice a m ca, .slice b m cb] w fun e w' => (∃ F, e = .returned F ∧ RowF w' F rs) ∧ Below w.heap.size w w' := by
  subst hm
  have hw := Below.refl w.heap.size w
  refine fn_enter 6 Tryd.func46 rfl rfl rfl ?_
  refine cw_seq (cw_region ?_)
  refine lw_boxN rfl rfl (cs := [.slice a rs.length ca]) rfl ?_; intro A w1 hA HA hb; replace hw := grow_trans hw hb; clear hb
  refine lw_boxN rfl rfl (cs := [.slice b rs.length cb]) rfl ?_; intro B w2 hB HB hb; replace hw := grow_trans hw hb; replace HA := HA.mono hb; clear hb
  repeat' (first | (refine lw_pure rfl (pv_assign rfl) ?_) | (refine is_cw ?_; first | (refine cw_seq ?_) | (refine cw_region ?_) | (refine cw_ret ?_)) | (refine is_qw ?_; first | (with_reducible refine qw_then ?_)) | (refine lw_nil ?_) | (refine lw_pure rfl (pv_makeFunc rfl rfl) ?_))
  exact qw_ret1 rfl rfl ⟨⟨_, rfl, A, B, a, ca, b, cb, rfl, HA, HB, SA.mono hw, SB.mono hw⟩, hw⟩
set_option maxRecDepth 20000 in
set_option maxHeartbeats 4000000 in
theorem deltas6_c {p : List Opn} {t : List Lt} {e : Evt} {ap at_ an ax : Option Addr} {mp mt mn mx cp ct cn cx : Nat} {w : World} (hm : e.nums.length = mn) (hE : mayE e = true) (hv : e.v = 3) (hk : e.kind = 6) (HN : SlR encI 1 w an cn e.nums) :
    Calls Tryd.prog 24 #[.slice ap mp cp, .slice at_ mt ct, .agg #[.int .u8 e.v, .int .u8 e.kind, .slice an mn cn, .slice ax mx cx]] w fun e1 w' => (∃ F, e1 = .returned (.tuple #[F, .int .i64 (rowsL p t e).1]) ∧ ((rowsL p t e).1 = 0 → RowF w' F (rowsL p t e).2)) ∧ Below w.heap.size w w' := by
  obtain ⟨n0, n1, hn, h0, h1⟩ := lnums6 hE hv (Or.inl hk)
  have hR : rowsL p t e = (0, [(n0, 1 * n1)]) := by unfold rowsL nthI; rw [if_pos hk, hn, Int.one_mul]; rfl
  rw [hR, hk, hv]
  clear hR
  obtain rfl : mn = 2 := by rw [← hm, hn]; rfl
  rw [hn] at HN
  obtain ⟨ab, ao, rfl, -, -⟩ := HN.at (by simp)
  have hx0 : [n0, n1][0]? = some n0 := rfl
  have hx1 : [n0, n1][1]? = some n1 := rfl
  have hw := Below.refl w.heap.size w
  refine fn_enter 150 Tryd.func24 rfl rfl rfl ?_
  refine cw_seq (cw_region ?_)
  refine lw_boxN rfl rfl (cs := [.int .u8 3, .int .u8 6, .slice (some ⟨ab, ao, none⟩) 2 cn, .slice ax mx cx]) rfl ?_; intro N w1 hN H hb
  replace HN := HN.mono hb
  have hw0 := hb
  clear hb hw
  have hw := Below.refl w1.heap.size w1
  repeat' (first | (refine lw_pure rfl (pv_assign rfl) ?_) | (refine is_cw ?_; first | (refine cw_seq ?_) | (refine cw_region ?_) | (refine cw_true rfl rfl ?_) | (refine cw_block ?_) | (refine cw_exit ?_)) | (refine is_qw ?_; first | (with_reducible refine qw_then ?_) | (with_reducible refine qw_in ?_) | (with_reducible refine qw_in_hit ?_) | (with_reducible refine qw_then_exit ?_)) | (refine lw_nil ?_) | ((refine is_bin ?_; first | (refine lw_pure rfl (pv_eql rfl rfl) ?_))) | ((refine is_load ?_; first | (refine lw_pure rfl (pv_load (t1 rfl) rfl (by first | exact PT.ld0 (H.mono hw) rfl | exact PT.ld (H.mono hw) rfl)) ?_))) | ((refine is_fa ?_; first | (refine lw_pure rfl (pv_fa (tF rfl) rfl) ?_))))
  refine cw_drawn (fun w' => Below w1.heap.size w1 w') (by kernel_rfl) (by repeat (first | exact NoPanic.body | with_reducible refine NoPanic.then ?_ | with_reducible refine NoPanic.inBlock ?_)) (fun hNP => ?_)
  have hS := hw.drew
  (refine at0 0 rfl (fun w' hq => pv_move rfl) ?_)
  (refine at0 1 rfl (fun w' hq => pv_move rfl) ?_)
  (refine at0 2 rfl (fun w' hq => pv_ia (tS rfl) rfl rfl (by omega)) ?_)
  (refine at0 3 rfl (fun w' hq => pv_load (t1 rfl) rfl (by first | exact SlR.ld (HN.mono hq) hx0 rfl | exact SlR.ld1 (HN.mono hq) hx0 rfl | exact SlR.ld (HN.mono hq) hx1 rfl | exact SlR.ld1 (HN.mono hq) hx1 rfl)) ?_)
  (refine at0 5 rfl (fun w' hq => pv_move rfl) ?_)
  (refine at0 6 rfl (fun w' hq => pv_move rfl) ?_)
  (refine at0 7 rfl (fun w' hq => pv_ia (tS rfl) rfl rfl (by omega)) ?_)
  (refine at0 8 rfl (fun w' hq => pv_load (t1 rfl) rfl (by first | exact SlR.ld (HN.mono hq) hx0 rfl | exact SlR.ld1 (HN.mono hq) hx0 rfl | exact SlR.ld (HN.mono hq) hx1 rfl | exact SlR.ld1 (HN.mono hq) hx1 rfl)) ?_)
  (refine at0 9 rfl (fun w' hq => pv_mul rfl rfl (by omega)) ?_)
  refine aw_act2 4 10 (by kernel_rfl) rfl rfl rfl rfl rfl rfl ?_ ?_
  · refine act_bs (vs := [.int .i64 n0]) (cs := [.int .i64 n0]) elemA rfl rfl (by omega) (by omega) rfl (by simp [Value.cells]) ?_; intro wa HA hba; have SA := HA.slR (xs := [n0]) encI_len rfl (by simp); (try replace SB := SB.mono hba); refine ⟨grow_trans hS hba, fun hS => ?_⟩; clear hba
    refine aw_act 10 (by kernel_rfl) rfl rfl rfl ?_
    refine act_bs (vs := [.int .i64 (1 * n1)]) (cs := [.int .i64 (1 * n1)]) elemB6 rfl rfl (by omega) (by omega) rfl (by simp [Value.cells]) ?_; intro wb HB hbb; have SB := HB.slR (xs := [1 * n1]) encI_len rfl (by simp); (try replace SA := SA.mono hbb); refine ⟨grow_trans hS hbb, fun hS => ?_⟩; clear hbb
    refine aw_act 11 (by kernel_rfl) rfl rfl rfl ?_
    refine act_callv (f := 46) rfl (by kernel_rfl) rfl (row_c (rs := [(n0, 1 * n1)]) rfl SA SB) ?_; rintro e2 w4 ⟨⟨F, rfl, HF⟩, hb⟩; refine ⟨_, rfl, grow_trans hS hb, fun hS => ?_⟩; clear hb
    (refine at0 12 rfl (fun w' hq => pv_assign rfl) ?_)
    (refine at0 13 rfl (fun w' hq => pv_assign rfl) ?_)
    refine aw_done (by kernel_rfl) ?_
    replace hw := hS; clear hS hNP
    (repeat' (first | (refine is_cw ?_; first | (refine cw_ret ?_)) | (refine is_qw ?_; first | (with_reducible refine qw_then ?_) | (with_reducible refine qw_then_ret ?_) | (with_reducible refine qw_in_ret ?_)))); exact qw_ret2 rfl rfl rfl ⟨⟨F, rfl, fun _ => HF⟩, grow_trans hw0 hw⟩
  · refine act_bs (vs := [.int .i64 (1 * n1)]) (cs := [.int .i64 (1 * n1)]) elemB6 rfl rfl (by omega) (by omega) rfl (by simp [Value.cells]) ?_; intro wb HB hbb; have SB := HB.slR (xs := [1 * n1]) encI_len rfl (by simp); (try replace SA := SA.mono hbb); refine ⟨grow_trans hS hbb, fun hS => ?_⟩; clear hbb
    refine aw_act 4 (by kernel_rfl) rfl rfl rfl ?_
    refine act_bs (vs := [.int .i64 n0]) (cs := [.int .i64 n0]) elemA rfl rfl (by omega) (by omega) rfl (by simp [Value.cells]) ?_; intro wa HA hba; have SA := HA.slR (xs := [n0]) encI_len rfl (by simp); (try replace SB := SB.mono hba); refine ⟨grow_trans hS hba, fun hS => ?_⟩; clear hba
    refine aw_act 11 (by kernel_rfl) rfl rfl rfl ?_
    refine act_callv (f := 46) rfl (by kernel_rfl) rfl (row_c (rs := [(n0, 1 * n1)]) rfl SA SB) ?_; rintro e2 w4 ⟨⟨F, rfl, HF⟩, hb⟩; refine ⟨_, rfl, grow_trans hS hb, fun hS => ?_⟩; clear hb
    (refine at0 12 rfl (fun w' hq => pv_assign rfl) ?_)
    (refine at0 13 rfl (fun w' hq => pv_assign rfl) ?_)
    refine aw_done (by kernel_rfl) ?_
    replace hw := hS; clear hS hNP
    (repeat' (first | (refine is_cw ?_; first | (refine cw_ret ?_)) | (refine is_qw ?_; first | (with_reducible refine qw_then ?_) | (with_reducible refine qw_then_ret ?_) | (with_reducible refine qw_in_ret ?_)))); exact qw_ret2 rfl rfl rfl ⟨⟨F, rfl, fun _ => HF⟩, grow_trans hw0 hw⟩
set_option maxRecDepth 20000 in
set_option maxHeartbeats 4000000 in
theorem deltas7_c {p : List Opn} {t : List Lt} {e : Evt} {ap at_ an ax : Option Addr} {mp mt mn mx cp ct cn cx : Nat} {w : World} (hm : e.nums.length = mn) (hE : mayE e = true) (hv : e.v = 3) (hk : e.kind = 7) (HN : SlR encI 1 w an cn e.nums) :
    Calls Tryd.prog 24 #[.slice ap mp cp, .slice at_ mt ct, .agg #[.int .u8 e.v, .int .u8 e.kind, .slice an mn cn, .slice ax mx cx]] w fun e1 w' => (∃ F, e1 = .returned (.tuple #[F, .int .i64 (rowsL p t e).1]) ∧ ((rowsL p t e).1 = 0 → RowF w' F (rowsL p t e).2)) ∧ Below w.heap.size w w' := by
  obtain ⟨n0, n1, hn, h0, h1⟩ := lnums6 hE hv (Or.inr hk)
  have hR : rowsL p t e = (0, [(n0, -1 * n1)]) := by unfold rowsL nthI; rw [if_neg (by omega), if_pos hk, hn, show (-1 : Int) * n1 = -n1 by omega]; rfl
  rw [hR, hk, hv]
  clear hR
  obtain rfl : mn = 2 := by rw [← hm, hn]; rfl
  rw [hn] at HN
  obtain ⟨ab, ao, rfl, -, -⟩ := HN.at (by simp)
  have hx0 : [n0, n1][0]? = some n0 := rfl
  have hx1 : [n0, n1][1]? = some n1 := rfl
  have hw := Below.refl w.heap.size w
  refine fn_enter 150 Tryd.func24 rfl rfl rfl ?_
  refine cw_seq (cw_region ?_)
  refine lw_boxN rfl rfl (cs := [.int .u8 3, .int .u8 7, .slice (some ⟨ab, ao, none⟩) 2 cn, .slice ax mx cx]) rfl ?_; intro N w1 hN H hb
  replace HN := HN.mono hb
  have hw0 := hb
  clear hb hw
  have hw := Below.refl w1.heap.size w1
  repeat' (first | (refine lw_pure rfl (pv_assign rfl) ?_) | (refine is_cw ?_; first | (refine cw_seq ?_) | (refine cw_region ?_) | (refine cw_true rfl rfl ?_) | (refine cw_false rfl rfl ?_) | (refine cw_skip ?_) | (refine cw_block ?_) | (refine cw_exit ?_)) | (refine is_qw ?_; first | (with_reducible refine qw_then ?_) | (with_reducible refine qw_in_hit ?_) | (refine qw_in_miss rfl ?_) | (with_reducible refine qw_then_exit ?_)) | (refine lw_nil ?_) | ((refine is_bin ?_; first | (refine lw_pure rfl (pv_eql rfl rfl) ?_))) | ((refine is_load ?_; first | (refine lw_pure rfl (pv_load (t1 rfl) rfl (by first | exact PT.ld0 (H.mono hw) rfl | exact PT.ld (H.mono hw) rfl)) ?_))) | ((refine is_fa ?_; first | (refine lw_pure rfl (pv_fa (tF rfl) rfl) ?_))))
  refine cw_drawn (fun w' => Below w1.heap.size w1 w') (by kernel_rfl) (by repeat (first | exact NoPanic.body | with_reducible refine NoPanic.then ?_ | with_reducible refine NoPanic.inBlock ?_)) (fun hNP => ?_)
  have hS := hw.drew
  (refine at0 0 rfl (fun w' hq => pv_move rfl) ?_)
  (refine at0 1 rfl (fun w' hq => pv_move rfl) ?_)
  (refine at0 2 rfl (fun w' hq => pv_ia (tS rfl) rfl rfl (by omega)) ?_)
  (refine at0 3 rfl (fun w' hq => pv_load (t1 rfl) rfl (by first | exact SlR.ld (HN.mono hq) hx0 rfl | exact SlR.ld1 (HN.mono hq) hx0 rfl | exact SlR.ld (HN.mono hq) hx1 rfl | exact SlR.ld1 (HN.mono hq) hx1 rfl)) ?_)
  (refine at0 5 rfl (fun w' hq => pv_move rfl) ?_)
  (refine at0 6 rfl (fun w' hq => pv_move rfl) ?_)
  (refine at0 7 rfl (fun w' hq => pv_ia (tS rfl) rfl rfl (by omega)) ?_)
  (refine at0 8 rfl (fun w' hq => pv_load (t1 rfl) rfl (by first | exact SlR.ld (HN.mono hq) hx0 rfl | exact SlR.ld1 (HN.mono hq) hx0 rfl | exact SlR.ld (HN.mono hq) hx1 rfl | exact SlR.ld1 (HN.mono hq) hx1 rfl)) ?_)
  (refine at0 9 rfl (fun w' hq => pv_mul rfl rfl (by omega)) ?_)
  refine aw_act2 4 10 (by kernel_rfl) rfl rfl rfl rfl rfl rfl ?_ ?_
  · refine act_bs (vs := [.int .i64 n0]) (cs := [.int .i64 n0]) elemA rfl rfl (by omega) (by omega) rfl (by simp [Value.cells]) ?_; intro wa HA hba; have SA := HA.slR (xs := [n0]) encI_len rfl (by simp); (try replace SB := SB.mono hba); refine ⟨grow_trans hS hba, fun hS => ?_⟩; clear hba
    refine aw_act 10 (by kernel_rfl) rfl rfl rfl ?_
    refine act_bs (vs := [.int .i64 (-1 * n1)]) (cs := [.int .i64 (-1 * n1)]) elemB6 rfl rfl (by omega) (by omega) rfl (by simp [Value.cells]) ?_; intro wb HB hbb; have SB := HB.slR (xs := [-1 * n1]) encI_len rfl (by simp); (try replace SA := SA.mono hbb); refine ⟨grow_trans hS hbb, fun hS => ?_⟩; clear hbb
    refine aw_act 11 (by kernel_rfl) rfl rfl rfl ?_
    refine act_callv (f := 46) rfl (by kernel_rfl) rfl (row_c (rs := [(n0, -1 * n1)]) rfl SA SB) ?_; rintro e2 w4 ⟨⟨F, rfl, HF⟩, hb⟩; refine ⟨_, rfl, grow_trans hS hb, fun hS => ?_⟩; clear hb
    (refine at0 12 rfl (fun w' hq => pv_assign rfl) ?_)
    (refine at0 13 rfl (fun w' hq => pv_assign rfl) ?_)
    refine aw_done (by kernel_rfl) ?_
    replace hw := hS; clear hS hNP
    (repeat' (first | (refine is_cw ?_; first | (refine cw_ret ?_)) | (refine is_qw ?_; first | (with_reducible refine qw_then ?_) | (with_reducible refine qw_then_ret ?_) | (with_reducible refine qw_in_ret ?_)))); exact qw_ret2 rfl rfl rfl ⟨⟨F, rfl, fun _ => HF⟩, grow_trans hw0 hw⟩
  · refine act_bs (vs := [.int .i64 (-1 * n1)]) (cs := [.int .i64 (-1 * n1)]) elemB6 rfl rfl (by omega) (by omega) rfl (by simp [Value.cells]) ?_; intro wb HB hbb; have SB := HB.slR (xs := [-1 * n1]) encI_len rfl (by simp); (try replace SA := SA.mono hbb); refine ⟨grow_trans hS hbb, fun hS => ?_⟩; clear hbb
    refine aw_act 4 (by kernel_rfl) rfl rfl rfl ?_
    refine act_bs (vs := [.int .i64 n0]) (cs := [.int .i64 n0]) elemA rfl rfl (by omega) (by omega) rfl (by simp [Value.cells]) ?_; intro wa HA hba; have SA := HA.slR (xs := [n0]) encI_len rfl (by simp); (try replace SB := SB.mono hba); refine ⟨grow_trans hS hba, fun hS => ?_⟩; clear hba
    refine aw_act 11 (by kernel_rfl) rfl rfl rfl ?_
    refine act_callv (f := 46) rfl (by kernel_rfl) rfl (row_c (rs := [(n0, -1 * n1)]) rfl SA SB) ?_; rintro e2 w4 ⟨⟨F, rfl, HF⟩, hb⟩; refine ⟨_, rfl, grow_trans hS hb, fun hS => ?_⟩; clear hb
    (refine at0 12 rfl (fun w' hq => pv_assign rfl) ?_)
    (refine at0 13 rfl (fun w' hq => pv_assign rfl) ?_)
    refine aw_done (by kernel_rfl) ?_
    replace hw := hS; clear hS hNP
    (repeat' (first | (refine is_cw ?_; first | (refine cw_ret ?_)) | (refine is_qw ?_; first | (with_reducible refine qw_then ?_) | (with_reducible refine qw_then_ret ?_) | (with_reducible refine qw_in_ret ?_)))); exact qw_ret2 rfl rfl rfl ⟨⟨F, rfl, fun _ => HF⟩, grow_trans hw0 hw⟩
set_option maxRecDepth 20000 in
set_option maxHeartbeats 4000000 in
theorem deltas21_c {p : List Opn} {t : List Lt} {e : Evt} {ap at_ an ax : Option Addr} {mp mt mn mx cp ct cn cx : Nat} {w : World} (hm : e.nums.length = mn) (hE : mayE e = true) (hv : e.v = 3) (hk : e.kind = 21) (HN : SlR encI 1 w an cn e.nums) :
    Calls Tryd.prog 24 #[.slice ap mp cp, .slice at_ mt ct, .agg #[.int .u8 e.v, .int .u8 e.kind, .slice an mn cn, .slice ax mx cx]] w fun e1 w' => (∃ F, e1 = .returned (.tuple #[F, .int .i64 (rowsL p t e).1]) ∧ ((rowsL p t e).1 = 0 → RowF w' F (rowsL p t e).2)) ∧ Below w.heap.size w w' := by
  obtain ⟨n0, n1, n2, hn, h0, h1, h2⟩ := lnums21 hE hv hk
  have hR : rowsL p t e = (0, [(n0, -n2), (n1, n2)]) := by unfold rowsL nthI; rw [if_neg (by omega), if_neg (by omega), if_pos hk, hn]; rfl
  rw [hR, hk, hv]
  clear hR
  obtain rfl : mn = 3 := by rw [← hm, hn]; rfl
  rw [hn] at HN
  obtain ⟨ab, ao, rfl, -, -⟩ := HN.at (by simp)
  have hx0 : [n0, n1, n2][0]? = some n0 := rfl
  have hx1 : [n0, n1, n2][1]? = some n1 := rfl
  have hx2 : [n0, n1, n2][2]? = some n2 := rfl
  have hw := Below.refl w.heap.size w
  refine fn_enter 150 Tryd.func24 rfl rfl rfl ?_
  refine cw_seq (cw_region ?_)
  refine lw_boxN rfl rfl (cs := [.int .u8 3, .int .u8 21, .slice (some ⟨ab, ao, none⟩) 3 cn, .slice ax mx cx]) rfl ?_; intro N w1 hN H hb
  replace HN := HN.mono hb
  have hw0 := hb
  clear hb hw
  have hw := Below.refl w1.heap.size w1
  repeat' (first | (refine lw_pure rfl (pv_assign rfl) ?_) | (refine is_cw ?_; first | (refine cw_seq ?_) | (refine cw_region ?_) | (refine cw_true rfl rfl ?_) | (refine cw_false rfl rfl ?_) | (refine cw_skip ?_) | (refine cw_block ?_) | (refine cw_exit ?_)) | (refine is_qw ?_; first | (with_reducible refine qw_then ?_) | (with_reducible refine qw_in_hit ?_) | (refine qw_in_miss rfl ?_) | (with_reducible refine qw_then_exit ?_)) | (refine lw_nil ?_) | ((refine is_bin ?_; first | (refine lw_pure rfl (pv_eql rfl rfl) ?_))) | ((refine is_load ?_; first | (refine lw_pure rfl (pv_load (t1 rfl) rfl (by first | exact PT.ld0 (H.mono hw) rfl | exact PT.ld (H.mono hw) rfl)) ?_))) | ((refine is_fa ?_; first | (refine lw_pure rfl (pv_fa (tF rfl) rfl) ?_))))
  refine cw_drawn (fun w' => Below w1.heap.size w1 w') (by kernel_rfl) (by repeat (first | exact NoPanic.body | with_reducible refine NoPanic.then ?_ | with_reducible refine NoPanic.inBlock ?_)) (fun hNP => ?_)
  have hS := hw.drew
  (refine at0 0 rfl (fun w' hq => pv_move rfl) ?_)
  (refine at0 1 rfl (fun w' hq => pv_move rfl) ?_)
  (refine at0 2 rfl (fun w' hq => pv_ia (tS rfl) rfl rfl (by omega)) ?_)
  (refine at0 3 rfl (fun w' hq => pv_load (t1 rfl) rfl (by first | exact SlR.ld (HN.mono hq) hx0 rfl | exact SlR.ld1 (HN.mono hq) hx0 rfl | exact SlR.ld (HN.mono hq) hx1 rfl | exact SlR.ld1 (HN.mono hq) hx1 rfl | exact SlR.ld (HN.mono hq) hx2 rfl | exact SlR.ld1 (HN.mono hq) hx2 rfl)) ?_)
  (refine at0 4 rfl (fun w' hq => pv_move rfl) ?_)
  (refine at0 5 rfl (fun w' hq => pv_ia (tS rfl) rfl rfl (by omega)) ?_)
  (refine at0 6 rfl (fun w' hq => pv_load (t1 rfl) rfl (by first | exact SlR.ld (HN.mono hq) hx0 rfl | exact SlR.ld1 (HN.mono hq) hx0 rfl | exact SlR.ld (HN.mono hq) hx1 rfl | exact SlR.ld1 (HN.mono hq) hx1 rfl | exact SlR.ld (HN.mono hq) hx2 rfl | exact SlR.ld1 (HN.mono hq) hx2 rfl)) ?_)
  (refine at0 8 rfl (fun w' hq => pv_move rfl) ?_)
  (refine at0 9 rfl (fun w' hq => pv_ia (tS rfl) rfl rfl (by omega)) ?_)
  (refine at0 10 rfl (fun w' hq => pv_load (t1 rfl) rfl (by first | exact SlR.ld (HN.mono hq) hx0 rfl | exact SlR.ld1 (HN.mono hq) hx0 rfl | exact SlR.ld (HN.mono hq) hx1 rfl | exact SlR.ld1 (HN.mono hq) hx1 rfl | exact SlR.ld (HN.mono hq) hx2 rfl | exact SlR.ld1 (HN.mono hq) hx2 rfl)) ?_)
  (refine at0 11 rfl (fun w' hq => pv_neg rfl (by omega)) ?_)
  (refine at0 12 rfl (fun w' hq => pv_move rfl) ?_)
  (refine at0 13 rfl (fun w' hq => pv_ia (tS rfl) rfl rfl (by omega)) ?_)
  (refine at0 14 rfl (fun w' hq => pv_load (t1 rfl) rfl (by first | exact SlR.ld (HN.mono hq) hx0 rfl | exact SlR.ld1 (HN.mono hq) hx0 rfl | exact SlR.ld (HN.mono hq) hx1 rfl | exact SlR.ld1 (HN.mono hq) hx1 rfl | exact SlR.ld (HN.mono hq) hx2 rfl | exact SlR.ld1 (HN.mono hq) hx2 rfl)) ?_)
  refine aw_act2 7 15 (by kernel_rfl) rfl rfl rfl rfl rfl rfl ?_ ?_
  · refine act_bs (vs := [.int .i64 n0, .int .i64 n1]) (cs := [.int .i64 n0, .int .i64 n1]) elemA rfl rfl (by omega) (by omega) rfl (by simp [Value.cells]) ?_; intro wa HA hba; have SA := HA.slR (xs := [n0, n1]) encI_len rfl (by simp); (try replace SB := SB.mono hba); refine ⟨grow_trans hS hba, fun hS => ?_⟩; clear hba
    refine aw_act 15 (by kernel_rfl) rfl rfl rfl ?_
    refine act_bs (vs := [.int .i64 (-n2), .int .i64 n2]) (cs := [.int .i64 (-n2), .int .i64 n2]) elemB6 rfl rfl (by omega) (by omega) rfl (by simp [Value.cells]) ?_; intro wb HB hbb; have SB := HB.slR (xs := [-n2, n2]) encI_len rfl (by simp); (try replace SA := SA.mono hbb); refine ⟨grow_trans hS hbb, fun hS => ?_⟩; clear hbb
    refine aw_act 16 (by kernel_rfl) rfl rfl rfl ?_
    refine act_callv (f := 46) rfl (by kernel_rfl) rfl (row_c (rs := [(n0, -n2), (n1, n2)]) rfl SA SB) ?_; rintro e2 w4 ⟨⟨F, rfl, HF⟩, hb⟩; refine ⟨_, rfl, grow_trans hS hb, fun hS => ?_⟩; clear hb
    (refine at0 17 rfl (fun w' hq => pv_assign rfl) ?_)
    (refine at0 18 rfl (fun w' hq => pv_assign rfl) ?_)
    refine aw_done (by kernel_rfl) ?_
    replace hw := hS; clear hS hNP
    (repeat' (first | (refine is_cw ?_; first | (refine cw_ret ?_)) | (refine is_qw ?_; first | (with_reducible refine qw_then ?_) | (with_reducible refine qw_then_ret ?_) | (with_reducible refine qw_in_ret ?_)))); exact qw_ret2 rfl rfl rfl ⟨⟨F, rfl, fun _ => HF⟩, grow_trans hw0 hw⟩
  · refine act_bs (vs := [.int .i64 (-n2), .int .i64 n2]) (cs := [.int .i64 (-n2), .int .i64 n2]) elemB6 rfl rfl (by omega) (by omega) rfl (by simp [Value.cells]) ?_; intro wb HB hbb; have SB := HB.slR (xs := [-n2, n2]) encI_len rfl (by simp); (try replace SA := SA.mono hbb); refine ⟨grow_trans hS hbb, fun hS => ?_⟩; clear hbb
    refine aw_act 7 (by kernel_rfl) rfl rfl rfl ?_
    refine act_bs (vs := [.int .i64 n0, .int .i64 n1]) (cs := [.int .i64 n0, .int .i64 n1]) elemA rfl rfl (by omega) (by omega) rfl (by simp [Value.cells]) ?_; intro wa HA hba; have SA := HA.slR (xs := [n0, n1]) encI_len rfl (by simp); (try replace SB := SB.mono hba); refine ⟨grow_trans hS hba, fun hS => ?_⟩; clear hba
    refine aw_act 16 (by kernel_rfl) rfl rfl rfl ?_
    refine act_callv (f := 46) rfl (by kernel_rfl) rfl (row_c (rs := [(n0, -n2), (n1, n2)]) rfl SA SB) ?_; rintro e2 w4 ⟨⟨F, rfl, HF⟩, hb⟩; refine ⟨_, rfl, grow_trans hS hb, fun hS => ?_⟩; clear hb
    (refine at0 17 rfl (fun w' hq => pv_assign rfl) ?_)
    (refine at0 18 rfl (fun w' hq => pv_assign rfl) ?_)
    refine aw_done (by kernel_rfl) ?_
    replace hw := hS; clear hS hNP
    (repeat' (first | (refine is_cw ?_; first | (refine cw_ret ?_)) | (refine is_qw ?_; first | (with_reducible refine qw_then ?_) | (with_reducible refine qw_then_ret ?_) | (with_reducible refine qw_in_ret ?_)))); exact qw_ret2 rfl rfl rfl ⟨⟨F, rfl, fun _ => HF⟩, grow_trans hw0 hw⟩
set_option maxRecDepth 20000 in
set_option maxHeartbeats 4000000 in
theorem deltasN_c {p : List Opn} {t : List Lt} {e : Evt} {ap at_ an ax : Option Addr} {mp mt mn mx cp ct cn cx : Nat} {w : World} (hv : e.v = 3) (hk : kindB e.kind = false) :
    Calls Tryd.prog 24 #[.slice ap mp cp, .slice at_ mt ct, .agg #[.int .u8 e.v, .int .u8 e.kind, .slice an mn cn, .slice ax mx cx]] w fun e1 w' => (∃ F, e1 = .returned (.tuple #[F, .int .i64 (rowsL p t e).1]) ∧ ((rowsL p t e).1 = 0 → RowF w' F (rowsL p t e).2)) ∧ Below w.heap.size w w' := by
  have hk2 := of_decide_eq_false hk
  have hR : rowsL p t e = (0, []) := by unfold rowsL; rw [if_neg (by omega), if_neg (by omega), if_neg (by omega), if_neg (by omega), if_neg (by omega)]
  rw [hR, hv]
  clear hR
  generalize e.kind = k at hk2
  have hw := Below.refl w.heap.size w
  refine fn_enter 150 Tryd.func24 rfl rfl rfl ?_
  refine cw_seq (cw_region ?_)
  refine lw_boxN rfl rfl (cs := [.int .u8 3, .int .u8 k, .slice an mn cn, .slice ax mx cx]) rfl ?_; intro N w1 hN H hb
  have hw0 := hb
  clear hb hw
  have hw := Below.refl w1.heap.size w1
  repeat' (first | (refine lw_pure rfl (pv_move rfl) ?_) | (refine lw_pure rfl (pv_assign rfl) ?_) | (refine is_cw ?_; first | (refine cw_seq ?_) | (refine cw_region ?_) | (refine is_cd ?_; refine cw_false rfl (by first | assumption | exact decide_eq_false (by omega) | exact dec_notF (by omega)) ?_) | (refine cw_skip ?_) | (refine cw_block ?_) | (refine cw_exit ?_)) | (refine is_qw ?_; first | (with_reducible refine qw_then ?_) | (with_reducible refine qw_in_hit ?_) | (refine qw_in_miss rfl ?_) | (with_reducible refine qw_then_exit ?_)) | (refine lw_nil ?_) | ((refine is_bin ?_; first | (refine lw_pure rfl (pv_eql rfl rfl) ?_))) | ((refine is_load ?_; first | (refine lw_pure rfl (pv_load (t1 rfl) rfl (by first | exact PT.ld0 (H.mono hw) rfl | exact PT.ld (H.mono hw) rfl)) ?_))) | ((refine is_fa ?_; first | (refine lw_pure rfl (pv_fa (tF rfl) rfl) ?_))))
  refine lw_callv (f := 46) rfl (by kernel_rfl) rfl rfl (row_c (rs := []) rfl (SlR.nil _) (SlR.nil _)) ?_; rintro e2 w4 ⟨⟨F, rfl, HF⟩, hb⟩; refine ⟨_, rfl, ?_⟩; replace hw := grow_trans hw hb; clear hb
  (repeat' (first | (refine lw_pure rfl (pv_assign rfl) ?_) | (refine is_cw ?_; first | (refine cw_ret ?_)) | (refine is_qw ?_; first | (with_reducible refine qw_then ?_)) | (refine lw_nil ?_))); exact qw_ret2 rfl rfl rfl ⟨⟨F, rfl, fun _ => HF⟩, grow_trans hw0 hw⟩
theorem lotP_eq (t : List Lt) (id : Int) : lotP t id = findT t id := rfl
set_option maxRecDepth 20000 in
set_option maxHeartbeats 4000000 in
theorem deltas18_c {p : List Opn} {t : List Lt} {e : Evt} {ap at_ an ax : Option Addr} {mp mt mn mx cp ct cn cx : Nat} {w : World} (hm : e.nums.length = mn) (hE : mayE e = true) (hv : e.v = 3) (hk : e.kind = 18) (hmt : t.length = mt) (HL : SlR encL 4 w at_ ct t) (HN : SlR encI 1 w an cn e.nums) :
    Calls Tryd.prog 24 #[.slice ap mp cp, .slice at_ mt ct, .agg #[.int .u8 e.v, .int .u8 e.kind, .slice an mn cn, .slice ax mx cx]] w fun e1 w' => (∃ F, e1 = .returned (.tuple #[F, .int .i64 (rowsL p t e).1]) ∧ ((rowsL p t e).1 = 0 → RowF w' F (rowsL p t e).2)) ∧ Below w.heap.size w w' := by
  obtain ⟨n0, n1, n2, n3, hn, h1, h2, h3⟩ := lnums18 hE hv hk
  have hR : rowsL p t e = match findT t n0 with
    | some x => (0, [(n1, -n2), (x.seller, n2 - n3)])
    | none => (5, []) := by unfold rowsL nthI; rw [if_neg (by omega), if_neg (by omega), if_neg (by omega), if_neg (by omega), if_pos hk, hn, lotP_eq]; rfl
  rw [hR, hk, hv]
  clear hR
  obtain rfl : mn = 4 := by rw [← hm, hn]; rfl
  rw [hn] at HN
  obtain ⟨ab, ao, rfl, -, -⟩ := HN.at (by simp)
  have hx0 : [n0, n1, n2, n3][0]? = some n0 := rfl
  have hx1 : [n0, n1, n2, n3][1]? = some n1 := rfl
  have hx2 : [n0, n1, n2, n3][2]? = some n2 := rfl
  have hx3 : [n0, n1, n2, n3][3]? = some n3 := rfl
  have hw := Below.refl w.heap.size w
  refine fn_enter 150 Tryd.func24 rfl rfl rfl ?_
  refine cw_seq (cw_region ?_)
  refine lw_boxN rfl rfl (cs := [.int .u8 3, .int .u8 18, .slice (some ⟨ab, ao, none⟩) 4 cn, .slice ax mx cx]) rfl ?_; intro N w1 hN H hb
  replace HN := HN.mono hb
  replace HL := HL.mono hb
  have hw0 := hb
  clear hb hw
  have hw := Below.refl w1.heap.size w1
  repeat' (first | (refine lw_pure rfl (pv_move rfl) ?_) | (refine lw_pure rfl (pv_assign rfl) ?_) | (refine is_cw ?_; first | (refine cw_seq ?_) | (refine cw_region ?_) | (refine cw_true rfl rfl ?_) | (refine cw_false rfl rfl ?_) | (refine cw_skip ?_) | (refine cw_block ?_) | (refine cw_exit ?_)) | (refine is_qw ?_; first | (with_reducible refine qw_then ?_) | (with_reducible refine qw_in_hit ?_) | (refine qw_in_miss rfl ?_) | (with_reducible refine qw_then_exit ?_)) | (refine lw_nil ?_) | ((refine is_bin ?_; first | (refine lw_pure rfl (pv_eql rfl rfl) ?_))) | ((refine is_load ?_; first | (refine lw_pure rfl (pv_load (t1 rfl) rfl (by first | exact PT.ld0 (H.mono hw) rfl | exact PT.ld (H.mono hw) rfl | exact SlR.ld (HN.mono hw) hx0 rfl | exact SlR.ld1 (HN.mono hw) hx0 rfl)) ?_))) | ((refine is_fa ?_; first | (refine lw_pure rfl (pv_fa (tF rfl) rfl) ?_))) | ((refine is_ia ?_; first | (refine lw_pure rfl (pv_ia (tS rfl) rfl rfl (by omega)) ?_))))
  refine lw_call (f := 49) (by kernel_rfl) rfl rfl (lotx_c n0 hmt HL) ?_; rintro e2 w2 ⟨rfl, hb⟩; refine ⟨_, rfl, ?_⟩
  replace hw := grow_trans hw hb
  replace HN := HN.mono hw
  replace hw0 := grow_trans hw0 hw
  clear hb hw
  have hw := Below.refl w2.heap.size w2
  repeat' (first | (refine lw_pure rfl (pv_move rfl) ?_) | (refine lw_pure rfl (pv_extract rfl rfl) ?_))
  refine lw_varN rfl (by first | exact tyv_29 | exact tyv_30 | exact tyv_34 | exact tyv_35 | exact tyv_37 | exact tyv_43 | exact tyv_53 | exact tyv_54 | exact tyv_55 | exact tyv_56 | exact tyv_112 | exact tyv_113 | exact tyv_121 | exact tyv_122) rfl (tZ rfl) (fun _ => rfl) rfl rfl ?_; intro N16 wn hN16 HX hb; replace hN16 := Nat.le_trans hw.size hN16; replace hw := grow_trans hw hb; clear hb
  replace HN := HN.mono hw
  replace hw0 := grow_trans hw0 hw
  clear hw
  have hw := Below.refl wn.heap.size wn
  cases hf : findT t n0 with
  | none =>
    repeat' (first | (refine lw_pure rfl (pv_move rfl) ?_) | (refine lw_pure rfl (pv_assign rfl) ?_) | (refine is_cw ?_; first | (refine cw_seq ?_) | (refine cw_region ?_) | (refine cw_true rfl rfl ?_) | (refine cw_ret ?_)) | (refine is_qw ?_; first | (with_reducible refine qw_then ?_) | (with_reducible refine qw_then_ret ?_) | (with_reducible refine qw_in_ret ?_)) | (refine lw_nil ?_) | ((refine is_un ?_; first | (refine lw_pure rfl (pv_not rfl) ?_))))
    exact qw_ret2 rfl rfl rfl ⟨⟨_, rfl, fun h => by cases h⟩, grow_trans hw0 hw⟩
  | some x =>
    rw [hf] at HX
    replace HX : PT wn N16 56 (encL x) := HX
    repeat' (first | (refine lw_pure rfl (pv_move rfl) ?_) | (refine lw_pure rfl (pv_assign rfl) ?_) | (refine is_cw ?_; first | (refine cw_seq ?_) | (refine cw_region ?_) | (refine cw_false rfl rfl ?_) | (refine cw_skip ?_)) | (refine is_qw ?_; first | (with_reducible refine qw_then ?_)) | (refine lw_nil ?_) | ((refine is_un ?_; first | (refine lw_pure rfl (pv_not rfl) ?_))))
    refine cw_drawn (fun w' => Below wn.heap.size wn w') (by kernel_rfl) (by repeat (first | exact NoPanic.body | with_reducible refine NoPanic.then ?_ | with_reducible refine NoPanic.inBlock ?_)) (fun hNP => ?_)
    have hS := hw.drew
    (refine at0 0 rfl (fun w' hq => pv_move rfl) ?_)
    (refine at0 1 rfl (fun w' hq => pv_move rfl) ?_)
    (refine at0 2 rfl (fun w' hq => pv_ia (tS rfl) rfl rfl (by omega)) ?_)
    (refine at0 3 rfl (fun w' hq => pv_load (t1 rfl) rfl (by first | exact PT.ld0 (HX.mono hq) rfl | exact PT.ld (HX.mono hq) rfl | exact SlR.ld (HN.mono hq) hx1 rfl | exact SlR.ld1 (HN.mono hq) hx1 rfl | exact SlR.ld (HN.mono hq) hx2 rfl | exact SlR.ld1 (HN.mono hq) hx2 rfl | exact SlR.ld (HN.mono hq) hx3 rfl | exact SlR.ld1 (HN.mono hq) hx3 rfl)) ?_)
    (refine at0 4 rfl (fun w' hq => pv_fa (tF rfl) rfl) ?_)
    (refine at0 5 rfl (fun w' hq => pv_load (t1 rfl) rfl (by first | exact PT.ld0 (HX.mono hq) rfl | exact PT.ld (HX.mono hq) rfl | exact SlR.ld (HN.mono hq) hx1 rfl | exact SlR.ld1 (HN.mono hq) hx1 rfl | exact SlR.ld (HN.mono hq) hx2 rfl | exact SlR.ld1 (HN.mono hq) hx2 rfl | exact SlR.ld (HN.mono hq) hx3 rfl | exact SlR.ld1 (HN.mono hq) hx3 rfl)) ?_)
    (refine at0 7 rfl (fun w' hq => pv_move rfl) ?_)
    (refine at0 8 rfl (fun w' hq => pv_ia (tS rfl) rfl rfl (by omega)) ?_)
    (refine at0 9 rfl (fun w' hq => pv_load (t1 rfl) rfl (by first | exact PT.ld0 (HX.mono hq) rfl | exact PT.ld (HX.mono hq) rfl | exact SlR.ld (HN.mono hq) hx1 rfl | exact SlR.ld1 (HN.mono hq) hx1 rfl | exact SlR.ld (HN.mono hq) hx2 rfl | exact SlR.ld1 (HN.mono hq) hx2 rfl | exact SlR.ld (HN.mono hq) hx3 rfl | exact SlR.ld1 (HN.mono hq) hx3 rfl)) ?_)
    (refine at0 10 rfl (fun w' hq => pv_neg rfl (by omega)) ?_)
    (refine at0 11 rfl (fun w' hq => pv_move rfl) ?_)
    (refine at0 12 rfl (fun w' hq => pv_ia (tS rfl) rfl rfl (by omega)) ?_)
    (refine at0 13 rfl (fun w' hq => pv_load (t1 rfl) rfl (by first | exact PT.ld0 (HX.mono hq) rfl | exact PT.ld (HX.mono hq) rfl | exact SlR.ld (HN.mono hq) hx1 rfl | exact SlR.ld1 (HN.mono hq) hx1 rfl | exact SlR.ld (HN.mono hq) hx2 rfl | exact SlR.ld1 (HN.mono hq) hx2 rfl | exact SlR.ld (HN.mono hq) hx3 rfl | exact SlR.ld1 (HN.mono hq) hx3 rfl)) ?_)
    (refine at0 14 rfl (fun w' hq => pv_move rfl) ?_)
    (refine at0 15 rfl (fun w' hq => pv_ia (tS rfl) rfl rfl (by omega)) ?_)
    (refine at0 16 rfl (fun w' hq => pv_load (t1 rfl) rfl (by first | exact PT.ld0 (HX.mono hq) rfl | exact PT.ld (HX.mono hq) rfl | exact SlR.ld (HN.mono hq) hx1 rfl | exact SlR.ld1 (HN.mono hq) hx1 rfl | exact SlR.ld (HN.mono hq) hx2 rfl | exact SlR.ld1 (HN.mono hq) hx2 rfl | exact SlR.ld (HN.mono hq) hx3 rfl | exact SlR.ld1 (HN.mono hq) hx3 rfl)) ?_)
    (refine at0 17 rfl (fun w' hq => pv_sub rfl rfl (by omega)) ?_)
    refine aw_act2 6 18 (by kernel_rfl) rfl rfl rfl rfl rfl rfl ?_ ?_
    · refine act_bs (vs := [.int .i64 n1, .int .i64 x.seller]) (cs := [.int .i64 n1, .int .i64 x.seller]) elemA rfl rfl (by omega) (by omega) rfl (by simp [Value.cells]) ?_; intro wa HA hba; have SA := HA.slR (xs := [n1, x.seller]) encI_len rfl (by simp); (try replace SB := SB.mono hba); refine ⟨grow_trans hS hba, fun hS => ?_⟩; clear hba
      refine aw_act 18 (by kernel_rfl) rfl rfl rfl ?_
      refine act_bs (vs := [.int .i64 (-n2), .int .i64 (n2 - n3)]) (cs := [.int .i64 (-n2), .int .i64 (n2 - n3)]) elemB6 rfl rfl (by omega) (by omega) rfl (by simp [Value.cells]) ?_; intro wb HB hbb; have SB := HB.slR (xs := [-n2, n2 - n3]) encI_len rfl (by simp); (try replace SA := SA.mono hbb); refine ⟨grow_trans hS hbb, fun hS => ?_⟩; clear hbb
      refine aw_act 19 (by kernel_rfl) rfl rfl rfl ?_
      refine act_callv (f := 46) rfl (by kernel_rfl) rfl (row_c (rs := [(n1, -n2), (x.seller, n2 - n3)]) rfl SA SB) ?_; rintro e2 w4 ⟨⟨F, rfl, HF⟩, hb⟩; refine ⟨_, rfl, grow_trans hS hb, fun hS => ?_⟩; clear hb
      (refine at0 20 rfl (fun w' hq => pv_assign rfl) ?_)
      (refine at0 21 rfl (fun w' hq => pv_assign rfl) ?_)
      refine aw_done (by kernel_rfl) ?_
      replace hw := hS; clear hS hNP
      (repeat' (first | (refine is_cw ?_; first | (refine cw_ret ?_)) | (refine is_qw ?_; first | (with_reducible refine qw_then ?_) | (with_reducible refine qw_then_ret ?_) | (with_reducible refine qw_in_ret ?_)))); exact qw_ret2 rfl rfl rfl ⟨⟨F, rfl, fun _ => HF⟩, grow_trans hw0 hw⟩
    · refine act_bs (vs := [.int .i64 (-n2), .int .i64 (n2 - n3)]) (cs := [.int .i64 (-n2), .int .i64 (n2 - n3)]) elemB6 rfl rfl (by omega) (by omega) rfl (by simp [Value.cells]) ?_; intro wb HB hbb; have SB := HB.slR (xs := [-n2, n2 - n3]) encI_len rfl (by simp); (try replace SA := SA.mono hbb); refine ⟨grow_trans hS hbb, fun hS => ?_⟩; clear hbb
      refine aw_act 6 (by kernel_rfl) rfl rfl rfl ?_
      refine act_bs (vs := [.int .i64 n1, .int .i64 x.seller]) (cs := [.int .i64 n1, .int .i64 x.seller]) elemA rfl rfl (by omega) (by omega) rfl (by simp [Value.cells]) ?_; intro wa HA hba; have SA := HA.slR (xs := [n1, x.seller]) encI_len rfl (by simp); (try replace SB := SB.mono hba); refine ⟨grow_trans hS hba, fun hS => ?_⟩; clear hba
      refine aw_act 19 (by kernel_rfl) rfl rfl rfl ?_
      refine act_callv (f := 46) rfl (by kernel_rfl) rfl (row_c (rs := [(n1, -n2), (x.seller, n2 - n3)]) rfl SA SB) ?_; rintro e2 w4 ⟨⟨F, rfl, HF⟩, hb⟩; refine ⟨_, rfl, grow_trans hS hb, fun hS => ?_⟩; clear hb
      (refine at0 20 rfl (fun w' hq => pv_assign rfl) ?_)
      (refine at0 21 rfl (fun w' hq => pv_assign rfl) ?_)
      refine aw_done (by kernel_rfl) ?_
      replace hw := hS; clear hS hNP
      (repeat' (first | (refine is_cw ?_; first | (refine cw_ret ?_)) | (refine is_qw ?_; first | (with_reducible refine qw_then ?_) | (with_reducible refine qw_then_ret ?_) | (with_reducible refine qw_in_ret ?_)))); exact qw_ret2 rfl rfl rfl ⟨⟨F, rfl, fun _ => HF⟩, grow_trans hw0 hw⟩
set_option maxRecDepth 20000 in
set_option maxHeartbeats 8000000 in
theorem deltas13_c {p : List Opn} {t : List Lt} {e : Evt} {ap at_ an ax : Option Addr} {mp mt mn mx cp ct cn cx : Nat} {w : World} (hm : e.nums.length = mn) (hE : mayE e = true) (hv : e.v = 3) (hk : e.kind = 13) (hmp : p.length = mp) (HP : SlR encP 6 w ap cp p) (HN : SlR encI 1 w an cn e.nums) :
    Calls Tryd.prog 24 #[.slice ap mp cp, .slice at_ mt ct, .agg #[.int .u8 e.v, .int .u8 e.kind, .slice an mn cn, .slice ax mx cx]] w fun e1 w' => (∃ F, e1 = .returned (.tuple #[F, .int .i64 (rowsL p t e).1]) ∧ ((rowsL p t e).1 = 0 → RowF w' F (rowsL p t e).2)) ∧ Below w.heap.size w w' := by
  obtain ⟨n0, n1, n2, n3, n4, hn, h2, h3, h4⟩ := lnums13 hE hv hk
  have hmul := mul_in h2 h3
  have hR : rowsL p t e = match findP p n0, findP p n1 with
    | some a, some b => if a.side = b.side then (1, []) else if a.side = 2 then (0, [(b.acct, -(n2 * n3)), (a.acct, n2 * n3 - n4)]) else (0, [(a.acct, -(n2 * n3)), (b.acct, n2 * n3 - n4)])
    | _, _ => (5, []) := by unfold rowsL nthI; rw [if_neg (by omega), if_neg (by omega), if_neg (by omega), if_pos hk, hn]; rfl
  rw [hR, hk, hv]
  clear hR
  obtain rfl : mn = 5 := by rw [← hm, hn]; rfl
  rw [hn] at HN
  obtain ⟨ab, ao, rfl, hab, -⟩ := HN.at (by simp)
  have hx0 : [n0, n1, n2, n3, n4][0]? = some n0 := rfl
  have hx1 : [n0, n1, n2, n3, n4][1]? = some n1 := rfl
  have hx2 : [n0, n1, n2, n3, n4][2]? = some n2 := rfl
  have hx3 : [n0, n1, n2, n3, n4][3]? = some n3 := rfl
  have hx4 : [n0, n1, n2, n3, n4][4]? = some n4 := rfl
  have hw := Below.refl w.heap.size w
  refine fn_enter 150 Tryd.func24 rfl rfl rfl ?_
  refine cw_seq (cw_region ?_)
  refine lw_boxN rfl rfl (cs := [.int .u8 3, .int .u8 13, .slice (some ⟨ab, ao, none⟩) 5 cn, .slice ax mx cx]) rfl ?_; intro N w1 hN H hb
  replace HN := HN.mono hb
  replace HP := HP.mono hb
  have hw0 := hb
  clear hb hw
  have hw := Below.refl w1.heap.size w1
  repeat' (first | (refine lw_pure rfl (pv_move rfl) ?_) | (refine lw_pure rfl (pv_assign rfl) ?_) | (refine is_cw ?_; first | (refine cw_seq ?_) | (refine cw_region ?_) | (refine cw_true rfl rfl ?_) | (refine cw_false rfl rfl ?_) | (refine cw_skip ?_) | (refine cw_block ?_) | (refine cw_exit ?_)) | (refine is_qw ?_; first | (with_reducible refine qw_then ?_) | (with_reducible refine qw_in_hit ?_) | (refine qw_in_miss rfl ?_) | (with_reducible refine qw_then_exit ?_)) | (refine lw_nil ?_) | ((refine is_bin ?_; first | (refine lw_pure rfl (pv_eql rfl rfl) ?_))) | ((refine is_load ?_; first | (refine lw_pure rfl (pv_load (t1 rfl) rfl (by first | exact PT.ld0 (H.mono hw) rfl | exact PT.ld (H.mono hw) rfl | exact SlR.ld (HN.mono hw) hx0 rfl | exact SlR.ld1 (HN.mono hw) hx0 rfl)) ?_))) | ((refine is_fa ?_; first | (refine lw_pure rfl (pv_fa (tF rfl) rfl) ?_))) | ((refine is_ia ?_; first | (refine lw_pure rfl (pv_ia (tS rfl) rfl rfl (by omega)) ?_))))
  refine lw_call (f := 48) (by kernel_rfl) rfl rfl (find_c n0 hmp HP) ?_; rintro e2 w2 ⟨rfl, hb⟩; refine ⟨_, rfl, ?_⟩
  replace hw := grow_trans hw hb
  replace HN := HN.mono hw
  replace HP := HP.mono hw
  replace hw0 := grow_trans hw0 hw
  clear hb hw
  have hw := Below.refl w2.heap.size w2
  repeat' (first | (refine lw_pure rfl (pv_move rfl) ?_) | (refine lw_pure rfl (pv_extract rfl rfl) ?_))
  refine lw_varN rfl (by first | exact tyv_29 | exact tyv_30 | exact tyv_34 | exact tyv_35 | exact tyv_37 | exact tyv_43 | exact tyv_53 | exact tyv_54 | exact tyv_55 | exact tyv_56 | exact tyv_112 | exact tyv_113 | exact tyv_121 | exact tyv_122) rfl (tZ rfl) (fun _ => rfl) rfl rfl ?_; intro N11 w3 hN11 HX hb
  have hN11w : w.heap.size ≤ N11 := Nat.le_trans hw0.size hN11
  replace hw := grow_trans hw hb
  replace HN := HN.mono hw
  replace HP := HP.mono hw
  replace hw0 := grow_trans hw0 hw
  clear hb hw
  have hw := Below.refl w3.heap.size w3
  repeat' (first | (refine lw_pure rfl (pv_move rfl) ?_) | (refine lw_pure rfl (pv_assign rfl) ?_) | (refine is_cw ?_; first | (refine cw_seq ?_) | (refine cw_region ?_)) | (refine is_qw ?_; first | (with_reducible refine qw_then ?_)) | (refine lw_nil ?_) | ((refine is_load ?_; first | (refine lw_pure rfl (pv_load (t1 rfl) rfl (by first | exact SlR.ld (HN.mono hw) hx1 rfl | exact SlR.ld1 (HN.mono hw) hx1 rfl)) ?_))) | ((refine is_ia ?_; first | (refine lw_pure rfl (pv_ia (tS rfl) rfl rfl (by omega)) ?_))))
  refine lw_call (f := 48) (by kernel_rfl) rfl rfl (find_c n1 hmp HP) ?_; rintro e3 w4 ⟨rfl, hb⟩; refine ⟨_, rfl, ?_⟩
  replace hw := grow_trans hw hb
  replace HN := HN.mono hw
  replace HX := HX.mono hw
  replace hw0 := grow_trans hw0 hw
  clear hb hw
  have hw := Below.refl w4.heap.size w4
  repeat' (first | (refine lw_pure rfl (pv_move rfl) ?_) | (refine lw_pure rfl (pv_extract rfl rfl) ?_))
  refine lw_varN rfl (by first | exact tyv_29 | exact tyv_30 | exact tyv_34 | exact tyv_35 | exact tyv_37 | exact tyv_43 | exact tyv_53 | exact tyv_54 | exact tyv_55 | exact tyv_56 | exact tyv_112 | exact tyv_113 | exact tyv_121 | exact tyv_122) rfl (tZ rfl) (fun _ => rfl) rfl rfl ?_; intro N13 w5 hN13 HY hb
  have hN13w : w.heap.size ≤ N13 := Nat.le_trans hw0.size hN13
  have hXY : N11 ≠ N13 := by have := HX.lt; omega
  replace hw := grow_trans hw hb
  replace HN := HN.mono hw
  replace HX := HX.mono hw
  replace hw0 := grow_trans hw0 hw
  clear hb hw
  have hw := Below.refl w5.heap.size w5
  cases hf : findP p n0 with
  | none =>
    repeat' (first | (refine lw_pure rfl (pv_move rfl) ?_) | (refine lw_pure rfl (pv_assign rfl) ?_) | (refine is_cw ?_; first | (refine cw_seq ?_) | (refine cw_region ?_) | (refine cw_true rfl rfl ?_) | (refine cw_block ?_) | (refine cw_exit ?_) | (refine cw_ret ?_)) | (refine is_qw ?_; first | (with_reducible refine qw_then ?_) | (with_reducible refine qw_in_hit ?_) | (with_reducible refine qw_then_exit ?_) | (with_reducible refine qw_then_ret ?_) | (with_reducible refine qw_in_ret ?_)) | (refine lw_nil ?_) | (refine is_guarded ?_; first | (refine lw_not rfl rfl rfl rfl ?_)) | ((refine is_un ?_; first | (refine lw_pure rfl (pv_not rfl) ?_))) | (refine is_pk ?_; refine lw_pure rfl (pv_pick_t rfl rfl rfl) ?_))
    exact qw_ret2 rfl rfl rfl ⟨⟨_, rfl, fun h => by cases h⟩, grow_trans hw0 hw⟩
  | some x =>
    rw [hf] at HX
    replace HX : PT w5 N11 54 (encP x) := HX
    cases hg : findP p n1 with
    | none =>
      repeat' (first | (refine lw_pure rfl (pv_move rfl) ?_) | (refine lw_pure rfl (pv_assign rfl) ?_) | (refine is_cw ?_; first | (refine cw_seq ?_) | (refine cw_region ?_) | (refine cw_true rfl rfl ?_) | (refine cw_block ?_) | (refine cw_exit ?_) | (refine cw_ret ?_)) | (refine is_qw ?_; first | (with_reducible refine qw_then ?_) | (with_reducible refine qw_in_hit ?_) | (with_reducible refine qw_then_exit ?_) | (with_reducible refine qw_then_ret ?_) | (with_reducible refine qw_in_ret ?_)) | (refine lw_nil ?_) | (refine is_guarded ?_; first | (refine lw_on rfl rfl rfl ?_)) | ((refine is_un ?_; first | (refine lw_pure rfl (pv_not rfl) ?_))) | (refine is_pk ?_; refine lw_pure rfl (pv_pick_f rfl rfl rfl) ?_))
      exact qw_ret2 rfl rfl rfl ⟨⟨_, rfl, fun h => by cases h⟩, grow_trans hw0 hw⟩
    | some y =>
      rw [hg] at HY
      replace HY : PT w5 N13 54 (encP y) := HY
      dsimp only
      by_cases hs : x.side = y.side
      · rw [if_pos hs]
        repeat' (first | (refine lw_pure rfl (pv_move rfl) ?_) | (refine lw_pure rfl (pv_assign rfl) ?_) | (refine is_cw ?_; first | (refine cw_seq ?_) | (refine cw_region ?_) | (refine cw_false rfl rfl ?_) | (refine is_cd ?_; refine cw_true rfl (by first | assumption | exact decide_eq_true (by omega) | exact dec_notT (by omega)) ?_) | (refine cw_skip ?_) | (refine cw_block ?_) | (refine cw_exit ?_) | (refine cw_ret ?_)) | (refine is_qw ?_; first | (with_reducible refine qw_then ?_) | (with_reducible refine qw_in_hit ?_) | (refine qw_in_miss rfl ?_) | (with_reducible refine qw_then_exit ?_) | (with_reducible refine qw_then_ret ?_) | (with_reducible refine qw_in_ret ?_)) | (refine lw_nil ?_) | (refine is_guarded ?_; first | (refine lw_on rfl rfl rfl ?_)) | ((refine is_bin ?_; first | (refine lw_pure rfl (pv_eql rfl rfl) ?_))) | ((refine is_load ?_; first | (refine lw_pure rfl (pv_load (t1 rfl) rfl (by first | exact PT.ld0 (HX.mono hw) rfl | exact PT.ld (HX.mono hw) rfl | exact PT.ld0 (HY.mono hw) rfl | exact PT.ld (HY.mono hw) rfl)) ?_))) | ((refine is_fa ?_; first | (refine lw_pure rfl (pv_fa (tF rfl) rfl) ?_))) | ((refine is_un ?_; first | (refine lw_pure rfl (pv_not rfl) ?_))) | (refine is_pk ?_; refine lw_pure rfl (pv_pick_f rfl rfl rfl) ?_))
        exact qw_ret2 rfl rfl rfl ⟨⟨_, rfl, fun h => by cases h⟩, grow_trans hw0 hw⟩
      · rw [if_neg hs]
        by_cases h2s : x.side = 2
        · rw [if_pos h2s]
          repeat' (first | (refine lw_pure rfl (pv_move rfl) ?_) | (refine lw_pure rfl (pv_assign rfl) ?_) | (refine is_cw ?_; first | (refine cw_seq ?_) | (refine cw_region ?_) | (refine cw_false rfl rfl ?_) | (refine is_cd ?_; refine cw_true rfl (by first | assumption | exact decide_eq_true (by omega) | exact dec_notT (by omega)) ?_) | (refine is_cd ?_; refine cw_false rfl (by first | assumption | exact decide_eq_false (by omega) | exact dec_notF (by omega)) ?_) | (refine cw_skip ?_) | (refine cw_block ?_) | (refine cw_exit ?_)) | (refine is_qw ?_; first | (with_reducible refine qw_then ?_) | (with_reducible refine qw_in_hit ?_) | (refine qw_in_miss rfl ?_) | (with_reducible refine qw_then_exit ?_)) | (refine lw_nil ?_) | (refine is_guarded ?_; first | (refine lw_on rfl rfl rfl ?_)) | ((refine is_bin ?_; first | (refine lw_pure rfl (pv_eql rfl rfl) ?_))) | ((refine is_load ?_; first | (refine lw_pure rfl (pv_load (t1 rfl) rfl (by first | exact PT.ld0 (HX.mono hw) rfl | exact PT.ld (HX.mono hw) rfl | exact PT.ld0 (HY.mono hw) rfl | exact PT.ld (HY.mono hw) rfl)) ?_) | (refine lw_pure rfl (pv_loada (tA rfl) rfl (by first | exact PT.lda (HX.mono hw) | exact PT.lda (HY.mono hw)) (by rfl)) ?_))) | ((refine is_fa ?_; first | (refine lw_pure rfl (pv_fa (tF rfl) rfl) ?_))) | ((refine is_un ?_; first | (refine lw_pure rfl (pv_not rfl) ?_))) | (refine is_pk ?_; refine lw_pure rfl (pv_pick_f rfl rfl rfl) ?_))
          refine lw_storea (vs := encP y) HX (tZ rfl) rfl rfl rfl rfl (encP_one _) ?_; intro w6 HX6 hg6 hz6
          replace HY : PT w6 N13 54 (encP y) := (hg6.block N13 HY.lt (fun e => hXY (Option.some.inj e).symm)).trans HY
          replace HN := HN.grown hg6 (by intro ad h; injection h with h; subst h; show some ab ≠ some _; intro e; injection e with e; omega)
          replace hw0 := hw0.grown hg6 hw0.size (by intro q hq; injection hq with hq; omega)
          clear hw
          have hw := Below.refl w6.heap.size w6
          refine lw_storea (vs := encP x) HY (tZ rfl) rfl rfl rfl rfl (encP_one _) ?_; intro w7 HY7 hg7 hz7
          have HX7 : PT w7 N11 54 (encP y) := (hg7.block N11 HX6.lt (fun e => hXY (Option.some.inj e))).trans HX6
          replace HN := HN.grown hg7 (by intro ad h; injection h with h; subst h; show some ab ≠ some _; intro e; injection e with e; omega)
          replace hw0 := hw0.grown hg7 hw0.size (by intro q hq; injection hq with hq; omega)
          clear hw
          have hw := Below.refl w7.heap.size w7
          repeat' (first | (refine is_cw ?_; first | (refine cw_seq ?_)) | (refine is_qw ?_; first | (with_reducible refine qw_then ?_) | (with_reducible refine qw_in ?_)) | (refine lw_nil ?_))
          refine cw_drawn (fun w' => Below w7.heap.size w7 w') (by kernel_rfl) (by repeat (first | exact NoPanic.body | with_reducible refine NoPanic.then ?_ | with_reducible refine NoPanic.inBlock ?_)) (fun hNP => ?_)
          have hS := hw.drew
          (refine at0 0 rfl (fun w' hq => pv_move rfl) ?_)
          (refine at0 1 rfl (fun w' hq => pv_ia (tS rfl) rfl rfl (by omega)) ?_)
          (refine at0 2 rfl (fun w' hq => pv_load (t1 rfl) rfl (by first | exact SlR.ld (HN.mono hq) hx2 rfl | exact SlR.ld1 (HN.mono hq) hx2 rfl | exact SlR.ld (HN.mono hq) hx3 rfl | exact SlR.ld1 (HN.mono hq) hx3 rfl)) ?_)
          (refine at0 3 rfl (fun w' hq => pv_move rfl) ?_)
          (refine at0 4 rfl (fun w' hq => pv_ia (tS rfl) rfl rfl (by omega)) ?_)
          (refine at0 5 rfl (fun w' hq => pv_load (t1 rfl) rfl (by first | exact SlR.ld (HN.mono hq) hx2 rfl | exact SlR.ld1 (HN.mono hq) hx2 rfl | exact SlR.ld (HN.mono hq) hx3 rfl | exact SlR.ld1 (HN.mono hq) hx3 rfl)) ?_)
          (refine at0 6 rfl (fun w' hq => pv_mul rfl rfl (by omega)) ?_)
          (refine at0 7 rfl (fun w' hq => pv_assign rfl) ?_)
          refine aw_done (by kernel_rfl) ?_
          replace hw := hS; clear hS hNP
          repeat' (first | (refine is_cw ?_; first | (refine cw_seq ?_)) | (refine is_qw ?_; first | (with_reducible refine qw_then ?_)))
          refine cw_drawn (fun w' => Below w7.heap.size w7 w') (by kernel_rfl) (by repeat (first | exact NoPanic.body | with_reducible refine NoPanic.then ?_ | with_reducible refine NoPanic.inBlock ?_)) (fun hNP => ?_)
          have hS := hw.drew
          (refine at0 0 rfl (fun w' hq => pv_move rfl) ?_)
          (refine at0 1 rfl (fun w' hq => pv_fa (tF rfl) rfl) ?_)
          (refine at0 2 rfl (fun w' hq => pv_load (t1 rfl) rfl (by first | exact PT.ld0 (HX7.mono hq) rfl | exact PT.ld (HX7.mono hq) rfl | exact PT.ld0 (HY7.mono hq) rfl | exact PT.ld (HY7.mono hq) rfl | exact SlR.ld (HN.mono hq) hx4 rfl | exact SlR.ld1 (HN.mono hq) hx4 rfl)) ?_)
          (refine at0 3 rfl (fun w' hq => pv_fa (tF rfl) rfl) ?_)
          (refine at0 4 rfl (fun w' hq => pv_load (t1 rfl) rfl (by first | exact PT.ld0 (HX7.mono hq) rfl | exact PT.ld (HX7.mono hq) rfl | exact PT.ld0 (HY7.mono hq) rfl | exact PT.ld (HY7.mono hq) rfl | exact SlR.ld (HN.mono hq) hx4 rfl | exact SlR.ld1 (HN.mono hq) hx4 rfl)) ?_)
          (refine at0 6 rfl (fun w' hq => pv_move rfl) ?_)
          (refine at0 7 rfl (fun w' hq => pv_neg rfl (by omega)) ?_)
          (refine at0 8 rfl (fun w' hq => pv_move rfl) ?_)
          (refine at0 9 rfl (fun w' hq => pv_move rfl) ?_)
          (refine at0 10 rfl (fun w' hq => pv_ia (tS rfl) rfl rfl (by omega)) ?_)
          (refine at0 11 rfl (fun w' hq => pv_load (t1 rfl) rfl (by first | exact PT.ld0 (HX7.mono hq) rfl | exact PT.ld (HX7.mono hq) rfl | exact PT.ld0 (HY7.mono hq) rfl | exact PT.ld (HY7.mono hq) rfl | exact SlR.ld (HN.mono hq) hx4 rfl | exact SlR.ld1 (HN.mono hq) hx4 rfl)) ?_)
          (refine at0 12 rfl (fun w' hq => pv_sub rfl rfl (by omega)) ?_)
          refine aw_act2 5 13 (by kernel_rfl) rfl rfl rfl rfl rfl rfl ?_ ?_
          · refine act_bs (vs := [.int .i64 y.acct, .int .i64 x.acct]) (cs := [.int .i64 y.acct, .int .i64 x.acct]) elemA rfl rfl (by omega) (by omega) rfl (by simp [Value.cells]) ?_; intro wa HA hba; have SA := HA.slR (xs := [y.acct, x.acct]) encI_len rfl (by simp); (try replace SB := SB.mono hba); refine ⟨grow_trans hS hba, fun hS => ?_⟩; clear hba
            refine aw_act 13 (by kernel_rfl) rfl rfl rfl ?_
            refine act_bs (vs := [.int .i64 (-(n2 * n3)), .int .i64 (n2 * n3 - n4)]) (cs := [.int .i64 (-(n2 * n3)), .int .i64 (n2 * n3 - n4)]) elemB6 rfl rfl (by omega) (by omega) rfl (by simp [Value.cells]) ?_; intro wb HB hbb; have SB := HB.slR (xs := [-(n2 * n3), n2 * n3 - n4]) encI_len rfl (by simp); (try replace SA := SA.mono hbb); refine ⟨grow_trans hS hbb, fun hS => ?_⟩; clear hbb
            refine aw_act 14 (by kernel_rfl) rfl rfl rfl ?_
            refine act_callv (f := 46) rfl (by kernel_rfl) rfl (row_c (rs := [(y.acct, -(n2 * n3)), (x.acct, n2 * n3 - n4)]) rfl SA SB) ?_; rintro e2 w4 ⟨⟨F, rfl, HF⟩, hb⟩; refine ⟨_, rfl, grow_trans hS hb, fun hS => ?_⟩; clear hb
            (refine at0 15 rfl (fun w' hq => pv_assign rfl) ?_)
            (refine at0 16 rfl (fun w' hq => pv_assign rfl) ?_)
            refine aw_done (by kernel_rfl) ?_
            replace hw := hS; clear hS hNP
            (repeat' (first | (refine is_cw ?_; first | (refine cw_ret ?_)) | (refine is_qw ?_; first | (with_reducible refine qw_then ?_) | (with_reducible refine qw_then_ret ?_) | (with_reducible refine qw_in_ret ?_)))); exact qw_ret2 rfl rfl rfl ⟨⟨F, rfl, fun _ => HF⟩, grow_trans hw0 hw⟩
          · refine act_bs (vs := [.int .i64 (-(n2 * n3)), .int .i64 (n2 * n3 - n4)]) (cs := [.int .i64 (-(n2 * n3)), .int .i64 (n2 * n3 - n4)]) elemB6 rfl rfl (by omega) (by omega) rfl (by simp [Value.cells]) ?_; intro wb HB hbb; have SB := HB.slR (xs := [-(n2 * n3), n2 * n3 - n4]) encI_len rfl (by simp); (try replace SA := SA.mono hbb); refine ⟨grow_trans hS hbb, fun hS => ?_⟩; clear hbb
            refine aw_act 5 (by kernel_rfl) rfl rfl rfl ?_
            refine act_bs (vs := [.int .i64 y.acct, .int .i64 x.acct]) (cs := [.int .i64 y.acct, .int .i64 x.acct]) elemA rfl rfl (by omega) (by omega) rfl (by simp [Value.cells]) ?_; intro wa HA hba; have SA := HA.slR (xs := [y.acct, x.acct]) encI_len rfl (by simp); (try replace SB := SB.mono hba); refine ⟨grow_trans hS hba, fun hS => ?_⟩; clear hba
            refine aw_act 14 (by kernel_rfl) rfl rfl rfl ?_
            refine act_callv (f := 46) rfl (by kernel_rfl) rfl (row_c (rs := [(y.acct, -(n2 * n3)), (x.acct, n2 * n3 - n4)]) rfl SA SB) ?_; rintro e2 w4 ⟨⟨F, rfl, HF⟩, hb⟩; refine ⟨_, rfl, grow_trans hS hb, fun hS => ?_⟩; clear hb
            (refine at0 15 rfl (fun w' hq => pv_assign rfl) ?_)
            (refine at0 16 rfl (fun w' hq => pv_assign rfl) ?_)
            refine aw_done (by kernel_rfl) ?_
            replace hw := hS; clear hS hNP
            (repeat' (first | (refine is_cw ?_; first | (refine cw_ret ?_)) | (refine is_qw ?_; first | (with_reducible refine qw_then ?_) | (with_reducible refine qw_then_ret ?_) | (with_reducible refine qw_in_ret ?_)))); exact qw_ret2 rfl rfl rfl ⟨⟨F, rfl, fun _ => HF⟩, grow_trans hw0 hw⟩
        · rw [if_neg h2s]
          repeat' (first | (refine lw_pure rfl (pv_move rfl) ?_) | (refine lw_pure rfl (pv_assign rfl) ?_) | (refine is_cw ?_; first | (refine cw_seq ?_) | (refine cw_region ?_) | (refine cw_false rfl rfl ?_) | (refine is_cd ?_; refine cw_false rfl (by first | assumption | exact decide_eq_false (by omega) | exact dec_notF (by omega)) ?_) | (refine cw_skip ?_) | (refine cw_block ?_) | (refine cw_exit ?_)) | (refine is_qw ?_; first | (with_reducible refine qw_then ?_) | (with_reducible refine qw_in_hit ?_) | (refine qw_in_miss rfl ?_) | (with_reducible refine qw_then_exit ?_)) | (refine lw_nil ?_) | (refine is_guarded ?_; first | (refine lw_on rfl rfl rfl ?_)) | ((refine is_bin ?_; first | (refine lw_pure rfl (pv_eql rfl rfl) ?_))) | ((refine is_load ?_; first | (refine lw_pure rfl (pv_load (t1 rfl) rfl (by first | exact PT.ld0 (HX.mono hw) rfl | exact PT.ld (HX.mono hw) rfl | exact PT.ld0 (HY.mono hw) rfl | exact PT.ld (HY.mono hw) rfl)) ?_))) | ((refine is_fa ?_; first | (refine lw_pure rfl (pv_fa (tF rfl) rfl) ?_))) | ((refine is_un ?_; first | (refine lw_pure rfl (pv_not rfl) ?_))) | (refine is_pk ?_; refine lw_pure rfl (pv_pick_f rfl rfl rfl) ?_))
          refine cw_drawn (fun w' => Below w5.heap.size w5 w') (by kernel_rfl) (by repeat (first | exact NoPanic.body | with_reducible refine NoPanic.then ?_ | with_reducible refine NoPanic.inBlock ?_)) (fun hNP => ?_)
          have hS := hw.drew
          (refine at0 0 rfl (fun w' hq => pv_move rfl) ?_)
          (refine at0 1 rfl (fun w' hq => pv_ia (tS rfl) rfl rfl (by omega)) ?_)
          (refine at0 2 rfl (fun w' hq => pv_load (t1 rfl) rfl (by first | exact SlR.ld (HN.mono hq) hx2 rfl | exact SlR.ld1 (HN.mono hq) hx2 rfl | exact SlR.ld (HN.mono hq) hx3 rfl | exact SlR.ld1 (HN.mono hq) hx3 rfl)) ?_)
          (refine at0 3 rfl (fun w' hq => pv_move rfl) ?_)
          (refine at0 4 rfl (fun w' hq => pv_ia (tS rfl) rfl rfl (by omega)) ?_)
          (refine at0 5 rfl (fun w' hq => pv_load (t1 rfl) rfl (by first | exact SlR.ld (HN.mono hq) hx2 rfl | exact SlR.ld1 (HN.mono hq) hx2 rfl | exact SlR.ld (HN.mono hq) hx3 rfl | exact SlR.ld1 (HN.mono hq) hx3 rfl)) ?_)
          (refine at0 6 rfl (fun w' hq => pv_mul rfl rfl (by omega)) ?_)
          (refine at0 7 rfl (fun w' hq => pv_assign rfl) ?_)
          refine aw_done (by kernel_rfl) ?_
          replace hw := hS; clear hS hNP
          repeat' (first | (refine is_cw ?_; first | (refine cw_seq ?_)) | (refine is_qw ?_; first | (with_reducible refine qw_then ?_)))
          refine cw_drawn (fun w' => Below w5.heap.size w5 w') (by kernel_rfl) (by repeat (first | exact NoPanic.body | with_reducible refine NoPanic.then ?_ | with_reducible refine NoPanic.inBlock ?_)) (fun hNP => ?_)
          have hS := hw.drew
          (refine at0 0 rfl (fun w' hq => pv_move rfl) ?_)
          (refine at0 1 rfl (fun w' hq => pv_fa (tF rfl) rfl) ?_)
          (refine at0 2 rfl (fun w' hq => pv_load (t1 rfl) rfl (by first | exact PT.ld0 (HX.mono hq) rfl | exact PT.ld (HX.mono hq) rfl | exact PT.ld0 (HY.mono hq) rfl | exact PT.ld (HY.mono hq) rfl | exact SlR.ld (HN.mono hq) hx4 rfl | exact SlR.ld1 (HN.mono hq) hx4 rfl)) ?_)
          (refine at0 3 rfl (fun w' hq => pv_fa (tF rfl) rfl) ?_)
          (refine at0 4 rfl (fun w' hq => pv_load (t1 rfl) rfl (by first | exact PT.ld0 (HX.mono hq) rfl | exact PT.ld (HX.mono hq) rfl | exact PT.ld0 (HY.mono hq) rfl | exact PT.ld (HY.mono hq) rfl | exact SlR.ld (HN.mono hq) hx4 rfl | exact SlR.ld1 (HN.mono hq) hx4 rfl)) ?_)
          (refine at0 6 rfl (fun w' hq => pv_move rfl) ?_)
          (refine at0 7 rfl (fun w' hq => pv_neg rfl (by omega)) ?_)
          (refine at0 8 rfl (fun w' hq => pv_move rfl) ?_)
          (refine at0 9 rfl (fun w' hq => pv_move rfl) ?_)
          (refine at0 10 rfl (fun w' hq => pv_ia (tS rfl) rfl rfl (by omega)) ?_)
          (refine at0 11 rfl (fun w' hq => pv_load (t1 rfl) rfl (by first | exact PT.ld0 (HX.mono hq) rfl | exact PT.ld (HX.mono hq) rfl | exact PT.ld0 (HY.mono hq) rfl | exact PT.ld (HY.mono hq) rfl | exact SlR.ld (HN.mono hq) hx4 rfl | exact SlR.ld1 (HN.mono hq) hx4 rfl)) ?_)
          (refine at0 12 rfl (fun w' hq => pv_sub rfl rfl (by omega)) ?_)
          refine aw_act2 5 13 (by kernel_rfl) rfl rfl rfl rfl rfl rfl ?_ ?_
          · refine act_bs (vs := [.int .i64 x.acct, .int .i64 y.acct]) (cs := [.int .i64 x.acct, .int .i64 y.acct]) elemA rfl rfl (by omega) (by omega) rfl (by simp [Value.cells]) ?_; intro wa HA hba; have SA := HA.slR (xs := [x.acct, y.acct]) encI_len rfl (by simp); (try replace SB := SB.mono hba); refine ⟨grow_trans hS hba, fun hS => ?_⟩; clear hba
            refine aw_act 13 (by kernel_rfl) rfl rfl rfl ?_
            refine act_bs (vs := [.int .i64 (-(n2 * n3)), .int .i64 (n2 * n3 - n4)]) (cs := [.int .i64 (-(n2 * n3)), .int .i64 (n2 * n3 - n4)]) elemB6 rfl rfl (by omega) (by omega) rfl (by simp [Value.cells]) ?_; intro wb HB hbb; have SB := HB.slR (xs := [-(n2 * n3), n2 * n3 - n4]) encI_len rfl (by simp); (try replace SA := SA.mono hbb); refine ⟨grow_trans hS hbb, fun hS => ?_⟩; clear hbb
            refine aw_act 14 (by kernel_rfl) rfl rfl rfl ?_
            refine act_callv (f := 46) rfl (by kernel_rfl) rfl (row_c (rs := [(x.acct, -(n2 * n3)), (y.acct, n2 * n3 - n4)]) rfl SA SB) ?_; rintro e2 w4 ⟨⟨F, rfl, HF⟩, hb⟩; refine ⟨_, rfl, grow_trans hS hb, fun hS => ?_⟩; clear hb
            (refine at0 15 rfl (fun w' hq => pv_assign rfl) ?_)
            (refine at0 16 rfl (fun w' hq => pv_assign rfl) ?_)
            refine aw_done (by kernel_rfl) ?_
            replace hw := hS; clear hS hNP
            (repeat' (first | (refine is_cw ?_; first | (refine cw_ret ?_)) | (refine is_qw ?_; first | (with_reducible refine qw_then ?_) | (with_reducible refine qw_then_ret ?_) | (with_reducible refine qw_in_ret ?_)))); exact qw_ret2 rfl rfl rfl ⟨⟨F, rfl, fun _ => HF⟩, grow_trans hw0 hw⟩
          · refine act_bs (vs := [.int .i64 (-(n2 * n3)), .int .i64 (n2 * n3 - n4)]) (cs := [.int .i64 (-(n2 * n3)), .int .i64 (n2 * n3 - n4)]) elemB6 rfl rfl (by omega) (by omega) rfl (by simp [Value.cells]) ?_; intro wb HB hbb; have SB := HB.slR (xs := [-(n2 * n3), n2 * n3 - n4]) encI_len rfl (by simp); (try replace SA := SA.mono hbb); refine ⟨grow_trans hS hbb, fun hS => ?_⟩; clear hbb
            refine aw_act 5 (by kernel_rfl) rfl rfl rfl ?_
            refine act_bs (vs := [.int .i64 x.acct, .int .i64 y.acct]) (cs := [.int .i64 x.acct, .int .i64 y.acct]) elemA rfl rfl (by omega) (by omega) rfl (by simp [Value.cells]) ?_; intro wa HA hba; have SA := HA.slR (xs := [x.acct, y.acct]) encI_len rfl (by simp); (try replace SB := SB.mono hba); refine ⟨grow_trans hS hba, fun hS => ?_⟩; clear hba
            refine aw_act 14 (by kernel_rfl) rfl rfl rfl ?_
            refine act_callv (f := 46) rfl (by kernel_rfl) rfl (row_c (rs := [(x.acct, -(n2 * n3)), (y.acct, n2 * n3 - n4)]) rfl SA SB) ?_; rintro e2 w4 ⟨⟨F, rfl, HF⟩, hb⟩; refine ⟨_, rfl, grow_trans hS hb, fun hS => ?_⟩; clear hb
            (refine at0 15 rfl (fun w' hq => pv_assign rfl) ?_)
            (refine at0 16 rfl (fun w' hq => pv_assign rfl) ?_)
            refine aw_done (by kernel_rfl) ?_
            replace hw := hS; clear hS hNP
            (repeat' (first | (refine is_cw ?_; first | (refine cw_ret ?_)) | (refine is_qw ?_; first | (with_reducible refine qw_then ?_) | (with_reducible refine qw_then_ret ?_) | (with_reducible refine qw_in_ret ?_)))); exact qw_ret2 rfl rfl rfl ⟨⟨F, rfl, fun _ => HF⟩, grow_trans hw0 hw⟩
set_option maxHeartbeats 1000000 in
theorem deltas_c {p : List Opn} {t : List Lt} {e : Evt} {ap at_ an ax : Option Addr} {mp mt mn mx cp ct cn cx : Nat} {w : World} (hm : e.nums.length = mn) (hE : mayE e = true) (hv : e.v = 3) (hmp : p.length = mp) (hmt : t.length = mt) (HP : SlR encP 6 w ap cp p) (HL : SlR encL 4 w at_ ct t) (HN : SlR encI 1 w an cn e.nums) :
    Calls Tryd.prog 24 #[.slice ap mp cp, .slice at_ mt ct, .agg #[.int .u8 e.v, .int .u8 e.kind, .slice an mn cn, .slice ax mx cx]] w fun e1 w' => (∃ F, e1 = .returned (.tuple #[F, .int .i64 (rowsL p t e).1]) ∧ ((rowsL p t e).1 = 0 → RowF w' F (rowsL p t e).2)) ∧ Below w.heap.size w w' := by
  by_cases k6 : e.kind = 6
  · exact deltas6_c hm hE hv k6 HN
  by_cases k7 : e.kind = 7
  · exact deltas7_c hm hE hv k7 HN
  by_cases k21 : e.kind = 21
  · exact deltas21_c hm hE hv k21 HN
  by_cases k13 : e.kind = 13
  · exact deltas13_c hm hE hv k13 hmp HP HN
  by_cases k18 : e.kind = 18
  · exact deltas18_c hm hE hv k18 hmt HL HN
  exact deltasN_c hv (decide_eq_false (by omega))
end Go.Proofs.YtnffmbfdfhokeaaDoor
namespace Go.Proofs.YtnffmbfdfhokeaaDoor.R
open Go.RowKit Go.PlainAid

theorem bal_none {xs : List Ln} {a : Int} (h : ∀ x ∈ xs, x.acct ≠ a) : balL xs a = 0 := by
  have key : ∀ (l : List Ln) (b : Int), (∀ x ∈ l, x.acct ≠ a) → l.foldl (fun b x => if x.acct = a then x.bal else b) b = b := by
    intro l
    induction l with
    | nil => intro b _; rfl
    | cons x r ih =>
      intro b hx
      rw [List.foldl_cons, if_neg (hx x List.mem_cons_self)]
      exact ih b fun y hy => hx y (List.mem_cons_of_mem _ hy)
  exact key xs 0 h
theorem bal_hit {p q : List Ln} {x : Ln} {a : Int} (h : ∀ y ∈ q, y.acct ≠ a) (hx : x.acct = a) : balL (p ++ x :: q) a = x.bal := by
  have key : ∀ (l : List Ln) (b : Int), (∀ x ∈ l, x.acct ≠ a) → l.foldl (fun b x => if x.acct = a then x.bal else b) b = b := by
    intro l
    induction l with
    | nil => intro b _; rfl
    | cons x r ih =>
      intro b hx
      rw [List.foldl_cons, if_neg (hx x List.mem_cons_self)]
      exact ih b fun y hy => hx y (List.mem_cons_of_mem _ hy)
  unfold balL
  rw [List.foldl_append, List.foldl_cons, if_pos hx]
  exact key q _ h
theorem zv64 (w : World) : (zeroValue 2).run Tryd.prog w = .ok (.int .i64 0) w := by kernel_rfl
theorem zvLn (w : World) : (zeroValue 30).run Tryd.prog w = .ok (.agg #[.int .i64 0, .int .i64 0, .int .u8 0, .int .i64 0, .int .i64 0]) w := by kernel_rfl
def BalI (w : World) (N3 N4 : Nat) (acct : Int) (pre : List (Int × Ln)) (W : World) : Prop := (Below w.heap.size w W ∧ PT W N3 3 [.int .i64 acct] ∧ PT W N4 2 [.int .i64 0]) ∧ ∀ q ∈ pre, q.2.acct ≠ acct
def BalX (w : World) (N4 : Nat) (acct : Int) (c : Code) (pre : List (Int × Ln)) (W : World) : Prop := ∃ p x, c = .ret ∧ pre = p ++ [x] ∧ (∀ q ∈ p, q.2.acct ≠ acct) ∧ x.2.acct = acct ∧ Below w.heap.size w W ∧ PT W N4 2 [.int .i64 x.2.bal]
theorem qw_as {n : Nat} {l : Fr} {w : World} {σ : Type} {B : Nat} {Kp : World → World → Prop} {J : World → Prop} {LB : σ → Fr} {F : σ → World → Prop} {W : World} (y : σ) (h0 : Sub (LB y) l) (hF : F y w) (h1 : KeepsFrom B W w) (h2 : Kp W w) (h3 : J w) : QW n (lift [] (Exit.then (fun a' W' => ∃ y, Holds n (LB y) a' ∧ F y W' ∧ KeepsFrom B W W' ∧ Kp W W' ∧ J W') (fun _ _ _ => False))) .normal l w :=
  qw_assign (LB := fun (_ : Unit) => LB) (F := fun _ => F) (I := fun (_ : List Unit) => J) (x := ()) (pre := []) y h0 hF h1 h2 h3
theorem qw_round1 {n : Nat} {l : Fr} {w : World} {α : Type} {B : Nat} {Kp : World → World → Prop} {I : List α → World → Prop} {Ix : Code → List α → World → Prop} {xs : List α} {W : World} (h1 : KeepsFrom B W w) (h2 : Kp W w) (h3 : I xs w) : QW n (lift [] (ownPostG B Kp I Ix xs W)) .normal l w := ⟨fun _ _ => ⟨h1, h2, h3⟩⟩
theorem qw_leave {n : Nat} {l : Fr} {w : World} {α : Type} {B : Nat} {Kp : World → World → Prop} {I : List α → World → Prop} {Ix : Code → List α → World → Prop} {xs : List α} {W : World} (h1 : KeepsFrom B W w) (h3 : Ix .ret xs w) : QW n (lift [] (ownPostG B Kp I Ix xs W)) .ret l w := ⟨fun _ _ => ⟨h1, h3⟩⟩
theorem put_keep {w W : World} {D : Nat} (hw : w.heap.size ≤ D) (hW : W.heap[D]? = some (.deferred (some []))) (hB : Below w.heap.size w W) {N : Nat} {T : TypeId} {cs : List Value} (hN : N ≠ D) (h : PT W N T cs) : Below w.heap.size w (W.putObj D (.deferred none)) ∧ PT (W.putObj D (.deferred none)) N T cs := by
  have hb := belowK_b (n₀ := w.heap.size) (w := w) (Nat.le_refl _) W D _ (.deferred none) hw hW rfl rfl
  refine ⟨hB.trans hb, ?_⟩
  have hg := grownBy_putObj' W D (.deferred none)
  exact (hg.block N h.lt (fun e => hN (by cases e; rfl))).trans h
set_option maxRecDepth 20000 in
theorem balance_c {xs : List Ln} {m c : Nat} {a : Option Addr} {w : World} (acct : Int) (hm : xs.length = m) (HS : SlR encN 5 w a c xs) : Calls Tryd.prog 19 #[.slice a m c, .int .i64 acct] w fun e w' => e = .returned (.int .i64 (balL xs acct)) ∧ Below w.heap.size w w' := by
  have hw := Below.refl w.heap.size w
  refine calls_of_fr (r := none) (n := 2) ?_
  show CallsIn (fr none) 2 Tryd.prog _ [Value.slice a m c, .int .i64 acct].toArray w _
  refine R.fn_enter _ 17 Tryd.func19 rfl rfl rfl ?_
  refine cw_seq (cw_region ?_)
  refine lw_boxN rfl rfl (cs := [.int .i64 acct]) rfl ?_; intro N3 w3 hN3 H3 hb; replace hw := grow_trans hw hb; clear hb
  refine lw_allocN rfl zv64 rfl ?_; intro N4 w4 hN4 H4 hb
  have h34 := H3.lt
  replace H3 := H3.mono hb
  replace hw := grow_trans hw hb
  clear hb
  repeat' (first | (refine lw_pure rfl (pv_move rfl) ?_) | (refine lw_pure rfl (pv_assign rfl) ?_) | (refine is_cw ?_; first | (refine cw_seq ?_) | (refine cw_region ?_) | (refine cw_true rfl rfl ?_) | (refine cw_false rfl rfl ?_) | (refine is_cd ?_; refine cw_true rfl (by first | assumption | exact decide_eq_true (by omega) | exact dec_notT (by omega)) ?_) | (refine is_cd ?_; refine cw_false rfl (by first | assumption | exact decide_eq_false (by omega) | exact dec_notF (by omega)) ?_) | (refine cw_skip ?_) | (refine cw_block ?_) | (refine cw_ret ?_)) | (refine is_qw ?_; first | (with_reducible refine qw_then ?_) | (with_reducible refine qw_in ?_) | (with_reducible refine qw_in_hit ?_) | (refine qw_in_miss rfl ?_) | (with_reducible refine qw_then_exit ?_) | (with_reducible refine qw_then_ret ?_) | (with_reducible refine qw_in_ret ?_)) | (refine lw_nil ?_) | ((refine is_bin ?_; first | (refine lw_pure rfl (pv_eql rfl rfl) ?_))) | ((refine is_load ?_; first | (refine lw_pure rfl (pv_load (t1 rfl) rfl (by first | fail)) ?_) | (refine lw_pure rfl (pv_loada (tA rfl) rfl (by first | fail) (by rfl)) ?_))) | ((refine is_fa ?_; first | (refine lw_pure rfl (pv_fa (tF rfl) rfl) ?_))))
  refine lw_call (f := 32) (by kernel_rfl) rfl rfl (backward_c a m c _) ?_; rintro e w5 ⟨⟨B, rfl, HB⟩, hb⟩; refine ⟨_, rfl, ?_⟩
  replace H3 := H3.mono hb
  replace H4 := H4.mono hb
  have h4l := H4.lt
  replace hw := grow_trans hw hb
  have hb5 := hb
  clear hb
  repeat' ((fail_if_success (refine is_seqb ?_)); (fail_if_success (refine is_blk ?_)); first | (refine lw_pure rfl (pv_move rfl) ?_) | (refine lw_pure rfl (pv_assign rfl) ?_) | (refine is_cw ?_; first | (refine cw_seq ?_) | (refine cw_region ?_) | (refine cw_true rfl rfl ?_) | (refine cw_false rfl rfl ?_) | (refine is_cd ?_; refine cw_true rfl (by first | assumption | exact decide_eq_true (by omega) | exact dec_notT (by omega)) ?_) | (refine is_cd ?_; refine cw_false rfl (by first | assumption | exact decide_eq_false (by omega) | exact dec_notF (by omega)) ?_) | (refine cw_skip ?_) | (refine cw_block ?_) | (refine cw_ret ?_)) | (refine is_qw ?_; first | (with_reducible refine qw_then ?_) | (with_reducible refine qw_in ?_) | (with_reducible refine qw_in_hit ?_) | (refine qw_in_miss rfl ?_) | (with_reducible refine qw_then_exit ?_) | (with_reducible refine qw_then_ret ?_) | (with_reducible refine qw_in_ret ?_)) | (refine lw_nil ?_) | ((refine is_bin ?_; first | (refine lw_pure rfl (pv_eql rfl rfl) ?_))) | ((refine is_load ?_; first | (refine lw_pure rfl (pv_load (t1 rfl) rfl (by first | fail)) ?_) | (refine lw_pure rfl (pv_loada (tA rfl) rfl (by first | fail) (by rfl)) ?_))) | ((refine is_fa ?_; first | (refine lw_pure rfl (pv_fa (tF rfl) rfl) ?_))))
  refine cw_block ?_
  have hne : N3 ≠ N4 := by omega
  refine cw_range (k := 0) (σ := Nat) (ps := [9, 10]) (encs := encX) rfl (by kernel_rfl) (back_stops hm HB (HS.mono hw)) (fun h k => h.trans k) (belowK_b (Nat.le_refl _)) (Below.refl _ _) (fun _ => rfl) (by intro p hp; simp at hp; rcases hp with rfl | rfl <;> rfl)
    (BalI w5 N3 N4 acct) (BalX w N4 acct) ?_ ?_ ⟨⟨Below.refl _ _, H3, H4⟩, by simp⟩ (fun x y => [(3, .pointer (some ⟨N3, 0, none⟩)), (4, .pointer (some ⟨N4, 0, none⟩)), (6, .pointer (some ⟨y, 0, none⟩))]) (fun x y W => PT W y 30 (encN x.2)) (fun x y _ A C row h hg hr => pt_from h hg hr) ?_ ?_ ?_ ?_
  · rintro s A C row ⟨⟨h1, h2, h3⟩, h4⟩ hg hr
    exact ⟨⟨below_from h1 (Nat.le_refl _) hg hr, pt_from h2 hg hr, pt_from h3 hg hr⟩, h4⟩
  · rintro cc s A C row ⟨p, x, h1, h2, h3, h4, h5, h6⟩ hg hr
    exact ⟨p, x, h1, h2, h3, h4, below_from h5 hw.size hg hr, pt_from h6 hg hr⟩
  · rintro ln pre x W ⟨⟨hB, h3, h4⟩, hn⟩
    have hs := hB.size
    refine cw_region ?_
    refine lw_allocN rfl zvLn rfl ?_; intro N6 w6 hN6 H6 hb
    refine lw_storea (vs := encN x.2) H6 (tZ rfl) rfl rfl rfl rfl (encN_one x.2) ?_; intro w7 H7 hg7 hz7
    refine lw_nil ?_
    have hk1 : KeepsFrom w5.heap.size W w7 := (keeps_below hb).trans (keeps_pt H6 hg7)
    have hb7 : Below W.heap.size W w7 := hb.trans ((Below.refl _ _).grown hg7 hb.size (fun q e => by injection e with e; omega))
    exact qw_as N6 (by repeat' (first | exact trivial | refine ⟨rfl, ?_⟩)) H7 hk1 (hb7.mono (by have := hw.size; omega)) ⟨⟨grow_trans hB hb7, h3.mono hb7, h4.mono hb7⟩, hn⟩
  · rintro ln pre x y W - - ⟨⟨hB, h3, h4⟩, hn⟩ hF hpl
    have hF := (hF : PT W y 30 (encN x.2))
    have hs := hB.size
    have hw0 := hw
    clear hw
    have hw := Below.refl W.heap.size W
    refine cw_block ?_
    repeat' (first | (refine lw_pure rfl (pv_move rfl) ?_) | (refine lw_pure rfl (pv_assign rfl) ?_) | (refine is_cw ?_; first | (refine cw_seq ?_) | (refine cw_region ?_) | (refine cw_true rfl rfl ?_) | (refine cw_false rfl rfl ?_) | (refine is_cd ?_; refine cw_true rfl (by first | assumption | exact decide_eq_true (by omega) | exact dec_notT (by omega)) ?_) | (refine is_cd ?_; refine cw_false rfl (by first | assumption | exact decide_eq_false (by omega) | exact dec_notF (by omega)) ?_) | (refine cw_skip ?_) | (refine cw_block ?_) | (refine cw_ret ?_)) | (refine is_qw ?_; first | (with_reducible refine qw_then ?_) | (with_reducible refine qw_in ?_) | (with_reducible refine qw_in_hit ?_) | (refine qw_in_miss rfl ?_) | (with_reducible refine qw_then_exit ?_) | (with_reducible refine qw_then_ret ?_) | (with_reducible refine qw_in_ret ?_)) | (refine lw_nil ?_) | ((refine is_bin ?_; first | (refine lw_pure rfl (pv_eql rfl rfl) ?_))) | ((refine is_load ?_; first | (refine lw_pure rfl (pv_load (t1 rfl) rfl (by first | exact PT.ld0 (h3.mono hw) rfl | exact PT.ld (h3.mono hw) rfl | exact PT.ld0 (hF.mono hw) rfl | exact PT.ld (hF.mono hw) rfl)) ?_) | (refine lw_pure rfl (pv_loada (tA rfl) rfl (by first | exact PT.lda (h3.mono hw) | exact PT.lda (hF.mono hw)) (by rfl)) ?_))) | ((refine is_fa ?_; first | (refine lw_pure rfl (pv_fa (tF rfl) rfl) ?_))))
    · refine cw_split (b := decide (x.2.acct = acct)) rfl ?_ ?_
      · intro hd
        have hd := of_decide_eq_true hd
        refine cw_seq ?_
        refine cw_region ?_
        iterate 2 (first | (refine lw_pure rfl (pv_move rfl) ?_) | (refine lw_pure rfl (pv_assign rfl) ?_) | (refine is_cw ?_; first | (refine cw_seq ?_) | (refine cw_region ?_) | (refine cw_true rfl rfl ?_) | (refine cw_false rfl rfl ?_) | (refine is_cd ?_; refine cw_true rfl (by first | assumption | exact decide_eq_true (by omega) | exact dec_notT (by omega)) ?_) | (refine is_cd ?_; refine cw_false rfl (by first | assumption | exact decide_eq_false (by omega) | exact dec_notF (by omega)) ?_) | (refine cw_skip ?_) | (refine cw_block ?_) | (refine cw_ret ?_)) | (refine is_qw ?_; first | (with_reducible refine qw_then ?_) | (with_reducible refine qw_in ?_) | (with_reducible refine qw_in_hit ?_) | (refine qw_in_miss rfl ?_) | (with_reducible refine qw_then_exit ?_) | (with_reducible refine qw_then_ret ?_) | (with_reducible refine qw_in_ret ?_)) | (refine lw_nil ?_) | ((refine is_bin ?_; first | (refine lw_pure rfl (pv_eql rfl rfl) ?_))) | ((refine is_load ?_; first | (refine lw_pure rfl (pv_load (t1 rfl) rfl (by first | exact PT.ld0 (hF.mono hw) rfl | exact PT.ld (hF.mono hw) rfl)) ?_) | (refine lw_pure rfl (pv_loada (tA rfl) rfl (by first | exact PT.lda (hF.mono hw)) (by rfl)) ?_))) | ((refine is_fa ?_; first | (refine lw_pure rfl (pv_fa (tF rfl) rfl) ?_))))
        refine lw_store h4 (tZ rfl) rfl rfl rfl (by simp) ?_; intro w7 H7 hg7 hz7
        refine lw_nil ?_
        refine qw_then ?_
        refine cw_ret ?_
        refine qw_in_ret ?_
        exact qw_leave (keeps_pt h4 hg7) ⟨pre, x, rfl, rfl, hn, hd, hw0.trans ((hB.mono hw0.size).grown hg7 (by have := hw0.size; omega) (fun q e => by injection e with e; omega)), H7⟩
      · intro hd
        have hd := of_decide_eq_false hd
        refine cw_skip ?_
        refine qw_in ?_
        refine qw_round1 (keeps_below hw) (Below.refl _ _) ⟨⟨hB, h3, h4⟩, ?_⟩
        intro q hq
        rcases List.mem_append.1 hq with hq | hq
        · exact hn q hq
        · rw [List.mem_singleton.1 hq]; exact hd
  · rintro D ys W hD hS ⟨⟨hB, h3, h4⟩, hn⟩ hW
    have hD4 : N4 ≠ D := by omega
    refine qw_in ?_
    refine qw_then ?_
    refine cw_seq ?_
    refine cw_region ?_
    refine lw_store h4 (tZ rfl) rfl rfl rfl (by simp) ?_; intro w7 H7 hg7 hz7
    refine lw_nil ?_
    refine qw_then ?_
    refine cw_ret ?_
    have hwD : w.heap.size ≤ D := Nat.le_trans hw.size hD
    have hW7 : w7.heap[D]? = some (.deferred (some [])) := (hg7.block D (Array.getElem?_eq_some_iff.1 hW).1 (fun e => by injection e with e; omega)).trans hW
    have hw7 : Below w.heap.size w w7 := (hw.trans (hB.mono hw.size)).grown hg7 (by have := hB.size; have := hw.size; omega) (fun q e => by injection e with e; omega)
    obtain ⟨h8, h9⟩ := put_keep hwD hW7 hw7 hD4 H7
    refine qw_retM1 hW7 (qw_retc rfl rfl (one_ld (t1 rfl) (h9.ld rfl)) ⟨?_, h8⟩)
    rw [bal_none]
    intro z hz
    have hz : z ∈ xs.reverse := List.mem_reverse.2 hz
    rw [← (show ys.map (·.2) = xs.reverse from hS)] at hz
    obtain ⟨q, hq, rfl⟩ := List.mem_map.1 hz
    exact hn q hq
  · rintro D cc pre W hD hS ⟨p, x, rfl, rfl, h3, h4, h5, h6⟩ hW
    refine cw_ret ?_
    refine qw_in_ret ?_
    refine qw_then_ret ?_
    have hD4 : N4 ≠ D := by omega
    obtain ⟨h8, h9⟩ := put_keep (Nat.le_trans hw.size hD) hW h5 hD4 h6
    refine qw_retM1 hW (qw_retc rfl rfl (one_ld (t1 rfl) (h9.ld rfl)) ⟨?_, h8⟩)
    obtain ⟨r, hr⟩ := hS
    have hx : xs = r.reverse ++ x.2 :: (p.map (·.2)).reverse := by
      have := congrArg List.reverse hr
      rw [List.reverse_reverse] at this
      rw [← this]
      simp
    rw [hx, bal_hit ?_ h4]
    intro z hz
    obtain ⟨q, hq, rfl⟩ := List.mem_map.1 (List.mem_reverse.1 hz)
    exact h3 q hq
end Go.Proofs.YtnffmbfdfhokeaaDoor.R
namespace Go.Proofs.YtnffmbfdfhokeaaDoor.R
open Go.RowKit Go.PlainAid

theorem rows_in {p : List Opn} {t : List Lt} {e : Evt} (hE : mayE e = true) (hv : e.v = 3) : ∀ r ∈ (rowsL p t e).2, -9223372036854775808 ≤ r.2 ∧ r.2 ≤ 9223372036854775807 := by
  unfold rowsL nthI
  by_cases k6 : e.kind = 6
  · obtain ⟨n0, n1, hn, h0, h1⟩ := lnums6 hE hv (Or.inl k6)
    rw [if_pos k6, hn]; intro r hr; simp at hr; subst hr; simp; omega
  rw [if_neg k6]
  by_cases k7 : e.kind = 7
  · obtain ⟨n0, n1, hn, h0, h1⟩ := lnums6 hE hv (Or.inr k7)
    rw [if_pos k7, hn]; intro r hr; simp at hr; subst hr; simp; omega
  rw [if_neg k7]
  by_cases k21 : e.kind = 21
  · obtain ⟨n0, n1, n2, hn, h0, h1, h2⟩ := lnums21 hE hv k21
    rw [if_pos k21, hn]; intro r hr; simp at hr; rcases hr with rfl | rfl <;> simp <;> omega
  rw [if_neg k21]
  by_cases k13 : e.kind = 13
  · obtain ⟨n0, n1, n2, n3, n4, hn, h2, h3, h4⟩ := lnums13 hE hv k13
    have hm := mul_in h2 h3
    rw [if_pos k13, hn]
    simp only [List.getD_cons_zero, List.getD_cons_succ]
    split
    · split
      · intro r hr; simp at hr
      · split
        · intro r hr; simp at hr; rcases hr with rfl | rfl <;> dsimp only <;> omega
        · intro r hr; simp at hr; rcases hr with rfl | rfl <;> dsimp only <;> omega
    · intro r hr; simp at hr
  rw [if_neg k13]
  by_cases k18 : e.kind = 18
  · obtain ⟨n0, n1, n2, n3, hn, h1, h2, h3⟩ := lnums18 hE hv k18
    rw [if_pos k18, hn]
    simp only [List.getD_cons_zero, List.getD_cons_succ]
    split
    · intro r hr; simp at hr; rcases hr with rfl | rfl <;> dsimp only <;> omega
    · intro r hr; simp at hr
  rw [if_neg k18]
  intro r hr; simp at hr
theorem rows_few (p : List Opn) (t : List Lt) (e : Evt) : (rowsL p t e).2.length ≤ 2 := by
  unfold rowsL
  (repeat' split) <;> simp
theorem adds_app (seq kind : Int) : ∀ (a b : List (Int × Int)) (l : List Ln), addsL seq kind l (a ++ b) = (addsL seq kind l a).bind fun l' => addsL seq kind l' b
  | [], b, l => rfl
  | r :: a, b, l => by
    show (addL l seq kind r.1 r.2).bind _ = ((addL l seq kind r.1 r.2).bind _).bind _
    cases addL l seq kind r.1 r.2 with
    | none => rfl
    | some l' => exact adds_app seq kind a b l'
theorem adds_notZ (seq kind : Int) : ∀ (rs : List (Int × Int)) (l : List Ln), addsL seq kind l (notZ rs) = addsL seq kind l rs
  | [], l => rfl
  | r :: rs, l => by
    by_cases h0 : r.2 = 0
    · have e1 : notZ (r :: rs) = notZ rs := by unfold notZ; rw [List.filter_cons, if_neg (by simp [h0])]
      rw [e1, adds_notZ seq kind rs l]
      show _ = (addL l seq kind r.1 r.2).bind _
      unfold addL; rw [if_pos h0]; rfl
    · have e1 : notZ (r :: rs) = r :: notZ rs := by unfold notZ; rw [List.filter_cons, if_pos (by simp [h0])]
      rw [e1]
      show (addL l seq kind r.1 r.2).bind _ = (addL l seq kind r.1 r.2).bind _
      congr 1
      funext l'
      exact adds_notZ seq kind rs l'
theorem addL_yes {l : List Ln} {seq kind a b : Int} (h0 : b ≠ 0) (h : 0 ≤ balL l a + b ∧ balL l a + b ≤ 1125899906842624) : addL l seq kind a b = some (l ++ [⟨a, seq, kind, b, balL l a + b⟩]) := by unfold addL; rw [if_neg h0, if_pos h]
theorem addL_no {l : List Ln} {seq kind a b : Int} (h0 : b ≠ 0) (h : ¬ (0 ≤ balL l a + b ∧ balL l a + b ≤ 1125899906842624)) : addL l seq kind a b = none := by unfold addL; rw [if_neg h0, if_neg h]
theorem own_ne_pt {α : Type} {enc : α → List Value} {k : Nat} {T T' : TypeId} {B N : Nat} {w : World} {v : Value} {xs : List α} {cs : List Value} (h : Go.Proofs.YtnffmbfdfhokeaaDoor.Own enc k T B w v xs) (hp : PT w N T' cs) (hT : T ≠ T') : v.ownBlock ≠ some N := by
  obtain ⟨_, h2⟩ := h
  rcases h2 with ⟨rfl, _⟩ | ⟨g, cap, cur, rfl, _, hg, _⟩
  · intro e; cases e
  · intro e
    have e2 : g = N := by simpa [Value.ownBlock] using e
    subst e2
    rw [show w.heap[g]? = _ from hp] at hg; injection hg with hg; injection hg with _ hg _; exact hT hg.symm
theorem qw_retcc {P : Program} {n : Nat} {l : Fr} {w : World} {fn : Func} {R : Ending → World → Prop} {t T B o t2 T2 B2 o2 : Nat} {v v2 : Value} (hr : fn.results = #[.cell t T, .cell t2 T2]) (h1 : look l t = some (.pointer (some ⟨B, o, none⟩))) (h2 : look l t2 = some (.pointer (some ⟨B2, o2, none⟩))) (hl : (loadVar T ⟨B, o, none⟩).run P w = .ok v w) (hl2 : (loadVar T2 ⟨B2, o2, none⟩).run P w = .ok v2 w) (hR : R (.returned (.tuple #[v, v2])) w) : QW n (bodyPost P fn R) .ret l w :=
  qw_retv (fun a ha => by simp [results, hr, ha.2.2 _ _ h1, ha.2.2 _ _ h2, asAddr, hl, hl2]) hR
structure EvI (B : Nat) (w4 : World) (N8 N9 N10 N11 N14 : Nat) (l : List Ln) (seq kind : Int) (ecs : List Value) (pre : List Nz) (W : World) : Prop where
  b : Below w4.heap.size w4 W
  z : B ≤ W.heap.size
  p8 : PT W N8 2 [.int .i64 seq]
  p9 : PT W N9 35 ecs
  p10 : PT W N10 27 [.slice none 0 0]
  p11 : PT W N11 39 [.int .i64 0]
  x : ∃ v xs, PT W N14 27 [v] ∧ Go.Proofs.YtnffmbfdfhokeaaDoor.Own encN 5 30 w4.heap.size W v xs ∧ addsL seq kind l (pre.map (·.1)) = some xs ∧ xs.length = l.length + pre.length ∧ ∀ a, 0 ≤ balL xs a ∧ balL xs a ≤ 1125899906842624
def EvX (w : World) (N10 N11 : Nat) (l : List Ln) (seq kind : Int) (c : Code) (pre : List Nz) (W : World) : Prop := c = .ret ∧ addsL seq kind l (pre.map (·.1)) = none ∧ Below w.heap.size w W ∧ PT W N10 27 [.slice none 0 0] ∧ PT W N11 39 [.int .i64 41]
end Go.Proofs.YtnffmbfdfhokeaaDoor.R
namespace Go.Proofs.YtnffmbfdfhokeaaDoor.R
open Go.RowKit Go.PlainAid

theorem mayLn_e {l : List Ln} {m : Nat} {ad : Option Addr} {cap : Nat} {r : Bool} {w : World} (h : mayLn l = r) (hm : l.length = m) (HS : SlR encN 5 w ad cap l) (hin : In64N l) : Calls Tryd.prog 13 #[.slice ad m cap] w fun e w' => e = .returned (.bool r) ∧ Below w.heap.size w w' := by
  subst h; exact mayL_c hm HS hin
theorem mayV_el {p : List Opn} {t : List Lt} {m n : Nat} {a b : Option Addr} {ca cb : Nat} {r : Bool} {w : World} (h : mayV p t = r) (hm : p.length = m) (hn : t.length = n) (HP : SlR encP 6 w a ca p) (HL : SlR encL 4 w b cb t) : Calls Tryd.prog 21 #[.slice a m ca, .slice b n cb] w fun e w' => e = .returned (.bool r) ∧ Below w.heap.size w w' := by
  subst h; exact mayV_c hm hn HP HL
theorem mayE_el {e : Evt} {m n : Nat} {a b : Option Addr} {ca cb : Nat} {r : Bool} {w : World} (h : mayE e = r) (h8 : 0 ≤ e.kind ∧ e.kind ≤ 255) (hm : e.nums.length = m) (hn : e.texts.length = n) (HN : SlR encI 1 w a ca e.nums) (HT : SlR encT 1 w b cb e.texts) (hT : TxtIn e.texts) (hK : KnW w) : Calls Tryd.prog 22 #[.agg #[.int .u8 e.v, .int .u8 e.kind, .slice a m ca, .slice b n cb]] w fun e1 w' => e1 = .returned (.bool r) ∧ Below w.heap.size w w' := by
  subst h; exact mayE_c h8 hm hn HN HT hT hK
theorem zvS (w : World) : (zeroValue 27).run Tryd.prog w = .ok (.slice none 0 0) w := by kernel_rfl
theorem zvK (w : World) : (zeroValue 39).run Tryd.prog w = .ok (.int .i64 0) w := by kernel_rfl
theorem pt_kept {N N' : Nat} {T : TypeId} {cs : List Value} {w w' : World} (h : PT w N T cs) (hg : w.grownBy w' (some N')) (hne : N ≠ N') : PT w' N T cs := (hg.block N h.lt (fun e => hne (Option.some.inj e))).trans h
theorem seq_last {l : List Ln} {j : Nat} {x : Ln} (h : l.length = j + 1) (hx : l[j]? = some x) : seqL l = x.seq := by
  have e : l.getLast? = some x := by rw [List.getLast?_eq_getElem?, h]; exact hx
  unfold seqL; rw [e]; rfl
theorem seq_nil {l : List Ln} (h : l.length = 0) : seqL l = 0 := by
  rw [List.length_eq_zero_iff.1 h]; rfl
set_option maxRecDepth 20000 in
set_option maxHeartbeats 8000000 in
theorem stmt_c {l : List Ln} {p : List Opn} {t : List Lt} {e : Evt} {seq : Int} {ml mp mt mn mx : Nat} {al ap at_ an ax : Option Addr} {cl cp ct cn cx : Nat} {w : World} (h8 : 0 ≤ e.kind ∧ e.kind ≤ 255) (hml : l.length = ml) (hmp : p.length = mp) (hmt : t.length = mt) (hmn : e.nums.length = mn) (hmx : e.texts.length = mx) (HS : SlR encN 5 w al cl l) (hin : In64N l) (hll : l.length ≤ 524288) (HP : SlR encP 6 w ap cp p) (HL : SlR encL 4 w at_ ct t) (HN : SlR encI 1 w an cn e.nums) (HX : SlR encT 1 w ax cx e.texts) (hT : TxtIn e.texts) (hK : KnW w) :
    Calls Tryd.prog 11 #[.slice al ml cl, .slice ap mp cp, .slice at_ mt ct, .int .i64 seq, .agg #[.int .u8 e.v, .int .u8 e.kind, .slice an mn cn, .slice ax mx cx]] w fun e1 w' => (∃ v, e1 = .returned (.tuple #[v, .int .i64 (stmtL l p t seq e).1]) ∧ Go.Proofs.YtnffmbfdfhokeaaDoor.Own encN 5 30 w.heap.size w' v (stmtL l p t seq e).2) ∧ Below w.heap.size w w' := by
  have hw := Below.refl w.heap.size w
  refine calls_of_fr (r := none) (n := 2) ?_
  show CallsIn (fr none) 2 Tryd.prog _ [Value.slice al ml cl, .slice ap mp cp, .slice at_ mt ct, .int .i64 seq, .agg #[.int .u8 e.v, .int .u8 e.kind, .slice an mn cn, .slice ax mx cx]].toArray w _
  refine R.fn_enter _ 100 Tryd.func11 rfl rfl rfl ?_
  refine cw_seq (cw_region ?_)
  refine lw_boxN rfl rfl (cs := [.int .i64 seq]) rfl ?_; intro N8 w1 hN8 H8 hb; have hl8 := H8.lt; replace hw := grow_trans hw hb; clear hb
  refine lw_boxN rfl rfl (cs := [.int .u8 e.v, .int .u8 e.kind, .slice an mn cn, .slice ax mx cx]) rfl ?_; intro N9 w2 hN9 H9 hb; have hl9 := H9.lt; replace H8 := H8.mono hb; replace hw := grow_trans hw hb; clear hb
  refine lw_allocN rfl zvS rfl ?_; intro N10 w3 hN10 H10 hb; have hl10 := H10.lt; replace H8 := H8.mono hb; replace H9 := H9.mono hb; replace hw := grow_trans hw hb; clear hb
  refine lw_allocN rfl zvK rfl ?_; intro N11 w4 hN11 H11 hb; have hl11 := H11.lt; replace H8 := H8.mono hb; replace H9 := H9.mono hb; replace H10 := H10.mono hb; replace hw := grow_trans hw hb; clear hb
  have hw0 := hw
  clear hw
  have hw := Below.refl w4.heap.size w4
  replace HS := HS.mono hw0
  replace HP := HP.mono hw0
  replace HL := HL.mono hw0
  replace HN := HN.mono hw0
  replace HX := HX.mono hw0
  replace hK := hK.mono hw0
  replace H10 : PT w4 N10 27 [.slice none 0 0] := H10
  replace H11 : PT w4 N11 39 [.int .i64 0] := H11
  have hbx : (0 ≤ seq ∧ seq < 1048576) ∨ ¬ (0 ≤ seq ∧ seq < 1048576) := Decidable.em _
  have hbad : ¬ (mayLn l = true ∧ mayV p t = true ∧ e.v = 3 ∧ mayE e = true ∧ (0 ≤ seq ∧ seq < 1048576) ∧ seqL l ≤ seq) → stmtL l p t seq e = (4, []) := fun h => by
    have hf : formL l p t seq e = false := by
      rw [Bool.eq_false_iff]
      intro hf
      unfold formL at hf
      simp only [Bool.and_eq_true, decide_eq_true_eq] at hf
      exact h ⟨hf.1.1.1.1.1, hf.1.1.1.1.2, hf.1.1.1.2, hf.1.1.2, hf.1.2, hf.2⟩
    unfold stmtL; rw [if_pos hf]
  refine lw_nil ?_
  refine qw_then ?_
  refine cw_cut (σ := Unit) (fun _ => [(0, .slice al ml cl), (1, .slice ap mp cp), (2, .slice at_ mt ct), (8, .pointer (some ⟨N8, 0, none⟩)), (9, .pointer (some ⟨N9, 0, none⟩)), (10, .pointer (some ⟨N10, 0, none⟩)), (11, .pointer (some ⟨N11, 0, none⟩))]) (fun _ w' => Below w4.heap.size w4 w' ∧ mayLn l = true ∧ mayV p t = true ∧ e.v = 3 ∧ mayE e = true ∧ (0 ≤ seq ∧ seq < 1048576) ∧ seqL l ≤ seq) ?_ ?_
  · by_cases h1 : mayLn l = true
    case neg =>
      rw [hbad (fun h => h1 h.1)]
      replace h1 : mayLn l = false := by simpa using h1
      repeat' (first | (refine lw_pure rfl (pv_move rfl) ?_) | (refine lw_pure rfl (pv_assign rfl) ?_) | (refine lw_call (f := 13) (by kernel_rfl) rfl rfl (mayLn_e h1 hml (HS.mono hw) hin) ?_; rintro e w1 ⟨rfl, hb⟩; refine ⟨_, rfl, ?_⟩; replace hw := grow_trans hw hb; clear hb) | (refine is_cw ?_; first | (refine cw_seq ?_) | (refine cw_region ?_) | (refine cw_true rfl rfl ?_) | (refine cw_block ?_) | (refine cw_exit ?_)) | (refine is_qw ?_; first | (with_reducible refine qw_then ?_) | (with_reducible refine qw_in ?_) | (with_reducible refine qw_in_hit ?_) | (with_reducible refine qw_then_exit ?_)) | (refine lw_nil ?_) | (refine is_guarded ?_; first | (refine lw_not rfl rfl rfl rfl ?_)) | ((refine is_un ?_; first | (refine lw_pure rfl (pv_not rfl) ?_))) | (refine is_pk ?_; refine lw_pure rfl (pv_pick_t rfl rfl rfl) ?_))
      refine lw_store (H10.mono hw) (tZ rfl) rfl rfl rfl (by simp) ?_; intro wa Ha hga hza; have Hb := pt_kept (H11.mono hw) hga (by omega); refine lw_store Hb (tZ rfl) rfl rfl rfl (by simp) ?_; intro wb Hc hgb hzb; have Hd := pt_kept Ha hgb (by omega); have hwz := ((grow_trans hw0 hw).grown hga (by have := hw0.size; have := hw.size; omega) (fun q e => by injection e with e; omega)).grown hgb (by have := hw0.size; have := hw.size; omega) (fun q e => by injection e with e; omega)
      repeat' (first | (refine is_cw ?_; first | (refine cw_ret ?_)) | (refine is_qw ?_; first | (with_reducible refine qw_then ?_) | (with_reducible refine qw_then_ret ?_) | (with_reducible refine qw_in_ret ?_)) | (refine lw_nil ?_))
      exact qw_retM0 (qw_retcc rfl rfl rfl (one_ld (t1 rfl) (Hd.ld rfl)) (one_ld (t1 rfl) (Hc.ld rfl)) ⟨⟨_, rfl, Own.nil _⟩, hwz⟩)
    by_cases h2 : mayV p t = true
    case neg =>
      rw [hbad (fun h => h2 h.2.1)]
      replace h2 : mayV p t = false := by simpa using h2
      repeat' (first | (refine lw_pure rfl (pv_move rfl) ?_) | (refine lw_pure rfl (pv_assign rfl) ?_) | (refine lw_call (f := 13) (by kernel_rfl) rfl rfl (mayLn_e h1 hml (HS.mono hw) hin) ?_; rintro e w1 ⟨rfl, hb⟩; refine ⟨_, rfl, ?_⟩; replace hw := grow_trans hw hb; clear hb) | (refine lw_call (f := 21) (by kernel_rfl) rfl rfl (mayV_el h2 hmp hmt (HP.mono hw) (HL.mono hw)) ?_; rintro e w1 ⟨rfl, hb⟩; refine ⟨_, rfl, ?_⟩; replace hw := grow_trans hw hb; clear hb) | (refine is_cw ?_; first | (refine cw_seq ?_) | (refine cw_region ?_) | (refine cw_true rfl rfl ?_) | (refine cw_block ?_) | (refine cw_exit ?_)) | (refine is_qw ?_; first | (with_reducible refine qw_then ?_) | (with_reducible refine qw_in ?_) | (with_reducible refine qw_in_hit ?_) | (with_reducible refine qw_then_exit ?_)) | (refine lw_nil ?_) | (refine is_guarded ?_; first | (refine lw_not rfl rfl rfl rfl ?_) | (refine lw_on rfl rfl rfl ?_)) | ((refine is_un ?_; first | (refine lw_pure rfl (pv_not rfl) ?_))) | (refine is_pk ?_; refine lw_pure rfl (pv_pick_t rfl rfl rfl) ?_) | (refine is_pk ?_; refine lw_pure rfl (pv_pick_f rfl rfl rfl) ?_))
      refine lw_store (H10.mono hw) (tZ rfl) rfl rfl rfl (by simp) ?_; intro wa Ha hga hza; have Hb := pt_kept (H11.mono hw) hga (by omega); refine lw_store Hb (tZ rfl) rfl rfl rfl (by simp) ?_; intro wb Hc hgb hzb; have Hd := pt_kept Ha hgb (by omega); have hwz := ((grow_trans hw0 hw).grown hga (by have := hw0.size; have := hw.size; omega) (fun q e => by injection e with e; omega)).grown hgb (by have := hw0.size; have := hw.size; omega) (fun q e => by injection e with e; omega)
      repeat' (first | (refine is_cw ?_; first | (refine cw_ret ?_)) | (refine is_qw ?_; first | (with_reducible refine qw_then ?_) | (with_reducible refine qw_then_ret ?_) | (with_reducible refine qw_in_ret ?_)) | (refine lw_nil ?_))
      exact qw_retM0 (qw_retcc rfl rfl rfl (one_ld (t1 rfl) (Hd.ld rfl)) (one_ld (t1 rfl) (Hc.ld rfl)) ⟨⟨_, rfl, Own.nil _⟩, hwz⟩)
    by_cases h3 : e.v = 3
    case neg =>
      rw [hbad (fun h => h3 h.2.2.1)]
      repeat' (first | (refine lw_pure rfl (pv_move rfl) ?_) | (refine lw_pure rfl (pv_assign rfl) ?_) | (refine lw_call (f := 13) (by kernel_rfl) rfl rfl (mayLn_e h1 hml (HS.mono hw) hin) ?_; rintro e w1 ⟨rfl, hb⟩; refine ⟨_, rfl, ?_⟩; replace hw := grow_trans hw hb; clear hb) | (refine lw_call (f := 21) (by kernel_rfl) rfl rfl (mayV_el h2 hmp hmt (HP.mono hw) (HL.mono hw)) ?_; rintro e w1 ⟨rfl, hb⟩; refine ⟨_, rfl, ?_⟩; replace hw := grow_trans hw hb; clear hb) | (refine is_cw ?_; first | (refine cw_seq ?_) | (refine cw_region ?_) | (refine cw_true rfl rfl ?_) | (refine cw_block ?_) | (refine cw_exit ?_)) | (refine is_qw ?_; first | (with_reducible refine qw_then ?_) | (with_reducible refine qw_in ?_) | (with_reducible refine qw_in_hit ?_) | (with_reducible refine qw_then_exit ?_)) | (refine lw_nil ?_) | (refine is_guarded ?_; first | (refine lw_not rfl rfl rfl rfl ?_) | (refine lw_on rfl rfl rfl ?_) | (refine lw_not rfl rfl rfl (by first | assumption | exact decide_eq_true (by omega) | exact decide_eq_false (by omega) | exact dec_notT (by omega) | exact dec_notF (by omega)) ?_)) | ((refine is_bin ?_; first | (refine lw_pure rfl (pv_neq rfl rfl) ?_))) | ((refine is_load ?_; first | (refine lw_pure rfl (pv_load (t1 rfl) rfl (by first | exact PT.ld0 (H8.mono hw) rfl | exact PT.ld (H8.mono hw) rfl | exact PT.ld0 (H9.mono hw) rfl | exact PT.ld (H9.mono hw) rfl)) ?_))) | ((refine is_fa ?_; first | (refine lw_pure rfl (pv_fa (tF rfl) rfl) ?_))) | ((refine is_un ?_; first | (refine lw_pure rfl (pv_not rfl) ?_))) | (refine is_pk ?_; refine lw_pure rfl (pv_pick_t rfl rfl rfl) ?_) | (refine is_pk ?_; refine lw_pure rfl (pv_pick_f rfl rfl rfl) ?_) | (refine is_pk ?_; refine lw_pure rfl (pv_pick_t rfl (by first | assumption | exact decide_eq_true (by omega) | exact dec_notT (by omega)) rfl) ?_))
      refine lw_store (H10.mono hw) (tZ rfl) rfl rfl rfl (by simp) ?_; intro wa Ha hga hza; have Hb := pt_kept (H11.mono hw) hga (by omega); refine lw_store Hb (tZ rfl) rfl rfl rfl (by simp) ?_; intro wb Hc hgb hzb; have Hd := pt_kept Ha hgb (by omega); have hwz := ((grow_trans hw0 hw).grown hga (by have := hw0.size; have := hw.size; omega) (fun q e => by injection e with e; omega)).grown hgb (by have := hw0.size; have := hw.size; omega) (fun q e => by injection e with e; omega)
      repeat' (first | (refine is_cw ?_; first | (refine cw_ret ?_)) | (refine is_qw ?_; first | (with_reducible refine qw_then ?_) | (with_reducible refine qw_then_ret ?_) | (with_reducible refine qw_in_ret ?_)) | (refine lw_nil ?_))
      exact qw_retM0 (qw_retcc rfl rfl rfl (one_ld (t1 rfl) (Hd.ld rfl)) (one_ld (t1 rfl) (Hc.ld rfl)) ⟨⟨_, rfl, Own.nil _⟩, hwz⟩)
    by_cases h4 : mayE e = true
    case neg =>
      rw [hbad (fun h => h4 h.2.2.2.1)]
      replace h4 : mayE e = false := by simpa using h4
      repeat' (first | (refine lw_pure rfl (pv_move rfl) ?_) | (refine lw_pure rfl (pv_assign rfl) ?_) | (refine lw_call (f := 13) (by kernel_rfl) rfl rfl (mayLn_e h1 hml (HS.mono hw) hin) ?_; rintro e w1 ⟨rfl, hb⟩; refine ⟨_, rfl, ?_⟩; replace hw := grow_trans hw hb; clear hb) | (refine lw_call (f := 21) (by kernel_rfl) rfl rfl (mayV_el h2 hmp hmt (HP.mono hw) (HL.mono hw)) ?_; rintro e w1 ⟨rfl, hb⟩; refine ⟨_, rfl, ?_⟩; replace hw := grow_trans hw hb; clear hb) | (refine lw_call (f := 22) (by kernel_rfl) rfl rfl (mayE_el h4 h8 hmn hmx (HN.mono hw) (HX.mono hw) hT (hK.mono hw)) ?_; rintro e w1 ⟨rfl, hb⟩; refine ⟨_, rfl, ?_⟩; replace hw := grow_trans hw hb; clear hb) | (refine is_cw ?_; first | (refine cw_seq ?_) | (refine cw_region ?_) | (refine cw_true rfl rfl ?_) | (refine cw_block ?_) | (refine cw_exit ?_)) | (refine is_qw ?_; first | (with_reducible refine qw_then ?_) | (with_reducible refine qw_in ?_) | (with_reducible refine qw_in_hit ?_) | (with_reducible refine qw_then_exit ?_)) | (refine lw_nil ?_) | (refine is_guarded ?_; first | (refine lw_not rfl rfl rfl rfl ?_) | (refine lw_on rfl rfl rfl ?_) | (refine lw_on rfl rfl (by first | assumption | exact decide_eq_true (by omega) | exact decide_eq_false (by omega) | exact dec_notT (by omega) | exact dec_notF (by omega)) ?_)) | ((refine is_bin ?_; first | (refine lw_pure rfl (pv_neq rfl rfl) ?_))) | ((refine is_load ?_; first | (refine lw_pure rfl (pv_load (t1 rfl) rfl (by first | exact PT.ld0 (H8.mono hw) rfl | exact PT.ld (H8.mono hw) rfl | exact PT.ld0 (H9.mono hw) rfl | exact PT.ld (H9.mono hw) rfl)) ?_) | (refine lw_pure rfl (pv_loada (tA rfl) rfl (by first | exact PT.lda (H8.mono hw) | exact PT.lda (H9.mono hw)) (by rfl)) ?_))) | ((refine is_fa ?_; first | (refine lw_pure rfl (pv_fa (tF rfl) rfl) ?_))) | ((refine is_un ?_; first | (refine lw_pure rfl (pv_not rfl) ?_))) | (refine is_pk ?_; refine lw_pure rfl (pv_pick_t rfl rfl rfl) ?_) | (refine is_pk ?_; refine lw_pure rfl (pv_pick_f rfl rfl rfl) ?_) | (refine is_pk ?_; refine lw_pure rfl (pv_pick_f rfl (by first | assumption | exact decide_eq_false (by omega) | exact dec_notF (by omega)) rfl) ?_))
      refine lw_store (H10.mono hw) (tZ rfl) rfl rfl rfl (by simp) ?_; intro wa Ha hga hza; have Hb := pt_kept (H11.mono hw) hga (by omega); refine lw_store Hb (tZ rfl) rfl rfl rfl (by simp) ?_; intro wb Hc hgb hzb; have Hd := pt_kept Ha hgb (by omega); have hwz := ((grow_trans hw0 hw).grown hga (by have := hw0.size; have := hw.size; omega) (fun q e => by injection e with e; omega)).grown hgb (by have := hw0.size; have := hw.size; omega) (fun q e => by injection e with e; omega)
      repeat' (first | (refine is_cw ?_; first | (refine cw_ret ?_)) | (refine is_qw ?_; first | (with_reducible refine qw_then ?_) | (with_reducible refine qw_then_ret ?_) | (with_reducible refine qw_in_ret ?_)) | (refine lw_nil ?_))
      exact qw_retM0 (qw_retcc rfl rfl rfl (one_ld (t1 rfl) (Hd.ld rfl)) (one_ld (t1 rfl) (Hc.ld rfl)) ⟨⟨_, rfl, Own.nil _⟩, hwz⟩)
    by_cases h5 : 0 ≤ seq ∧ seq < 1048576
    case neg =>
      rw [hbad (fun h => h5 h.2.2.2.2.1)]
      repeat' (first | (refine lw_pure rfl (pv_move rfl) ?_) | (refine lw_pure rfl (pv_assign rfl) ?_) | (refine lw_call (f := 13) (by kernel_rfl) rfl rfl (mayLn_e h1 hml (HS.mono hw) hin) ?_; rintro e w1 ⟨rfl, hb⟩; refine ⟨_, rfl, ?_⟩; replace hw := grow_trans hw hb; clear hb) | (refine lw_call (f := 21) (by kernel_rfl) rfl rfl (mayV_el h2 hmp hmt (HP.mono hw) (HL.mono hw)) ?_; rintro e w1 ⟨rfl, hb⟩; refine ⟨_, rfl, ?_⟩; replace hw := grow_trans hw hb; clear hb) | (refine lw_call (f := 22) (by kernel_rfl) rfl rfl (mayE_el h4 h8 hmn hmx (HN.mono hw) (HX.mono hw) hT (hK.mono hw)) ?_; rintro e w1 ⟨rfl, hb⟩; refine ⟨_, rfl, ?_⟩; replace hw := grow_trans hw hb; clear hb) | (refine lw_call (f := 23) (by kernel_rfl) rfl rfl (batch_c _ _) ?_; rintro e w1 ⟨rfl, hb⟩; refine ⟨_, rfl, ?_⟩; replace hw := grow_trans hw hb; clear hb) | (refine is_cw ?_; first | (refine cw_seq ?_) | (refine cw_region ?_) | (refine is_cd ?_; refine cw_true rfl (by first | assumption | exact decide_eq_true (by omega) | exact dec_notT (by omega)) ?_) | (refine cw_block ?_) | (refine cw_exit ?_)) | (refine is_qw ?_; first | (with_reducible refine qw_then ?_) | (with_reducible refine qw_in ?_) | (with_reducible refine qw_in_hit ?_) | (with_reducible refine qw_then_exit ?_)) | (refine lw_nil ?_) | (refine is_guarded ?_; first | (refine lw_on rfl rfl rfl ?_) | (refine lw_on rfl rfl (by first | assumption | exact decide_eq_true (by omega) | exact decide_eq_false (by omega) | exact dec_notT (by omega) | exact dec_notF (by omega)) ?_)) | ((refine is_bin ?_; first | (refine lw_pure rfl (pv_neq rfl rfl) ?_))) | ((refine is_load ?_; first | (refine lw_pure rfl (pv_load (t1 rfl) rfl (by first | exact PT.ld0 (H8.mono hw) rfl | exact PT.ld (H8.mono hw) rfl | exact PT.ld0 (H9.mono hw) rfl | exact PT.ld (H9.mono hw) rfl)) ?_) | (refine lw_pure rfl (pv_loada (tA rfl) rfl (by first | exact PT.lda (H8.mono hw) | exact PT.lda (H9.mono hw)) (by rfl)) ?_))) | ((refine is_fa ?_; first | (refine lw_pure rfl (pv_fa (tF rfl) rfl) ?_))) | ((refine is_un ?_; first | (refine lw_pure rfl (pv_not rfl) ?_))) | (refine is_pk ?_; refine lw_pure rfl (pv_pick_f rfl rfl rfl) ?_) | (refine is_pk ?_; refine lw_pure rfl (pv_pick_f rfl (by first | assumption | exact decide_eq_false (by omega) | exact dec_notF (by omega)) rfl) ?_))
      refine lw_store (H10.mono hw) (tZ rfl) rfl rfl rfl (by simp) ?_; intro wa Ha hga hza; have Hb := pt_kept (H11.mono hw) hga (by omega); refine lw_store Hb (tZ rfl) rfl rfl rfl (by simp) ?_; intro wb Hc hgb hzb; have Hd := pt_kept Ha hgb (by omega); have hwz := ((grow_trans hw0 hw).grown hga (by have := hw0.size; have := hw.size; omega) (fun q e => by injection e with e; omega)).grown hgb (by have := hw0.size; have := hw.size; omega) (fun q e => by injection e with e; omega)
      repeat' (first | (refine is_cw ?_; first | (refine cw_ret ?_)) | (refine is_qw ?_; first | (with_reducible refine qw_then ?_) | (with_reducible refine qw_then_ret ?_) | (with_reducible refine qw_in_ret ?_)) | (refine lw_nil ?_))
      exact qw_retM0 (qw_retcc rfl rfl rfl (one_ld (t1 rfl) (Hd.ld rfl)) (one_ld (t1 rfl) (Hc.ld rfl)) ⟨⟨_, rfl, Own.nil _⟩, hwz⟩)
    repeat' ((fail_if_success (refine is_seqr 2 ?_)); first | (refine lw_pure rfl (pv_move rfl) ?_) | (refine lw_pure rfl (pv_assign rfl) ?_) | (refine lw_call (f := 13) (by kernel_rfl) rfl rfl (mayLn_e h1 hml (HS.mono hw) hin) ?_; rintro e w1 ⟨rfl, hb⟩; refine ⟨_, rfl, ?_⟩; replace hw := grow_trans hw hb; clear hb) | (refine lw_call (f := 21) (by kernel_rfl) rfl rfl (mayV_el h2 hmp hmt (HP.mono hw) (HL.mono hw)) ?_; rintro e w1 ⟨rfl, hb⟩; refine ⟨_, rfl, ?_⟩; replace hw := grow_trans hw hb; clear hb) | (refine lw_call (f := 22) (by kernel_rfl) rfl rfl (mayE_el h4 h8 hmn hmx (HN.mono hw) (HX.mono hw) hT (hK.mono hw)) ?_; rintro e w1 ⟨rfl, hb⟩; refine ⟨_, rfl, ?_⟩; replace hw := grow_trans hw hb; clear hb) | (refine lw_call (f := 23) (by kernel_rfl) rfl rfl (batch_c _ _) ?_; rintro e w1 ⟨rfl, hb⟩; refine ⟨_, rfl, ?_⟩; replace hw := grow_trans hw hb; clear hb) | (refine is_cw ?_; first | (refine cw_seq ?_) | (refine cw_region ?_) | (refine is_cd ?_; refine cw_false rfl (by first | assumption | exact decide_eq_false (by omega) | exact dec_notF (by omega)) ?_) | (refine cw_skip ?_) | (refine cw_block ?_)) | (refine is_qw ?_; first | (with_reducible refine qw_then ?_)) | (refine lw_nil ?_) | (refine is_guarded ?_; first | (refine lw_on rfl rfl rfl ?_) | (refine lw_on rfl rfl (by first | assumption | exact decide_eq_true (by omega) | exact decide_eq_false (by omega) | exact dec_notT (by omega) | exact dec_notF (by omega)) ?_)) | ((refine is_bin ?_; first | (refine lw_pure rfl (pv_neq rfl rfl) ?_))) | ((refine is_load ?_; first | (refine lw_pure rfl (pv_load (t1 rfl) rfl (by first | exact PT.ld0 (H8.mono hw) rfl | exact PT.ld (H8.mono hw) rfl | exact PT.ld0 (H9.mono hw) rfl | exact PT.ld (H9.mono hw) rfl)) ?_) | (refine lw_pure rfl (pv_loada (tA rfl) rfl (by first | exact PT.lda (H8.mono hw) | exact PT.lda (H9.mono hw)) (by rfl)) ?_))) | ((refine is_fa ?_; first | (refine lw_pure rfl (pv_fa (tF rfl) rfl) ?_))) | ((refine is_un ?_; first | (refine lw_pure rfl (pv_not rfl) ?_))) | (refine is_pk ?_; refine lw_pure rfl (pv_pick_f rfl rfl rfl) ?_) | (refine is_pk ?_; refine lw_pure rfl (pv_pick_f rfl (by first | assumption | exact decide_eq_false (by omega) | exact dec_notF (by omega)) rfl) ?_))
    refine cw_seq ?_
    by_cases h0 : l.length = 0
    case pos =>
      have h6 : seqL l ≤ seq := by rw [seq_nil h0]; exact h5.1
      subst hml
      refine cw_drawn (fun w' => Below w4.heap.size w4 w') (by kernel_rfl) (by repeat (first | exact NoPanic.body | with_reducible refine NoPanic.then ?_ | with_reducible refine NoPanic.inBlock ?_)) (fun hNP => ?_)
      have hS := hw.drew
      all_goals (refine at0 0 rfl (fun w' hq => pv_move rfl) ?_)
      all_goals (refine at0 1 rfl (fun w' hq => pv_lenl (tS rfl) rfl) ?_)
      all_goals (refine at0 2 rfl (fun w' hq => pv_gtr rfl rfl) ?_)
      all_goals (refine at0 3 rfl (fun w' hq => pv_move rfl) ?_)
      all_goals (refine an2 4 rfl rfl rfl ?_)
      all_goals (refine an2 5 rfl rfl rfl ?_)
      all_goals (refine an2 6 rfl rfl rfl ?_)
      all_goals (refine an2 7 rfl rfl rfl ?_)
      all_goals (refine an2 8 rfl rfl rfl ?_)
      all_goals (refine an2 9 rfl rfl rfl ?_)
      all_goals (refine an2 10 rfl rfl rfl ?_)
      all_goals (refine an2 11 rfl rfl rfl ?_)
      all_goals (refine an2 12 rfl rfl rfl ?_)
      all_goals (refine at0 13 rfl (fun w' hq => pv_pick_f rfl (by first | assumption | exact decide_eq_false (by omega) | exact dec_notF (by omega)) rfl) ?_)
      all_goals (refine at0 14 rfl (fun w' hq => pv_assign rfl) ?_)
      all_goals (refine aw_done (by kernel_rfl) ?_; replace hw := hS; clear hS hNP)
      repeat' (first | (refine is_cw ?_; first | (refine cw_false rfl rfl ?_) | (refine cw_skip ?_) | (refine cw_exit ?_)) | (refine is_qw ?_; first | (with_reducible refine qw_then ?_) | (with_reducible refine qw_in_hit ?_) | (refine qw_in_miss rfl ?_) | (with_reducible refine qw_then_exit ?_)))
      exact qw_join () (by repeat' (first | exact trivial | refine ⟨rfl, ?_⟩)) ⟨hw, h1, h2, h3, h4, h5, h6⟩
    obtain ⟨j, hj⟩ : ∃ j, l.length = j + 1 := ⟨l.length - 1, by omega⟩
    have hxj : l[j]? = some (l[j]'(by omega)) := List.getElem?_eq_getElem (by omega)
    have hmj : l[j]'(by omega) ∈ l := List.getElem_mem (by omega)
    generalize l[j]'(by omega) = x at hxj hmj
    have hsq := seq_last hj hxj
    obtain ⟨ab, ao, rfl, hab, -⟩ := HS.at (by intro h; rw [h] at hj; simp at hj)
    have hjj : (((j + 1 : Nat) : Int) - 1).toNat = j := by omega
    have hla := HS.le
    have hlm := HS.max
    have hld : ∀ w' : World, Below w4.heap.size w4 w' → w'.cell? ⟨ab, ao + (((j + 1 : Nat) : Int) - 1).toNat * 5 + 1, none⟩ = some (.int .i64 x.seq) := fun w' h => by rw [hjj]; exact (HS.mono h).ld hxj rfl
    obtain rfl : ml = j + 1 := by omega
    by_cases h6 : seqL l ≤ seq
    case neg =>
      rw [hbad (fun h => h6 h.2.2.2.2.2)]
      rw [hsq] at h6
      refine cw_drawn (fun w' => Below w4.heap.size w4 w') (by kernel_rfl) (by repeat (first | exact NoPanic.body | with_reducible refine NoPanic.then ?_ | with_reducible refine NoPanic.inBlock ?_)) (fun hNP => ?_)
      have hS := hw.drew
      all_goals (refine at0 0 rfl (fun w' hq => pv_move rfl) ?_)
      all_goals (refine at0 1 rfl (fun w' hq => pv_lenl (tS rfl) rfl) ?_)
      all_goals (refine at0 2 rfl (fun w' hq => pv_gtr rfl rfl) ?_)
      all_goals (refine at0 3 rfl (fun w' hq => pv_move rfl) ?_)
      all_goals (refine at2 4 rfl rfl rfl (fun w' hq => pv_load (t1 rfl) rfl (by first | exact PT.ld0 (H8.mono hq) rfl | exact PT.ld (H8.mono hq) rfl)) ?_)
      all_goals (refine at2 5 rfl rfl rfl (fun w' hq => pv_move rfl) ?_)
      all_goals (refine at2 6 rfl rfl rfl (fun w' hq => pv_move rfl) ?_)
      all_goals (refine at2 7 rfl rfl rfl (fun w' hq => pv_lenl (tS rfl) rfl) ?_)
      all_goals (refine at2 8 rfl rfl rfl (fun w' hq => pv_sub rfl rfl (by omega)) ?_)
      all_goals (refine at2 9 rfl rfl rfl (fun w' hq => pv_ia (tS rfl) rfl rfl (by omega)) ?_)
      all_goals (refine at2 10 rfl rfl rfl (fun w' hq => pv_fa (tF rfl) rfl) ?_)
      all_goals (refine at2 11 rfl rfl rfl (fun w' hq => pv_load (t1 rfl) rfl (hld _ hq)) ?_)
      all_goals (refine at2 12 rfl rfl rfl (fun w' hq => pv_lss rfl rfl) ?_)
      all_goals (refine at0 13 rfl (fun w' hq => pv_pick_t rfl (by first | assumption | exact decide_eq_true (by omega) | exact dec_notT (by omega)) rfl) ?_)
      all_goals (refine at0 14 rfl (fun w' hq => pv_assign rfl) ?_)
      all_goals (refine aw_done (by kernel_rfl) ?_; replace hw := hS; clear hS hNP)
      repeat' (first | (refine is_cw ?_; first | (refine cw_seq ?_) | (refine cw_region ?_) | (refine is_cd ?_; refine cw_true rfl (by first | assumption | exact decide_eq_true (by omega) | exact dec_notT (by omega)) ?_) | (refine cw_exit ?_)) | (refine is_qw ?_; first | (with_reducible refine qw_then ?_) | (with_reducible refine qw_in_hit ?_) | (refine qw_in_miss rfl ?_) | (with_reducible refine qw_then_exit ?_)))
      refine lw_store (H10.mono hw) (tZ rfl) rfl rfl rfl (by simp) ?_; intro wa Ha hga hza; have Hb := pt_kept (H11.mono hw) hga (by omega); refine lw_store Hb (tZ rfl) rfl rfl rfl (by simp) ?_; intro wb Hc hgb hzb; have Hd := pt_kept Ha hgb (by omega); have hwz := ((grow_trans hw0 hw).grown hga (by have := hw0.size; have := hw.size; omega) (fun q e => by injection e with e; omega)).grown hgb (by have := hw0.size; have := hw.size; omega) (fun q e => by injection e with e; omega)
      repeat' (first | (refine is_cw ?_; first | (refine cw_ret ?_)) | (refine is_qw ?_; first | (with_reducible refine qw_then ?_) | (with_reducible refine qw_then_ret ?_) | (with_reducible refine qw_in_ret ?_)) | (refine lw_nil ?_))
      exact qw_retM0 (qw_retcc rfl rfl rfl (one_ld (t1 rfl) (Hd.ld rfl)) (one_ld (t1 rfl) (Hc.ld rfl)) ⟨⟨_, rfl, Own.nil _⟩, hwz⟩)
    rw [hsq] at h6
    refine cw_drawn (fun w' => Below w4.heap.size w4 w') (by kernel_rfl) (by repeat (first | exact NoPanic.body | with_reducible refine NoPanic.then ?_ | with_reducible refine NoPanic.inBlock ?_)) (fun hNP => ?_)
    have hS := hw.drew
    all_goals (refine at0 0 rfl (fun w' hq => pv_move rfl) ?_)
    all_goals (refine at0 1 rfl (fun w' hq => pv_lenl (tS rfl) rfl) ?_)
    all_goals (refine at0 2 rfl (fun w' hq => pv_gtr rfl rfl) ?_)
    all_goals (refine at0 3 rfl (fun w' hq => pv_move rfl) ?_)
    all_goals (refine at2 4 rfl rfl rfl (fun w' hq => pv_load (t1 rfl) rfl (by first | exact PT.ld0 (H8.mono hq) rfl | exact PT.ld (H8.mono hq) rfl)) ?_)
    all_goals (refine at2 5 rfl rfl rfl (fun w' hq => pv_move rfl) ?_)
    all_goals (refine at2 6 rfl rfl rfl (fun w' hq => pv_move rfl) ?_)
    all_goals (refine at2 7 rfl rfl rfl (fun w' hq => pv_lenl (tS rfl) rfl) ?_)
    all_goals (refine at2 8 rfl rfl rfl (fun w' hq => pv_sub rfl rfl (by omega)) ?_)
    all_goals (refine at2 9 rfl rfl rfl (fun w' hq => pv_ia (tS rfl) rfl rfl (by omega)) ?_)
    all_goals (refine at2 10 rfl rfl rfl (fun w' hq => pv_fa (tF rfl) rfl) ?_)
    all_goals (refine at2 11 rfl rfl rfl (fun w' hq => pv_load (t1 rfl) rfl (hld _ hq)) ?_)
    all_goals (refine at2 12 rfl rfl rfl (fun w' hq => pv_lss rfl rfl) ?_)
    all_goals (refine at0 13 rfl (fun w' hq => pv_pick_t rfl (by first | assumption | exact decide_eq_true (by omega) | exact dec_notT (by omega)) rfl) ?_)
    all_goals (refine at0 14 rfl (fun w' hq => pv_assign rfl) ?_)
    all_goals (refine aw_done (by kernel_rfl) ?_; replace hw := hS; clear hS hNP)
    repeat' (first | (refine is_cw ?_; first | (refine is_cd ?_; refine cw_false rfl (by first | assumption | exact decide_eq_false (by omega) | exact dec_notF (by omega)) ?_) | (refine cw_skip ?_) | (refine cw_exit ?_)) | (refine is_qw ?_; first | (with_reducible refine qw_then ?_) | (with_reducible refine qw_in_hit ?_) | (refine qw_in_miss rfl ?_) | (with_reducible refine qw_then_exit ?_)))
    exact qw_join () (by repeat' (first | exact trivial | refine ⟨rfl, ?_⟩)) ⟨hw, h1, h2, h3, h4, h5, hsq.symm ▸ h6⟩
  rintro - w5 ⟨hw, h1, h2, h3, h4, h5, h6⟩
  repeat' (first | (refine lw_pure rfl (pv_move rfl) ?_) | (refine is_cw ?_; first | (refine cw_seq ?_) | (refine cw_region ?_)) | ((refine is_load ?_; first | (refine lw_pure rfl (pv_loada (tA rfl) rfl (by first | exact PT.lda (H9.mono hw)) (by rfl)) ?_))))
  refine lw_call (f := 24) (by kernel_rfl) rfl rfl (deltas_c hmn h4 h3 hmp hmt (HP.mono hw) (HL.mono hw) (HN.mono hw)) ?_; rintro e1 w6 ⟨⟨F, rfl, hF⟩, hb⟩; refine ⟨_, rfl, ?_⟩
  replace hw := grow_trans hw hb
  clear hb
  have hform : ¬ formL l p t seq e = false := by
    have : formL l p t seq e = true := by
      unfold formL
      simp only [Bool.and_eq_true, decide_eq_true_eq]
      exact ⟨⟨⟨⟨⟨h1, h2⟩, h3⟩, h4⟩, h5⟩, h6⟩
    rw [this]; simp
  by_cases hk0 : (rowsL p t e).1 = 0
  case neg =>
    have hR : stmtL l p t seq e = ((rowsL p t e).1, []) := by unfold stmtL; rw [if_neg hform, if_pos hk0]
    rw [hR]
    repeat' (first | (refine lw_pure rfl (pv_move rfl) ?_) | (refine lw_pure rfl (pv_assign rfl) ?_) | (refine is_cw ?_; first | (refine cw_seq ?_) | (refine cw_region ?_) | (refine is_cd ?_; refine cw_true rfl (by first | assumption | exact decide_eq_true (by omega) | exact dec_notT (by omega)) ?_)) | (refine is_qw ?_; first | (with_reducible refine qw_then ?_)) | (refine lw_nil ?_) | ((refine is_bin ?_; first | (refine lw_pure rfl (pv_neq rfl rfl) ?_))) | (refine lw_pure rfl (pv_extract rfl rfl) ?_))
    refine lw_store (H10.mono hw) (tZ rfl) rfl rfl rfl (by simp) ?_; intro wa Ha hga hza; have Hb := pt_kept (H11.mono hw) hga (by omega); refine lw_store Hb (tZ rfl) rfl rfl rfl (by simp) ?_; intro wb Hc hgb hzb; have Hd := pt_kept Ha hgb (by omega); have hwz := ((grow_trans hw0 hw).grown hga (by have := hw0.size; have := hw.size; omega) (fun q e => by injection e with e; omega)).grown hgb (by have := hw0.size; have := hw.size; omega) (fun q e => by injection e with e; omega)
    repeat' (first | (refine is_cw ?_; first | (refine cw_ret ?_)) | (refine is_qw ?_; first | (with_reducible refine qw_then ?_) | (with_reducible refine qw_then_ret ?_)) | (refine lw_nil ?_))
    exact qw_retM0 (qw_retcc rfl rfl rfl (one_ld (t1 rfl) (Hd.ld rfl)) (one_ld (t1 rfl) (Hc.ld rfl)) ⟨⟨_, rfl, Own.nil _⟩, hwz⟩)
  have hR : stmtL l p t seq e = match addsL seq e.kind l (rowsL p t e).2 with
    | some l' => (0, l')
    | none => (41, []) := by unfold stmtL; rw [if_neg hform, if_neg (by omega)]; rfl
  rw [hR]
  clear hR
  obtain ⟨A, B, a, ca, b, cb, rfl, HA, HB, SA, SB⟩ := hF hk0
  replace hw0 := grow_trans hw0 hw
  replace H8 := H8.mono hw
  replace H9 := H9.mono hw
  replace H10 := H10.mono hw
  replace H11 := H11.mono hw
  replace HS := HS.mono hw
  have hz6 := hw.size
  clear hw
  have hw := Below.refl w6.heap.size w6
  repeat' (first | (refine lw_pure rfl (pv_move rfl) ?_) | (refine lw_pure rfl (pv_assign rfl) ?_) | (refine is_cw ?_; first | (refine cw_seq ?_) | (refine cw_region ?_) | (refine is_cd ?_; refine cw_false rfl (by first | assumption | exact decide_eq_false (by omega) | exact dec_notF (by omega)) ?_) | (refine cw_skip ?_)) | (refine is_qw ?_; first | (with_reducible refine qw_then ?_)) | (refine lw_nil ?_) | ((refine is_bin ?_; first | (refine lw_pure rfl (pv_neq rfl rfl) ?_))) | (refine lw_pure rfl (pv_extract rfl rfl) ?_))
  refine lw_call (f := 25) (by kernel_rfl) rfl rfl (clone_N hml (HS.mono hw) (by omega)) ?_; rintro e1 w7 ⟨⟨v, rfl, hO⟩, hb⟩; refine ⟨_, rfl, ?_⟩
  replace hw := grow_trans hw hb
  clear hb
  obtain ⟨a', c', rfl, HXs, hbs⟩ := Own.slR encN_len hO
  refine lw_allocN rfl zvS rfl ?_; intro N14 w8 hN14 H14 hb
  replace hO := hO.mono hb
  have hz7 := hw.size
  replace hw := grow_trans hw hb
  clear hb
  refine lw_store H14 (tZ rfl) rfl rfl rfl (by rw [show (Value.slice none 0 0).cells.toList = [.slice none 0 0] from rfl]; simp) ?_; intro w9 H14b hg9 hz9
  have hne := own_ne_pt hO H14 (by decide)
  replace hO := Own.kept hO hg9 (Or.inr hne)
  replace hw := hw.grown hg9 hw.size (fun q e => by injection e with e; omega)
  refine lw_nil ?_
  repeat' ((fail_if_success (refine is_seqb ?_)); (fail_if_success (refine is_blk ?_)); first | (refine lw_pure rfl (pv_move rfl) ?_) | (refine is_cw ?_; first | (refine cw_seq ?_) | (refine cw_region ?_)) | (refine is_qw ?_; first | (with_reducible refine qw_then ?_)) | (refine lw_nil ?_))
  have hbl := bal_in h1
  refine cw_block ?_
  refine cw_range (k := 0) (σ := Unit) (ps := [72, 73]) (encs := fun x : Nz => encY x.1) rfl (by kernel_rfl) (rows_stops rfl HA HB SA SB (rows_in h4 h3)) (fun h k => h.trans k) (belowK_b hw.size) hw (fun _ => rfl) (by intro p hp; simp at hp; rcases hp with rfl | rfl <;> rfl)
    (EvI w9.heap.size w6 N8 N9 N10 N11 N14 l seq e.kind [.int .u8 e.v, .int .u8 e.kind, .slice an mn cn, .slice ax mx cx]) (EvX w N10 N11 l seq e.kind) ?_ ?_ ?_ (fun x y => [(8, .pointer (some ⟨N8, 0, none⟩)), (9, .pointer (some ⟨N9, 0, none⟩)), (10, .pointer (some ⟨N10, 0, none⟩)), (11, .pointer (some ⟨N11, 0, none⟩)), (14, .pointer (some ⟨N14, 0, none⟩)), (15, .int .i64 x.1.1), (16, .int .i64 x.1.2)]) (fun _ _ _ => True) (fun _ _ _ _ _ _ _ _ _ => trivial) ?_ ?_ ?_ ?_
  · rintro s A' C row ⟨q1, q2, q3, q4, q5, q6, v, xs, q7, q8, q9, q10, q11⟩ hg hr
    exact ⟨below_from q1 hw.size hg hr, Nat.le_trans q2 hg.size, pt_from q3 hg hr, pt_from q4 hg hr, pt_from q5 hg hr, pt_from q6 hg hr, v, xs, pt_from q7 hg hr, own_from q8 hg hr, q9, q10, q11⟩
  · rintro cc s A' C row ⟨q1, q2, q3, q4, q5⟩ hg hr
    exact ⟨q1, q2, below_from q3 (by have := hw0.size; have := hw.size; omega) hg hr, pt_from q4 hg hr, pt_from q5 hg hr⟩
  · exact ⟨hw, Nat.le_refl _, H8.mono hw, H9.mono hw, H10.mono hw, H11.mono hw, _, l, H14b, hO, rfl, by simp, hbl⟩
  · rintro ln pre x W hI
    repeat' (first | (refine lw_pure rfl (pv_assign rfl) ?_) | (refine is_cw ?_; first | (refine cw_seq ?_) | (refine cw_region ?_)) | (refine is_qw ?_; first | (with_reducible refine qw_then ?_)) | (refine lw_nil ?_))
    exact qw_as () (by repeat' (first | exact trivial | refine ⟨rfl, ?_⟩)) trivial (keeps_below (Below.refl _ _)) (Below.refl _ _) hI
  · rintro ln pre x y W - - ⟨q1, q2, q3, q4, q5, q6, v, xs, q7, q8, q9, q10, q11⟩ - hpl
    have hw9 := hw
    clear hw
    have hw := Below.refl W.heap.size W
    have hfew := rows_few p t e
    obtain ⟨a2, c2, rfl, HX2, hbs2⟩ := Own.slR encN_len q8
    refine cw_block ?_
    repeat' (first | (refine lw_pure rfl (pv_move rfl) ?_) | (refine is_cw ?_; first | (refine cw_seq ?_) | (refine cw_region ?_)) | ((refine is_load ?_; first | (refine lw_pure rfl (pv_load (t1 rfl) rfl (by first | exact PT.ld0 (q7.mono hw) rfl | exact PT.ld (q7.mono hw) rfl)) ?_))))
    refine lw_call (f := 19) (by kernel_rfl) rfl rfl (balance_c x.1.1 rfl HX2) ?_; rintro e1 w10 ⟨rfl, hb⟩; refine ⟨_, rfl, ?_⟩; replace hw := grow_trans hw hb; clear hb
    repeat' (first | (refine lw_pure rfl (pv_move rfl) ?_))
    refine lw_call (f := 26) (by kernel_rfl) rfl rfl (madd_c (balL xs x.1.1) x.1.2 w10 (by have := q11 x.1.1; omega) x.2.2) ?_; rintro e1 w11 ⟨rfl, hb⟩; refine ⟨_, rfl, ?_⟩; replace hw := grow_trans hw hb; clear hb
    generalize hz : balL xs x.1.1 + x.1.2 = z
    by_cases hzr : 0 ≤ z ∧ z ≤ 1125899906842624
    · have hfar : farS z = false := by unfold farS; simp; omega
      have e1 : toldN z = z := by unfold toldN; rw [hfar]; rfl
      have e2 : toldE z = 0 := by unfold toldE; rw [hfar]; rfl
      rw [e1, e2]
      repeat' (first | (refine lw_pure rfl (pv_move rfl) ?_) | (refine lw_pure rfl (pv_assign rfl) ?_) | (refine lw_call (f := 27) (by kernel_rfl) rfl rfl (fitsL_c _ _) ?_; rintro e2 w12 ⟨rfl, hb⟩; refine ⟨_, rfl, ?_⟩; replace hw := grow_trans hw hb; clear hb) | (refine is_cw ?_; first | (refine cw_seq ?_) | (refine cw_region ?_) | (refine is_cd ?_; refine cw_false rfl (by first | assumption | exact decide_eq_false (by omega) | exact dec_notF (by omega)) ?_) | (refine cw_skip ?_)) | (refine is_qw ?_; first | (with_reducible refine qw_then ?_)) | (refine lw_nil ?_) | (refine is_guarded ?_; first | (refine lw_on rfl rfl rfl ?_)) | ((refine is_bin ?_; first | (refine lw_pure rfl (pv_neq rfl rfl) ?_))) | ((refine is_un ?_; first | (refine lw_pure rfl (pv_not rfl) ?_))) | (refine is_pk ?_; refine lw_pure rfl (pv_pick_f rfl rfl rfl) ?_) | (refine lw_pure rfl (pv_extract rfl rfl) ?_))
      have hzw := hw.size
      have hq1 := q1.size
      have hz0 := hw0.size
      have hk1 : KeepsFrom w9.heap.size W w12 := keeps_below hw
      have hb1 : Below w6.heap.size W w12 := hw.mono hq1
      replace q3 := q3.mono hw
      replace q4 := q4.mono hw
      replace q5 := q5.mono hw
      replace q6 := q6.mono hw
      replace q7 := q7.mono hw
      replace q8 := q8.mono hw
      clear hw
      have hw := Below.refl w12.heap.size w12
      repeat' (first | (refine lw_pure rfl (pv_move rfl) ?_) | ((refine is_load ?_; first | (refine lw_pure rfl (pv_load (t1 rfl) rfl (by first | exact PT.ld0 (q7.mono hw) rfl | exact PT.ld (q7.mono hw) rfl | exact PT.ld0 (q3.mono hw) rfl | exact PT.ld (q3.mono hw) rfl | exact PT.ld0 (q4.mono hw) rfl | exact PT.ld (q4.mono hw) rfl)) ?_))) | ((refine is_fa ?_; first | (refine lw_pure rfl (pv_fa (tF rfl) rfl) ?_))) | ((refine is_bd ?_; first | (refine lw_pure rfl (tyB_30 rfl rfl rfl) ?_))))
      refine lw_bs1 elemLn rfl rfl (cs := encN ⟨x.1.1, seq, e.kind, x.1.2, z⟩) rfl rfl (by omega) ?_; intro wb HB2 hb hz'
      have hlp : pre.length < (rowsL p t e).2.length := hpl
      skip
      refine lw_app elemLn encN_len encN_one rfl rfl rfl (q8.mono hb) (HB2.slR (xs := [⟨x.1.1, seq, e.kind, x.1.2, z⟩]) encN_len rfl (by simp)) rfl (by omega) (by simp; omega) (by simp [maxLen]; omega) ?_; intro v9 w13 hO9 hg9 hb9
      have hne4 := own_ne_pt (q8.mono hb) (q7.mono hb) (by decide)
      have h14b : PT w13 N14 27 [.slice a2 xs.length c2] := (hg9.block N14 (q7.mono hb).lt (fun e => hne4 e.symm)).trans (q7.mono hb)
      obtain ⟨a3, c3, rfl, -, -⟩ := Own.slR encN_len hO9
      have hne5 := own_ne_pt hO9 h14b (by decide)
      have h13 := hb9.size
      refine lw_store h14b (tZ rfl) rfl rfl rfl (by simp) ?_; intro w14 H14c hg14 hz14
      have hO14 := Own.kept hO9 hg14 (Or.inr hne5)
      have hb2 : Below w6.heap.size w12 w14 := ((hb.mono (by omega)).trans hb9).grown hg14 (by omega) (fun q e => by injection e with e; omega)
      have hk2 := ((hk1.trans (keeps_below hb)).trans (keeps_own (q8.mono hb) hg9)).trans (keeps_pt h14b hg14)
      refine lw_nil ?_
      have hlow : ∀ {N : Nat} {T : TypeId} {cs : List Value}, N < w6.heap.size → PT w12 N T cs → PT w14 N T cs := fun hlt h => (hb2.block _ hlt).trans h
      have happ : addsL seq e.kind l ((pre ++ [x]).map (·.1)) = some (xs ++ [⟨x.1.1, seq, e.kind, x.1.2, z⟩]) := by
        rw [List.map_append, adds_app, q9]
        show (addL xs seq e.kind x.1.1 x.1.2).bind _ = _
        rw [addL_yes x.2.1 (by rw [hz]; exact hzr), hz]; rfl
      refine qw_in ?_
      refine qw_round1 hk2 (hb1.trans hb2) ⟨q1.trans (hb1.trans hb2), by omega, hlow (by omega) q3, hlow (by omega) q4, hlow (by omega) q5, hlow (by omega) q6, _, _, H14c, hO14, happ, by simp; omega, ?_⟩
      intro y
      rw [balL_snoc]
      split
      · exact hzr
      · exact q11 y
    · have hno : addL xs seq e.kind x.1.1 x.1.2 = none := addL_no x.2.1 (by rw [hz]; exact hzr)
      have happ : addsL seq e.kind l ((pre ++ [x]).map (·.1)) = none := by
        rw [List.map_append, adds_app, q9]
        show (addL xs seq e.kind x.1.1 x.1.2).bind _ = none
        rw [hno]; rfl
      by_cases hfr : toldE z = 0
      · have e1 : toldN z = z := by
          unfold toldE at hfr; unfold toldN
          split at hfr
          · cases hfr
          · rename_i h; rw [if_neg h]
        rw [hfr, e1]
        repeat' (first | (refine lw_pure rfl (pv_move rfl) ?_) | (refine lw_pure rfl (pv_assign rfl) ?_) | (refine lw_call (f := 27) (by kernel_rfl) rfl rfl (fitsL_c _ _) ?_; rintro e w1 ⟨rfl, hb⟩; refine ⟨_, rfl, ?_⟩; replace hw := grow_trans hw hb; clear hb) | (refine is_cw ?_; first | (refine cw_seq ?_) | (refine cw_region ?_) | (refine is_cd ?_; refine cw_true rfl (by first | assumption | exact decide_eq_true (by omega) | exact dec_notT (by omega)) ?_)) | (refine is_qw ?_; first | (with_reducible refine qw_then ?_)) | (refine lw_nil ?_) | (refine is_guarded ?_; first | (refine lw_on rfl rfl rfl ?_)) | ((refine is_bin ?_; first | (refine lw_pure rfl (pv_neq rfl rfl) ?_))) | ((refine is_un ?_; first | (refine lw_pure rfl (pv_not rfl) ?_))) | (refine is_pk ?_; refine lw_pure rfl (pv_pick_f rfl rfl rfl) ?_) | (refine lw_pure rfl (pv_extract rfl rfl) ?_))
        refine lw_store (q5.mono hw) (tZ rfl) rfl rfl rfl (by simp) ?_; intro wa Ha hga hza
        have Hb := pt_kept (q6.mono hw) hga (by omega)
        refine lw_store Hb (tZ rfl) rfl rfl rfl (by simp) ?_; intro wb Hc hgb hzb
        have Hd := pt_kept Ha hgb (by omega)
        have hz0 := hw0.size
        have hzw := hw.size
        have hz6 := q1.size
        have hB2 := (((hw0.trans (q1.mono hz0)).trans (hw.mono (by omega))).grown hga (by omega) (fun q e => by injection e with e; omega)).grown hgb (by omega) (fun q e => by injection e with e; omega)
        refine lw_nil ?_
        refine qw_then ?_
        refine cw_ret ?_
        refine qw_then_ret ?_
        refine qw_in_ret ?_
        exact qw_leave (((keeps_below hw).trans (keeps_pt (q5.mono hw) hga)).trans (keeps_pt Hb hgb)) ⟨rfl, happ, hB2, Hd, Hc⟩
      · repeat' (first | (refine lw_pure rfl (pv_move rfl) ?_) | (refine lw_pure rfl (pv_assign rfl) ?_) | (refine is_cw ?_; first | (refine cw_seq ?_) | (refine cw_region ?_) | (refine cw_true rfl rfl ?_)) | (refine is_qw ?_; first | (with_reducible refine qw_then ?_)) | (refine lw_nil ?_) | (refine is_guarded ?_; first | (refine lw_not rfl rfl rfl (by first | assumption | exact decide_eq_true (by omega) | exact decide_eq_false (by omega) | exact dec_notT (by omega) | exact dec_notF (by omega)) ?_)) | ((refine is_bin ?_; first | (refine lw_pure rfl (pv_neq rfl rfl) ?_))) | (refine is_pk ?_; refine lw_pure rfl (pv_pick_t rfl (by first | assumption | exact decide_eq_true (by omega) | exact dec_notT (by omega)) rfl) ?_) | (refine lw_pure rfl (pv_extract rfl rfl) ?_))
        refine lw_store (q5.mono hw) (tZ rfl) rfl rfl rfl (by simp) ?_; intro wa Ha hga hza
        have Hb := pt_kept (q6.mono hw) hga (by omega)
        refine lw_store Hb (tZ rfl) rfl rfl rfl (by simp) ?_; intro wb Hc hgb hzb
        have Hd := pt_kept Ha hgb (by omega)
        have hz0 := hw0.size
        have hzw := hw.size
        have hz6 := q1.size
        have hB2 := (((hw0.trans (q1.mono hz0)).trans (hw.mono (by omega))).grown hga (by omega) (fun q e => by injection e with e; omega)).grown hgb (by omega) (fun q e => by injection e with e; omega)
        refine lw_nil ?_
        refine qw_then ?_
        refine cw_ret ?_
        refine qw_then_ret ?_
        refine qw_in_ret ?_
        exact qw_leave (((keeps_below hw).trans (keeps_pt (q5.mono hw) hga)).trans (keeps_pt Hb hgb)) ⟨rfl, happ, hB2, Hd, Hc⟩
  · rintro D ys W hD hS' ⟨q1, q2, q3, q4, q5, q6, v, xs, q7, q8, q9, q10, q11⟩ hW
    refine qw_in ?_
    refine qw_then ?_
    have hadd : addsL seq e.kind l (rowsL p t e).2 = some xs := by rw [← adds_notZ, ← (show ys.map (·.1) = notZ (rowsL p t e).2 from hS')]; exact q9
    rw [hadd]
    have hw9 := hw
    clear hw
    have hw := Below.refl W.heap.size W
    have hz0 := hw0.size
    have hz9' := hw9.size
    obtain ⟨a2, c2, rfl, HX2, hbs2⟩ := Own.slR encN_len q8
    have hne2 := own_ne_pt q8 q5 (by decide)
    have hne3 := own_ne_pt q8 q6 (by decide)
    repeat' (first | (refine is_cw ?_; first | (refine cw_seq ?_) | (refine cw_region ?_)) | ((refine is_load ?_; first | (refine lw_pure rfl (pv_load (t1 rfl) rfl (by first | exact PT.ld0 (q7.mono hw) rfl | exact PT.ld (q7.mono hw) rfl)) ?_))))
    refine lw_store q5 (tZ rfl) rfl rfl rfl (by simp) ?_; intro wa Ha hga hza
    have Hb := pt_kept q6 hga (by omega)
    refine lw_store Hb (tZ rfl) rfl rfl rfl (by simp) ?_; intro wb Hc hgb hzb
    have Hd := pt_kept Ha hgb (by omega)
    have hO2 := Own.kept (Own.kept q8 hga (Or.inr hne2)) hgb (Or.inr hne3)
    have hB2 := ((hw0.trans (q1.mono hz0)).grown hga (by omega) (fun q e => by injection e with e; omega)).grown hgb (by omega) (fun q e => by injection e with e; omega)
    have hWb : wb.heap[D]? = some (.deferred (some [])) := (hgb.block D (by rw [hza]; exact (Array.getElem?_eq_some_iff.1 hW).1) (fun e => by injection e with e; omega)).trans ((hga.block D (Array.getElem?_eq_some_iff.1 hW).1 (fun e => by injection e with e; omega)).trans hW)
    refine lw_nil ?_
    refine qw_then ?_
    refine cw_ret ?_
    obtain ⟨k1, k2⟩ := put_keep (by omega) hWb hB2 (by omega : N10 ≠ D) Hd
    obtain ⟨-, k3⟩ := put_keep (by omega) hWb hB2 (by omega : N11 ≠ D) Hc
    have hO3 := own_from (B := 0) hO2 (grownBy_putObj' wb D (.deferred none)) (by intro r e; injection e with e; subst e; exact ⟨Nat.zero_le _, _, hWb, rfl⟩)
    exact qw_retM1 hWb (qw_retcc rfl rfl rfl (one_ld (t1 rfl) (k2.ld rfl)) (one_ld (t1 rfl) (k3.ld rfl)) ⟨⟨_, rfl, hO3.weaken hz0⟩, k1⟩)
  · rintro D cc pre W hD hS' ⟨rfl, q2, q3, q4, q5⟩ hW
    refine cw_ret ?_
    refine qw_in_ret ?_
    refine qw_then_ret ?_
    have hadd : addsL seq e.kind l (rowsL p t e).2 = none := by
      obtain ⟨r, hr⟩ := hS'
      rw [← adds_notZ, ← hr, adds_app, q2]; rfl
    rw [hadd]
    have hz0 := hw0.size
    have hz9' := hw.size
    obtain ⟨k1, k2⟩ := put_keep (by omega) hW q3 (by omega : N10 ≠ D) q4
    obtain ⟨-, k3⟩ := put_keep (by omega) hW q3 (by omega : N11 ≠ D) q5
    exact qw_retM1 hW (qw_retcc rfl rfl rfl (one_ld (t1 rfl) (k2.ld rfl)) (one_ld (t1 rfl) (k3.ld rfl)) ⟨⟨_, rfl, Own.nil _⟩, k1⟩)
end Go.Proofs.YtnffmbfdfhokeaaDoor.R
namespace Go.Proofs.YtnffmbfdfhokeaaDoor
open Go.RowKit Go.PlainAid

theorem neq_N (x y : Ln) (w : World) : (binOp .neq 30 (.agg (encN x).toArray) (.agg (encN y).toArray)).run Tryd.prog w = .ok (.bool (!decide (x = y))) w := by
  have hS : (Tryd.prog).underlying 30 = some (.struct ((Tryd.prog).fieldsOf 30)) := by kernel_rfl
  have hp : (Tryd.prog).stoodInHeld 30 = false := by kernel_rfl
  unfold encN
  rw [run_neq_struct, show (10000 : Nat) = 9999 + 1 from rfl, run_equalIn_agg w 9999 30 _ _ hS hp]
  have h : (decide (x = y)) = (x.acct == y.acct && (x.seq == y.seq && (x.kind == y.kind && (x.delta == y.delta && x.bal == y.bal)))) := by
    rw [Bool.eq_iff_iff]
    cases x; cases y; simp
  rw [h]
  simp only [Program.fieldsOf, Tryd.underlying30]
  go_simp
  by_cases h1 : x.acct = y.acct <;> by_cases h2 : x.seq = y.seq <;> by_cases h3 : x.kind = y.kind <;> by_cases h4 : x.delta = y.delta <;> by_cases h5 : x.bal = y.bal <;> simp [*]
theorem eql_N (x y : Ln) (w : World) : (binOp .eql 30 (.agg (encN x).toArray) (.agg (encN y).toArray)).run Tryd.prog w = .ok (.bool (decide (x = y))) w := by
  have hS : (Tryd.prog).underlying 30 = some (.struct ((Tryd.prog).fieldsOf 30)) := by kernel_rfl
  have hp : (Tryd.prog).stoodInHeld 30 = false := by kernel_rfl
  unfold encN
  rw [run_eql_struct, show (10000 : Nat) = 9999 + 1 from rfl, run_equalIn_agg w 9999 30 _ _ hS hp]
  have h : (decide (x = y)) = (x.acct == y.acct && (x.seq == y.seq && (x.kind == y.kind && (x.delta == y.delta && x.bal == y.bal)))) := by
    rw [Bool.eq_iff_iff]
    cases x; cases y; simp
  rw [h]
  simp only [Program.fieldsOf, Tryd.underlying30]
  go_simp
  by_cases h1 : x.acct = y.acct <;> by_cases h2 : x.seq = y.seq <;> by_cases h3 : x.kind = y.kind <;> by_cases h4 : x.delta = y.delta <;> by_cases h5 : x.bal = y.bal <;> simp [*]
theorem pv_neqN {n : Nat} {l : Fr} {w : World} {d : Option Nat} {t' ty : TypeId} {x y : Operand} {pos : String} {af : Array Edge} {g : Option (Nat × Bool)} (a b : Ln) (hx : ev l x = some (.agg (encN a).toArray)) (hy : ev l y = some (.agg (encN b).toArray)) : Pv Tryd.prog n l ⟨d, .binOp .neq 30 x y t', ty, pos, af, g⟩ (.bool (!decide (a = b))) w := ⟨fun A hA => by
  have h1 : (eqGuard .neq 30 x y (.agg (encN a).toArray) (.agg (encN b).toArray)).run Tryd.prog w = .ok () w := run_eqGuard_agg w .neq 30 x y _ _ (by kernel_rfl)
  have h2 := neq_N a b w
  simp [execOp, hA.ev hx, hA.ev hy, h1, h2]⟩
theorem pv_eqlN {n : Nat} {l : Fr} {w : World} {d : Option Nat} {t' ty : TypeId} {x y : Operand} {pos : String} {af : Array Edge} {g : Option (Nat × Bool)} (a b : Ln) (hx : ev l x = some (.agg (encN a).toArray)) (hy : ev l y = some (.agg (encN b).toArray)) : Pv Tryd.prog n l ⟨d, .binOp .eql 30 x y t', ty, pos, af, g⟩ (.bool (decide (a = b))) w := ⟨fun A hA => by
  have h1 : (eqGuard .eql 30 x y (.agg (encN a).toArray) (.agg (encN b).toArray)).run Tryd.prog w = .ok () w := run_eqGuard_agg w .eql 30 x y _ _ (by kernel_rfl)
  have h2 := eql_N a b w
  simp [execOp, hA.ev hx, hA.ev hy, h1, h2]⟩

set_option maxRecDepth 20000 in
theorem rsame_N {p q : List Ln} {m n : Nat} {a b : Option Addr} {ca cb : Nat} {w : World} (hm : p.length = m) (hn : q.length = n) (HP : SlR encN 5 w a ca p) (HQ : SlR encN 5 w b cb q) : Calls Tryd.prog 12 #[.slice a m ca, .slice b n cb] w fun e w' => e = .returned (.bool (decide (p = q))) ∧ Below w.heap.size w w' := by
  subst hm hn
  have hw := Below.refl w.heap.size w
  have hca := HP.le
  have hcm := HP.max
  refine fn_enter 26 Tryd.func12 rfl rfl rfl ?_
  by_cases hl : p.length = q.length
  · repeat' ((fail_if_success (refine is_seqb ?_)); (fail_if_success (refine is_blk ?_)); first | (refine lw_pure rfl (pv_move rfl) ?_) | (refine lw_pure rfl (pv_assign rfl) ?_) | (refine is_cw ?_; first | (refine cw_seq ?_) | (refine cw_region ?_) | (refine cw_true rfl rfl ?_) | (refine cw_false rfl rfl ?_) | (refine is_cd ?_; refine cw_true rfl (by first | assumption | exact decide_eq_true (by omega) | exact dec_notT (by omega)) ?_) | (refine is_cd ?_; refine cw_false rfl (by first | assumption | exact decide_eq_false (by omega) | exact dec_notF (by omega)) ?_) | (refine cw_skip ?_) | (refine cw_block ?_) | (refine cw_exit ?_) | (refine cw_ret ?_)) | (refine is_qw ?_; first | (with_reducible refine qw_then ?_) | (with_reducible refine qw_in ?_) | (with_reducible refine qw_in_hit ?_) | (refine qw_in_miss rfl ?_) | (with_reducible refine qw_then_exit ?_) | (with_reducible refine qw_then_ret ?_) | (with_reducible refine qw_in_ret ?_)) | (refine lw_nil ?_) | ((refine is_bin ?_; first | (refine lw_pure rfl (pv_lss rfl rfl) ?_) | (refine lw_pure rfl (pv_neq rfl rfl) ?_) | (refine lw_pure rfl (pv_inc rfl rfl (by omega)) ?_) | (refine lw_pure rfl (pv_add rfl rfl (by omega)) ?_))) | ((refine is_load ?_; first | (refine lw_pure rfl (pv_load (t1 rfl) rfl (by first | fail)) ?_) | (refine lw_pure rfl (pv_loada (tA rfl) rfl (by first | fail) (by rfl)) ?_))) | ((refine is_ia ?_; first | (refine lw_pure rfl (pv_ian (tS rfl) rfl rfl (by omega)) ?_) | (refine lw_pure rfl (pv_ia (tS rfl) rfl rfl (by omega)) ?_))) | ((refine is_bi ?_; first | (refine lw_pure rfl (pv_lenl (tS rfl) rfl) ?_) | (refine lw_pure rfl (pv_lens (tStr rfl) rfl) ?_))) | (refine is_cw ?_; refine cw_split rfl (fun hc => ?_) (fun hc => ?_) <;> (first | replace hc := of_decide_eq_true hc | replace hc := of_decide_eq_false hc | replace hc := dec_nT hc | replace hc := dec_nF hc | skip) <;> (try (exfalso; omega))))
    repeat' (first | (refine lw_pure rfl (pv_move rfl) ?_) | (refine lw_pure rfl (pv_assign rfl) ?_) | (refine is_cw ?_; first | (refine cw_seq ?_) | (refine cw_region ?_) | (refine cw_true rfl rfl ?_) | (refine cw_false rfl rfl ?_) | (refine is_cd ?_; refine cw_true rfl (by first | assumption | exact decide_eq_true (by omega) | exact dec_notT (by omega)) ?_) | (refine is_cd ?_; refine cw_false rfl (by first | assumption | exact decide_eq_false (by omega) | exact dec_notF (by omega)) ?_) | (refine cw_skip ?_) | (refine cw_block ?_) | (refine cw_exit ?_) | (refine cw_ret ?_)) | (refine is_qw ?_; first | (with_reducible refine qw_then ?_) | (with_reducible refine qw_in ?_) | (with_reducible refine qw_in_hit ?_) | (refine qw_in_miss rfl ?_) | (with_reducible refine qw_then_exit ?_) | (with_reducible refine qw_then_ret ?_) | (with_reducible refine qw_in_ret ?_)) | (refine lw_nil ?_) | ((refine is_bin ?_; first | (refine lw_pure rfl (pv_lss rfl rfl) ?_) | (refine lw_pure rfl (pv_neq rfl rfl) ?_) | (refine lw_pure rfl (pv_inc rfl rfl (by omega)) ?_) | (refine lw_pure rfl (pv_add rfl rfl (by omega)) ?_))) | ((refine is_load ?_; first | (refine lw_pure rfl (pv_load (t1 rfl) rfl (by first | fail)) ?_) | (refine lw_pure rfl (pv_loada (tA rfl) rfl (by first | fail) (by rfl)) ?_))) | ((refine is_ia ?_; first | (refine lw_pure rfl (pv_ian (tS rfl) rfl rfl (by omega)) ?_) | (refine lw_pure rfl (pv_ia (tS rfl) rfl rfl (by omega)) ?_))) | ((refine is_bi ?_; first | (refine lw_pure rfl (pv_lenl (tS rfl) rfl) ?_) | (refine lw_pure rfl (pv_lens (tStr rfl) rfl) ?_))))
    refine cw_loop (σ := Nat) (fun k => [(0, .slice a p.length ca), (1, .slice b q.length cb), (5, .int .i64 (k : Nat))]) (fun k wr => k ≤ p.length ∧ Below w.heap.size w wr ∧ ∀ j, j < k → p[j]? = q[j]?) (fun k => p.length - k) 0 (by repeat' (first | exact trivial | refine ⟨rfl, ?_⟩)) ⟨Nat.zero_le _, hw, by omega⟩ ?_
    clear hw
    rintro k wr ⟨hk, hw, hn⟩
    by_cases hlt : k < p.length
    · have hxk : p[k]? = some p[k] := List.getElem?_eq_getElem hlt
      have hyk : q[k]? = some (q[k]'(by omega)) := List.getElem?_eq_getElem _
      obtain ⟨ab, ao, rfl, -, -⟩ := HP.at (by intro h; rw [h] at hlt; simp at hlt)
      obtain ⟨bb, bo, rfl, -, -⟩ := HQ.at (by intro h; rw [h] at hl; rw [hl] at hlt; simp at hlt)
      generalize p[k] = x at hxk
      generalize q[k] = y at hyk
      repeat' (first | (refine lw_pure rfl (pv_move rfl) ?_) | (refine lw_pure rfl (pv_assign rfl) ?_) | (refine is_cw ?_; first | (refine cw_seq ?_) | (refine cw_region ?_) | (refine cw_true rfl rfl ?_) | (refine cw_false rfl rfl ?_) | (refine is_cd ?_; refine cw_true rfl (by first | assumption | exact decide_eq_true (by omega) | exact dec_notT (by omega)) ?_) | (refine is_cd ?_; refine cw_false rfl (by first | assumption | exact decide_eq_false (by omega) | exact dec_notF (by omega)) ?_) | (refine cw_skip ?_) | (refine cw_block ?_) | (refine cw_exit ?_) | (refine cw_ret ?_)) | (refine is_qw ?_; first | (with_reducible refine qw_then ?_) | (with_reducible refine qw_in ?_) | (with_reducible refine qw_in_hit ?_) | (refine qw_in_miss rfl ?_) | (with_reducible refine qw_then_exit ?_) | (with_reducible refine qw_then_ret ?_) | (with_reducible refine qw_in_ret ?_)) | (refine lw_nil ?_) | ((refine is_bin ?_; first | (refine lw_pure rfl (pv_lss rfl rfl) ?_) | (refine lw_pure rfl (pv_neq rfl rfl) ?_) | (refine lw_pure rfl (pv_inc rfl rfl (by omega)) ?_) | (refine lw_pure rfl (pv_add rfl rfl (by omega)) ?_))) | ((refine is_load ?_; first | (refine lw_pure rfl (pv_load (t1 rfl) rfl (by first | fail)) ?_) | (refine lw_pure rfl (pv_loada (tA rfl) rfl (by first | fail) (by rfl)) ?_))) | ((refine is_ia ?_; first | (refine lw_pure rfl (pv_ian (tS rfl) rfl rfl (by omega)) ?_) | (refine lw_pure rfl (pv_ia (tS rfl) rfl rfl (by omega)) ?_))) | ((refine is_bi ?_; first | (refine lw_pure rfl (pv_lenl (tS rfl) rfl) ?_) | (refine lw_pure rfl (pv_lens (tStr rfl) rfl) ?_))))
      refine cw_drawn (fun w' => Below w.heap.size w w') (by kernel_rfl) (by repeat (first | exact NoPanic.body | with_reducible refine NoPanic.then ?_ | with_reducible refine NoPanic.inBlock ?_)) (fun hNP => ?_)
      have hS := hw.drew
      (refine at0 0 rfl (fun w' hq => pv_move rfl) ?_)
      (refine at0 1 rfl (fun w' hq => pv_move rfl) ?_)
      first | (refine at0 2 rfl (fun w' hq => pv_ian (tS rfl) rfl rfl (by omega)) ?_) | (refine at0 2 rfl (fun w' hq => pv_ia (tS rfl) rfl rfl (by omega)) ?_)
      first | (refine at0 3 rfl (fun w' hq => pv_load (t1 rfl) rfl (by first | exact SlR.ld (HP.mono hq) hxk rfl | exact SlR.ld1 (HP.mono hq) hxk rfl | exact SlR.ld (HQ.mono hq) hyk rfl | exact SlR.ld1 (HQ.mono hq) hyk rfl)) ?_) | (refine at0 3 rfl (fun w' hq => pv_loada (tA rfl) rfl (by first | exact SlR.lda (HP.mono hq) hxk | exact SlR.lda (HQ.mono hq) hyk) (by rfl)) ?_)
      (refine at0 4 rfl (fun w' hq => pv_move rfl) ?_)
      (refine at0 5 rfl (fun w' hq => pv_move rfl) ?_)
      first | (refine at0 6 rfl (fun w' hq => pv_ian (tS rfl) rfl rfl (by omega)) ?_) | (refine at0 6 rfl (fun w' hq => pv_ia (tS rfl) rfl rfl (by omega)) ?_)
      first | (refine at0 7 rfl (fun w' hq => pv_load (t1 rfl) rfl (by first | exact SlR.ld (HP.mono hq) hxk rfl | exact SlR.ld1 (HP.mono hq) hxk rfl | exact SlR.ld (HQ.mono hq) hyk rfl | exact SlR.ld1 (HQ.mono hq) hyk rfl)) ?_) | (refine at0 7 rfl (fun w' hq => pv_loada (tA rfl) rfl (by first | exact SlR.lda (HP.mono hq) hxk | exact SlR.lda (HQ.mono hq) hyk) (by rfl)) ?_)
      first | (refine at0 8 rfl (fun w' hq => pv_neqN _ _ rfl rfl) ?_) | (refine at0 8 rfl (fun w' hq => pv_lss rfl rfl) ?_) | (refine at0 8 rfl (fun w' hq => pv_neq rfl rfl) ?_) | (refine at0 8 rfl (fun w' hq => pv_inc rfl rfl (by omega)) ?_) | (refine at0 8 rfl (fun w' hq => pv_add rfl rfl (by omega)) ?_)
      refine aw_done (by kernel_rfl) ?_
      replace hw := hS; clear hS hNP
      by_cases hxy : x = y
      · repeat' (first | (refine lw_pure rfl (pv_move rfl) ?_) | (refine lw_pure rfl (pv_assign rfl) ?_) | (refine is_cw ?_; first | (refine cw_seq ?_) | (refine cw_region ?_) | (refine cw_true rfl rfl ?_) | (refine cw_false rfl rfl ?_) | (refine is_cd ?_; refine cw_true rfl (by first | assumption | exact decide_eq_true (by omega) | exact dec_notT (by omega)) ?_) | (refine is_cd ?_; refine cw_false rfl (by first | assumption | exact decide_eq_false (by omega) | exact dec_notF (by omega)) ?_) | (refine cw_skip ?_) | (refine cw_block ?_) | (refine cw_exit ?_) | (refine cw_ret ?_)) | (refine is_qw ?_; first | (with_reducible refine qw_then ?_) | (with_reducible refine qw_in ?_) | (with_reducible refine qw_in_hit ?_) | (refine qw_in_miss rfl ?_) | (with_reducible refine qw_then_exit ?_) | (with_reducible refine qw_then_ret ?_) | (with_reducible refine qw_in_ret ?_)) | (refine lw_nil ?_) | ((refine is_bin ?_; first | (refine lw_pure rfl (pv_lss rfl rfl) ?_) | (refine lw_pure rfl (pv_neq rfl rfl) ?_) | (refine lw_pure rfl (pv_inc rfl rfl (by omega)) ?_) | (refine lw_pure rfl (pv_add rfl rfl (by omega)) ?_))) | ((refine is_load ?_; first | (refine lw_pure rfl (pv_load (t1 rfl) rfl (by first | fail)) ?_) | (refine lw_pure rfl (pv_loada (tA rfl) rfl (by first | fail) (by rfl)) ?_))) | ((refine is_ia ?_; first | (refine lw_pure rfl (pv_ian (tS rfl) rfl rfl (by omega)) ?_) | (refine lw_pure rfl (pv_ia (tS rfl) rfl rfl (by omega)) ?_))) | ((refine is_bi ?_; first | (refine lw_pure rfl (pv_lenl (tS rfl) rfl) ?_) | (refine lw_pure rfl (pv_lens (tStr rfl) rfl) ?_))) | (refine is_cw ?_; refine cw_split rfl (fun hc => ?_) (fun hc => ?_) <;> (first | replace hc := of_decide_eq_true hc | replace hc := of_decide_eq_false hc | replace hc := dec_nT hc | replace hc := dec_nF hc | skip) <;> (try (exfalso; omega))))
        refine qw_round (k + 1) (by repeat' (first | exact trivial | refine ⟨rfl, ?_⟩)) ⟨by omega, hw, ?_⟩ (by omega)
        intro j hj
        by_cases hjk : j = k
        · subst hjk; rw [hxk, hyk, hxy]
        · exact hn j (by omega)
      · repeat' (first | (refine lw_pure rfl (pv_move rfl) ?_) | (refine lw_pure rfl (pv_assign rfl) ?_) | (refine is_cw ?_; first | (refine cw_seq ?_) | (refine cw_region ?_) | (refine cw_true rfl rfl ?_) | (refine cw_false rfl rfl ?_) | (refine is_cd ?_; refine cw_true rfl (by first | assumption | exact decide_eq_true (by omega) | exact dec_notT (by omega)) ?_) | (refine is_cd ?_; refine cw_false rfl (by first | assumption | exact decide_eq_false (by omega) | exact dec_notF (by omega)) ?_) | (refine cw_skip ?_) | (refine cw_block ?_) | (refine cw_exit ?_) | (refine cw_ret ?_)) | (refine is_qw ?_; first | (with_reducible refine qw_then ?_) | (with_reducible refine qw_in ?_) | (with_reducible refine qw_in_hit ?_) | (refine qw_in_miss rfl ?_) | (with_reducible refine qw_then_exit ?_) | (with_reducible refine qw_then_ret ?_) | (with_reducible refine qw_in_ret ?_)) | (refine lw_nil ?_) | ((refine is_bin ?_; first | (refine lw_pure rfl (pv_lss rfl rfl) ?_) | (refine lw_pure rfl (pv_neq rfl rfl) ?_) | (refine lw_pure rfl (pv_inc rfl rfl (by omega)) ?_) | (refine lw_pure rfl (pv_add rfl rfl (by omega)) ?_))) | ((refine is_load ?_; first | (refine lw_pure rfl (pv_load (t1 rfl) rfl (by first | fail)) ?_) | (refine lw_pure rfl (pv_loada (tA rfl) rfl (by first | fail) (by rfl)) ?_))) | ((refine is_ia ?_; first | (refine lw_pure rfl (pv_ian (tS rfl) rfl rfl (by omega)) ?_) | (refine lw_pure rfl (pv_ia (tS rfl) rfl rfl (by omega)) ?_))) | ((refine is_bi ?_; first | (refine lw_pure rfl (pv_lenl (tS rfl) rfl) ?_) | (refine lw_pure rfl (pv_lens (tStr rfl) rfl) ?_))) | (refine is_cw ?_; refine cw_split rfl (fun hc => ?_) (fun hc => ?_) <;> (first | replace hc := of_decide_eq_true hc | replace hc := of_decide_eq_false hc | replace hc := dec_nT hc | replace hc := dec_nF hc | skip) <;> (try (exfalso; omega))))
        refine qw_ret1 rfl rfl ⟨ret_bool ?_, hw⟩
        symm; rw [decide_eq_false_iff_not]; rintro rfl
        rw [hxk] at hyk; injection hyk with hyk; exact hxy hyk
    · have hkl : k = p.length := by omega
      subst hkl
      have he : p = q := List.ext_getElem? fun j => by
        by_cases hj : j < p.length
        · exact hn j hj
        · rw [List.getElem?_eq_none (by omega), List.getElem?_eq_none (by omega)]
      repeat' (first | (refine lw_pure rfl (pv_move rfl) ?_) | (refine lw_pure rfl (pv_assign rfl) ?_) | (refine is_cw ?_; first | (refine cw_seq ?_) | (refine cw_region ?_) | (refine cw_true rfl rfl ?_) | (refine cw_false rfl rfl ?_) | (refine is_cd ?_; refine cw_true rfl (by first | assumption | exact decide_eq_true (by omega) | exact dec_notT (by omega)) ?_) | (refine is_cd ?_; refine cw_false rfl (by first | assumption | exact decide_eq_false (by omega) | exact dec_notF (by omega)) ?_) | (refine cw_skip ?_) | (refine cw_block ?_) | (refine cw_exit ?_) | (refine cw_ret ?_)) | (refine is_qw ?_; first | (with_reducible refine qw_then ?_) | (with_reducible refine qw_in ?_) | (with_reducible refine qw_in_hit ?_) | (refine qw_in_miss rfl ?_) | (with_reducible refine qw_then_exit ?_) | (with_reducible refine qw_then_ret ?_) | (with_reducible refine qw_in_ret ?_)) | (refine lw_nil ?_) | ((refine is_bin ?_; first | (refine lw_pure rfl (pv_lss rfl rfl) ?_) | (refine lw_pure rfl (pv_neq rfl rfl) ?_) | (refine lw_pure rfl (pv_inc rfl rfl (by omega)) ?_) | (refine lw_pure rfl (pv_add rfl rfl (by omega)) ?_))) | ((refine is_load ?_; first | (refine lw_pure rfl (pv_load (t1 rfl) rfl (by first | fail)) ?_) | (refine lw_pure rfl (pv_loada (tA rfl) rfl (by first | fail) (by rfl)) ?_))) | ((refine is_ia ?_; first | (refine lw_pure rfl (pv_ian (tS rfl) rfl rfl (by omega)) ?_) | (refine lw_pure rfl (pv_ia (tS rfl) rfl rfl (by omega)) ?_))) | ((refine is_bi ?_; first | (refine lw_pure rfl (pv_lenl (tS rfl) rfl) ?_) | (refine lw_pure rfl (pv_lens (tStr rfl) rfl) ?_))))
      exact qw_ret1 rfl rfl ⟨ret_bool (by simp [he]), hw⟩
  · repeat' (first | (refine lw_pure rfl (pv_move rfl) ?_) | (refine lw_pure rfl (pv_assign rfl) ?_) | (refine is_cw ?_; first | (refine cw_seq ?_) | (refine cw_region ?_) | (refine cw_true rfl rfl ?_) | (refine cw_false rfl rfl ?_) | (refine is_cd ?_; refine cw_true rfl (by first | assumption | exact decide_eq_true (by omega) | exact dec_notT (by omega)) ?_) | (refine is_cd ?_; refine cw_false rfl (by first | assumption | exact decide_eq_false (by omega) | exact dec_notF (by omega)) ?_) | (refine cw_skip ?_) | (refine cw_block ?_) | (refine cw_exit ?_) | (refine cw_ret ?_)) | (refine is_qw ?_; first | (with_reducible refine qw_then ?_) | (with_reducible refine qw_in ?_) | (with_reducible refine qw_in_hit ?_) | (refine qw_in_miss rfl ?_) | (with_reducible refine qw_then_exit ?_) | (with_reducible refine qw_then_ret ?_) | (with_reducible refine qw_in_ret ?_)) | (refine lw_nil ?_) | ((refine is_bin ?_; first | (refine lw_pure rfl (pv_lss rfl rfl) ?_) | (refine lw_pure rfl (pv_neq rfl rfl) ?_) | (refine lw_pure rfl (pv_inc rfl rfl (by omega)) ?_) | (refine lw_pure rfl (pv_add rfl rfl (by omega)) ?_))) | ((refine is_load ?_; first | (refine lw_pure rfl (pv_load (t1 rfl) rfl (by first | fail)) ?_) | (refine lw_pure rfl (pv_loada (tA rfl) rfl (by first | fail) (by rfl)) ?_))) | ((refine is_ia ?_; first | (refine lw_pure rfl (pv_ian (tS rfl) rfl rfl (by omega)) ?_) | (refine lw_pure rfl (pv_ia (tS rfl) rfl rfl (by omega)) ?_))) | ((refine is_bi ?_; first | (refine lw_pure rfl (pv_lenl (tS rfl) rfl) ?_) | (refine lw_pure rfl (pv_lens (tStr rfl) rfl) ?_))) | (refine is_cw ?_; refine cw_split rfl (fun hc => ?_) (fun hc => ?_) <;> (first | replace hc := of_decide_eq_true hc | replace hc := of_decide_eq_false hc | replace hc := dec_nT hc | replace hc := dec_nF hc | skip) <;> (try (exfalso; omega))))
    exact qw_ret1 rfl rfl ⟨ret_bool (by symm; rw [decide_eq_false_iff_not]; rintro rfl; exact hl rfl), hw⟩


theorem elemV : ElemT Tryd.prog 71 35 4 56 := elem_of Tryd.underlying71 (by kernel_rfl) (by omega)
set_option maxRecDepth 20000 in
set_option maxHeartbeats 4000000 in
theorem heavyL_c {xs : List EvC} {m n q o ca cb cd cc : Nat} {a b d c : Option Addr} {w : World} (hm : m ≤ 9223372036854775807) (hn : n ≤ 9223372036854775807) (hq : q ≤ 9223372036854775807) (ho : xs.length = o) (HV : SlR encV 4 w c cc xs) :
    Calls Tryd.prog 15 #[.slice a m ca, .slice b n cb, .slice d q cd, .slice c o cc] w fun e w' => (∃ r, e = .returned (.bool r) ∧ (r = false → m ≤ 300 ∧ n ≤ 150 ∧ q ≤ 50 ∧ xs.length < 400 ∧ ∀ j, j < xs.length → ∀ x, xs[j]? = some x → x.mn < 400 ∧ x.mx < 400)) ∧ Below w.heap.size w w' := by
  subst ho
  have hcc := HV.le
  have hcm := HV.max
  have hw := Below.refl w.heap.size w
  refine fn_enter 56 Tryd.func15 rfl rfl rfl ?_
  repeat' (first | (refine lw_pure rfl (pv_assign rfl) ?_) | (refine is_cw ?_; first | (refine cw_seq ?_) | (refine cw_region ?_) | (refine cw_block ?_)) | (refine is_qw ?_; first | (with_reducible refine qw_then ?_)) | (refine lw_nil ?_))
  refine cw_loop (σ := Nat × Int) (fun s => [(0, .slice a m ca), (1, .slice b n cb), (2, .slice d q cd), (3, .slice c xs.length cc), (9, .int .i64 s.2), (10, .int .i64 (s.1 : Nat))]) (fun s wr => s.1 ≤ xs.length ∧ Below w.heap.size w wr ∧ (s.1 : Int) ≤ s.2 ∧ s.2 ≤ 1300 ∧ (s.2 < 400 → ∀ j, j < s.1 → ∀ x, xs[j]? = some x → x.mn < 400 ∧ x.mx < 400)) (fun s => xs.length - s.1) (0, 0) (by repeat' (first | exact trivial | refine ⟨rfl, ?_⟩)) ⟨Nat.zero_le _, hw, by simp, by simp, fun _ j hj => absurd hj (by simp)⟩ ?_
  clear hw
  rintro ⟨k, t⟩ wr ⟨hk, hw, ht1, ht2, hI⟩
  dsimp only at hk ht1 ht2 hI
  change CW _ _ _ _ [(0, .slice a m ca), (1, .slice b n cb), (2, .slice d q cd), (3, .slice c xs.length cc), (9, .int .i64 t), (10, .int .i64 (k : Nat))] wr
  by_cases hlt : k < xs.length
  · by_cases h4 : t < 400
    · have hxk : xs[k]? = some xs[k] := List.getElem?_eq_getElem hlt
      obtain ⟨ab, ao, rfl, -, -⟩ := HV.at (by intro h; rw [h] at hlt; simp at hlt)
      generalize xs[k] = x at hxk
      have hc1 := capN_le x.mn
      have hc2 := capN_le x.mx
      repeat' (first | (refine lw_pure rfl (pv_move rfl) ?_) | (refine is_cw ?_; first | (refine cw_seq ?_) | (refine cw_region ?_) | (refine is_cd ?_; refine cw_true rfl (by first | assumption | exact decide_eq_true (by omega) | exact dec_notT (by omega)) ?_) | (refine cw_skip ?_) | (refine cw_block ?_)) | (refine is_qw ?_; first | (with_reducible refine qw_then ?_)) | (refine lw_nil ?_) | (refine is_guarded ?_; first | (refine lw_on rfl rfl (by first | assumption | exact decide_eq_true (by omega) | exact decide_eq_false (by omega) | exact dec_notT (by omega) | exact dec_notF (by omega)) ?_)) | ((refine is_bin ?_; first | (refine lw_pure rfl (pv_lss rfl rfl) ?_))) | ((refine is_bi ?_; first | (refine lw_pure rfl (pv_lenl (tS rfl) rfl) ?_))) | (refine is_pk ?_; refine lw_pure rfl (pv_pick_t rfl (by first | assumption | exact decide_eq_true (by omega) | exact dec_notT (by omega)) rfl) ?_))
      refine cw_drawn (fun w' => Below w.heap.size w w') (by kernel_rfl) (by repeat (first | exact NoPanic.body | with_reducible refine NoPanic.then ?_ | with_reducible refine NoPanic.inBlock ?_)) (fun hNP => ?_)
      have hS := hw.drew
      (refine at0 0 rfl (fun w' hq => pv_move rfl) ?_)
      (refine at0 1 rfl (fun w' hq => pv_add rfl rfl (by omega)) ?_)
      (refine at0 2 rfl (fun w' hq => pv_move rfl) ?_)
      (refine at0 3 rfl (fun w' hq => pv_move rfl) ?_)
      (refine at0 4 rfl (fun w' hq => pv_ian (tS rfl) rfl rfl (by omega)) ?_)
      (refine at0 5 rfl (fun w' hq => pv_fa (tF rfl) rfl) ?_)
      (refine at0 6 rfl (fun w' hq => pv_load (t1 rfl) rfl (by first | exact SlR.ld (HV.mono hq) hxk rfl | exact SlR.ld1 (HV.mono hq) hxk rfl)) ?_)
      (refine at0 7 rfl (fun w' hq => pv_lenl (tS rfl) rfl) ?_)
      (refine at0 8 rfl (fun w' hq => pv_min rfl rfl) ?_)
      (refine at0 9 rfl (fun w' hq => pv_add rfl rfl (by omega)) ?_)
      (refine at0 10 rfl (fun w' hq => pv_move rfl) ?_)
      (refine at0 11 rfl (fun w' hq => pv_move rfl) ?_)
      (refine at0 12 rfl (fun w' hq => pv_ian (tS rfl) rfl rfl (by omega)) ?_)
      (refine at0 13 rfl (fun w' hq => pv_fa (tF rfl) rfl) ?_)
      (refine at0 14 rfl (fun w' hq => pv_load (t1 rfl) rfl (by first | exact SlR.ld (HV.mono hq) hxk rfl | exact SlR.ld1 (HV.mono hq) hxk rfl)) ?_)
      (refine at0 15 rfl (fun w' hq => pv_lenl (tS rfl) rfl) ?_)
      (refine at0 16 rfl (fun w' hq => pv_min rfl rfl) ?_)
      (refine at0 17 rfl (fun w' hq => pv_add rfl rfl (by omega)) ?_)
      (refine at0 18 rfl (fun w' hq => pv_assign rfl) ?_)
      refine aw_done (by kernel_rfl) ?_
      replace hw := hS; clear hS hNP
      repeat' (first | (refine lw_pure rfl (pv_move rfl) ?_) | (refine lw_pure rfl (pv_assign rfl) ?_) | (refine is_cw ?_; first | (refine cw_region ?_)) | (refine is_qw ?_; first | (with_reducible refine qw_then ?_) | (with_reducible refine qw_in ?_)) | (refine lw_nil ?_) | ((refine is_bin ?_; first | (refine lw_pure rfl (pv_inc rfl rfl (by omega)) ?_))))
      have e1 : (if (x.mn : Int) < 400 then (x.mn : Int) else 400) = capN x.mn := rfl
      have e2 : (if (x.mx : Int) < 400 then (x.mx : Int) else 400) = capN x.mx := rfl
      refine qw_round (k + 1, t + 1 + capN x.mn + capN x.mx) (by repeat' (first | exact trivial | refine ⟨rfl, ?_⟩)) ⟨by show k + 1 ≤ _; omega, hw, by show ((k + 1 : Nat) : Int) ≤ t + 1 + _ + _; omega, by show t + 1 + _ + _ ≤ 1300; omega, ?_⟩ (by show xs.length - (k + 1) < xs.length - k; omega)
      intro hlt4 j hj y hy
      have hlt5 : t + 1 + capN x.mn + capN x.mx < 400 := hlt4
      have hj2 : j < k + 1 := hj
      by_cases hjk : j = k
      · subst hjk; rw [hxk] at hy; injection hy with hy; subst hy
        exact ⟨capN_lt (by omega), capN_lt (by omega)⟩
      · exact hI (by omega) j (by omega) y hy
    · repeat' (first | (refine lw_pure rfl (pv_move rfl) ?_) | (refine lw_pure rfl (pv_assign rfl) ?_) | (refine is_cw ?_; first | (refine cw_seq ?_) | (refine cw_region ?_) | (refine is_cd ?_; refine cw_false rfl (by first | assumption | exact decide_eq_false (by omega) | exact dec_notF (by omega)) ?_) | (refine cw_exit ?_) | (refine cw_ret ?_)) | (refine is_qw ?_; first | (with_reducible refine qw_then ?_) | (with_reducible refine qw_in_hit ?_) | (with_reducible refine qw_then_exit ?_)) | (refine lw_nil ?_) | (refine is_guarded ?_; first | (refine lw_not rfl rfl rfl rfl ?_) | (refine lw_on rfl rfl (by first | assumption | exact decide_eq_true (by omega) | exact decide_eq_false (by omega) | exact dec_notT (by omega) | exact dec_notF (by omega)) ?_) | (refine lw_not rfl rfl rfl (by first | assumption | exact decide_eq_true (by omega) | exact decide_eq_false (by omega) | exact dec_notT (by omega) | exact dec_notF (by omega)) ?_) | (refine lw_gs_f rfl rfl rfl (fun hc => ?_) (fun hc => ?_) <;> (first | replace hc := of_decide_eq_true hc | replace hc := of_decide_eq_false hc | replace hc := dec_nT hc | replace hc := dec_nF hc | skip) <;> (try (exfalso; omega)))) | ((refine is_bin ?_; first | (refine lw_pure rfl (pv_lss rfl rfl) ?_) | (refine lw_pure rfl (pv_gtr rfl rfl) ?_) | (refine lw_pure rfl (pv_geq rfl rfl) ?_))) | ((refine is_bi ?_; first | (refine lw_pure rfl (pv_lenl (tS rfl) rfl) ?_))) | (refine is_pk ?_; refine lw_pure rfl (pv_pick_t rfl rfl rfl) ?_) | (refine is_pk ?_; refine lw_pure rfl (pv_pick_t rfl (by first | assumption | exact decide_eq_true (by omega) | exact dec_notT (by omega)) rfl) ?_) | (refine is_pk ?_; refine lw_pure rfl (pv_pick_f rfl (by first | assumption | exact decide_eq_false (by omega) | exact dec_notF (by omega)) rfl) ?_))
      all_goals exact qw_ret1 rfl rfl ⟨⟨_, rfl, fun h => by simp at h; try omega⟩, hw⟩
  · have hkl : k = xs.length := by omega
    subst hkl
    repeat' (first | (refine lw_pure rfl (pv_move rfl) ?_) | (refine lw_pure rfl (pv_assign rfl) ?_) | (refine is_cw ?_; first | (refine cw_seq ?_) | (refine cw_region ?_) | (refine cw_false rfl rfl ?_) | (refine cw_exit ?_) | (refine cw_ret ?_)) | (refine is_qw ?_; first | (with_reducible refine qw_then ?_) | (with_reducible refine qw_in_hit ?_) | (with_reducible refine qw_then_exit ?_)) | (refine lw_nil ?_) | (refine is_guarded ?_; first | (refine lw_not rfl rfl rfl rfl ?_) | (refine lw_on rfl rfl (by first | assumption | exact decide_eq_true (by omega) | exact decide_eq_false (by omega) | exact dec_notT (by omega) | exact dec_notF (by omega)) ?_) | (refine lw_not rfl rfl rfl (by first | assumption | exact decide_eq_true (by omega) | exact decide_eq_false (by omega) | exact dec_notT (by omega) | exact dec_notF (by omega)) ?_) | (refine lw_gs_f rfl rfl rfl (fun hc => ?_) (fun hc => ?_) <;> (first | replace hc := of_decide_eq_true hc | replace hc := of_decide_eq_false hc | replace hc := dec_nT hc | replace hc := dec_nF hc | skip) <;> (try (exfalso; omega)))) | ((refine is_bin ?_; first | (refine lw_pure rfl (pv_lss rfl rfl) ?_) | (refine lw_pure rfl (pv_gtr rfl rfl) ?_) | (refine lw_pure rfl (pv_geq rfl rfl) ?_))) | ((refine is_bi ?_; first | (refine lw_pure rfl (pv_lenl (tS rfl) rfl) ?_))) | (refine is_pk ?_; refine lw_pure rfl (pv_pick_t rfl rfl rfl) ?_) | (refine is_pk ?_; refine lw_pure rfl (pv_pick_t rfl (by first | assumption | exact decide_eq_true (by omega) | exact dec_notT (by omega)) rfl) ?_) | (refine is_pk ?_; refine lw_pure rfl (pv_pick_f rfl (by first | assumption | exact decide_eq_false (by omega) | exact dec_notF (by omega)) rfl) ?_))
    all_goals refine qw_ret1 rfl rfl ⟨⟨_, rfl, fun h => ?_⟩, hw⟩
    all_goals first | (simp at h; done) | (simp only [decide_eq_false_iff_not] at h; exact ⟨by omega, by omega, by omega, by omega, hI (by omega)⟩)
set_option maxRecDepth 20000 in
set_option maxHeartbeats 4000000 in
theorem evnewL_c (k : Int) (a : Option Addr) (m c : Nat) (w : World) :
    Calls Tryd.prog 10 #[.int .u8 k, .slice a m c] w fun e w' => e = .returned (.agg #[.int .u8 3, .int .u8 k, .slice a m c, .slice none 0 0]) ∧ Below w.heap.size w w' := by
  have hE := Ext.refl w
  have hw := Below.refl w.heap.size w
  refine fn_enter 8 Tryd.func10 rfl rfl rfl ?_
  repeat' (first | (refine is_cw ?_; first | (refine cw_seq ?_) | (refine cw_region ?_)))
  refine lw_allocN rfl (by first | exact tyv_29 | exact tyv_30 | exact tyv_34 | exact tyv_35 | exact tyv_37 | exact tyv_43 | exact tyv_53 | exact tyv_54 | exact tyv_55 | exact tyv_56 | exact tyv_112 | exact tyv_113 | exact tyv_121 | exact tyv_122) rfl ?_; intro N w1 hN H hb
  replace hE := hE.mono hb
  clear hb hw
  have hw := Below.refl w1.heap.size w1
  repeat' (first | (refine lw_pure rfl (pv_move rfl) ?_) | (refine is_cw ?_; first | (refine cw_seq ?_) | (refine cw_region ?_)) | (refine is_qw ?_; first | (with_reducible refine qw_then ?_)) | (refine lw_nil ?_) | ((refine is_bd ?_; first | (refine lw_pure rfl (tyB_35 rfl rfl rfl) ?_))))
  refine lw_storea (vs := [.int .u8 3, .int .u8 k, .slice a m c, .slice none 0 0]) (H.mono hw) (tZ rfl) rfl rfl rfl rfl (by intro v hv; simp at hv; rcases hv with rfl | rfl | rfl | rfl <;> rfl) ?_; intro w3 H2 hg hz
  replace hE := (hE.mono hw).grown hg (by intro q hq; injection hq with hq; omega)
  clear hw
  have hw := Below.refl w3.heap.size w3
  repeat' (first | (refine is_cw ?_; first | (refine cw_ret ?_)) | (refine is_qw ?_; first | (with_reducible refine qw_then ?_)) | (refine lw_nil ?_))
  exact qw_retc rfl rfl (agg_ld (tA rfl) rfl (fun i u hu => H2.ld0 hu)) ⟨rfl, hE.b⟩
set_option maxRecDepth 20000 in
set_option maxHeartbeats 4000000 in
theorem line_c (a s k d b : Int) (w : World) :
    Calls Tryd.prog 9 #[.int .i64 a, .int .i64 s, .int .u8 k, .int .i64 d, .int .i64 b] w fun e w' => e = .returned (.agg (encN ⟨a, s, k, d, b⟩).toArray) ∧ Below w.heap.size w w' := by
  have hE := Ext.refl w
  have hw := Below.refl w.heap.size w
  refine fn_enter 17 Tryd.func9 rfl rfl rfl ?_
  repeat' (first | (refine is_cw ?_; first | (refine cw_seq ?_) | (refine cw_region ?_)))
  refine lw_allocN rfl (by first | exact tyv_29 | exact tyv_30 | exact tyv_34 | exact tyv_35 | exact tyv_37 | exact tyv_43 | exact tyv_53 | exact tyv_54 | exact tyv_55 | exact tyv_56 | exact tyv_112 | exact tyv_113 | exact tyv_121 | exact tyv_122) rfl ?_; intro N w1 hN H hb
  replace hE := hE.mono hb
  clear hb hw
  have hw := Below.refl w1.heap.size w1
  repeat' (first | (refine lw_pure rfl (pv_move rfl) ?_) | (refine is_cw ?_; first | (refine cw_seq ?_) | (refine cw_region ?_)) | (refine is_qw ?_; first | (with_reducible refine qw_then ?_)) | (refine lw_nil ?_) | ((refine is_bd ?_; first | (refine lw_pure rfl (tyB_30 rfl rfl rfl) ?_))))
  refine lw_storea (vs := encN ⟨a, s, k, d, b⟩) (H.mono hw) (tZ rfl) rfl rfl rfl rfl (encN_one _) ?_; intro w3 H2 hg hz
  replace hE := (hE.mono hw).grown hg (by intro q hq; injection hq with hq; omega)
  clear hw
  have hw := Below.refl w3.heap.size w3
  repeat' (first | (refine is_cw ?_; first | (refine cw_ret ?_)) | (refine is_qw ?_; first | (with_reducible refine qw_then ?_)) | (refine lw_nil ?_))
  exact qw_retc rfl rfl (agg_ld (tA rfl) rfl (fun i u hu => H2.ld0 hu)) ⟨rfl, hE.b⟩
set_option maxRecDepth 20000 in
theorem lines_c (v : Value) (w : World) : Calls Tryd.prog 8 #[v] w fun e w' => e = .returned v ∧ Below w.heap.size w w' := by
  have hw := Below.refl w.heap.size w
  refine fn_enter 4 Tryd.func8 rfl rfl rfl ?_
  repeat' (first | (refine lw_pure rfl (pv_move rfl) ?_) | (refine lw_pure rfl (pv_assign rfl) ?_) | (refine is_cw ?_; first | (refine cw_seq ?_) | (refine cw_region ?_) | (refine cw_ret ?_)) | (refine is_qw ?_; first | (with_reducible refine qw_then ?_)) | (refine lw_nil ?_))
  exact qw_ret1 rfl rfl ⟨rfl, hw⟩
abbrev smP : List Opn := [⟨2, 1, 1, 1, 10, 9⟩, ⟨3, 5, 1, 2, 10, 9⟩, ⟨4, 6, 1, 2, 10, 9⟩]
abbrev smT : List Lt := [⟨7, 3, 1, 4⟩]
set_option maxRecDepth 20000 in
theorem some_c (w : World) : Calls Tryd.prog 7 #[] w fun e w' => (∃ a c b d, e = .returned (.tuple #[.slice a 3 c, .slice b 1 d]) ∧ SlR encP 6 w' a c smP ∧ SlR encL 4 w' b d smT) ∧ Below w.heap.size w w' := by
  have hw := Below.refl w.heap.size w
  refine fn_enter 8 Tryd.func7 rfl rfl rfl ?_
  repeat' (first | (refine lw_pure rfl (pv_assign rfl) ?_) | (refine is_cw ?_; first | (refine cw_seq ?_) | (refine cw_region ?_)) | (refine is_qw ?_; first | (with_reducible refine qw_then ?_)) | (refine lw_nil ?_) | ((refine is_bd ?_; first | (refine lw_pure rfl (tyB_54 rfl rfl rfl) ?_))))
  refine lw_bsN (vs := [.agg (encP ⟨2, 1, 1, 1, 10, 9⟩).toArray, .agg (encP ⟨3, 5, 1, 2, 10, 9⟩).toArray, .agg (encP ⟨4, 6, 1, 2, 10, 9⟩).toArray]) (cs := smP.flatMap encP) elemP rfl rfl rfl (by omega) (by omega) rfl (by simp [Value.cells, encP]) ?_; intro BA w1 _ HA hb
  replace hw := grow_trans hw hb
  clear hb
  have HP : SlR encP 6 w1 (some ⟨BA, 0, none⟩) 3 smP := HA.slR (xs := smP) encP_len rfl (by simp)
  clear HA
  repeat' (first | ((refine is_bd ?_; first | (refine lw_pure rfl (tyB_56 rfl rfl rfl) ?_))))
  refine lw_bsN (vs := [.agg (encL ⟨7, 3, 1, 4⟩).toArray]) (cs := smT.flatMap encL) elemL rfl rfl rfl (by omega) (by omega) rfl (by simp [Value.cells, encL]) ?_; intro BB w2 _ HB hb
  replace hw := grow_trans hw hb
  replace HP := HP.mono hb
  clear hb
  have HL : SlR encL 4 w2 (some ⟨BB, 0, none⟩) 1 smT := HB.slR (xs := smT) encL_len rfl (by simp)
  repeat' (first | (refine lw_pure rfl (pv_assign rfl) ?_) | (refine is_cw ?_; first | (refine cw_ret ?_)) | (refine is_qw ?_; first | (with_reducible refine qw_then ?_)) | (refine lw_nil ?_))
  exact qw_ret2 rfl rfl rfl ⟨⟨_, _, _, _, rfl, HP, HL⟩, hw⟩

abbrev lnA : Ln := ⟨2, 0, 6, 100, 100⟩
abbrev lnB : Ln := ⟨2, 4, 13, -30, 70⟩
abbrev lnC : Ln := ⟨3, 4, 13, 28, 28⟩
def evsA : Evt := ⟨3, 6, [2, 100], []⟩
def evsB : Evt := ⟨3, 13, [5, 1, 10, 3, 2], []⟩
theorem slk1 : stmtL [] [] [] 0 evsA = (0, [lnA]) := by kernel_rfl
theorem slk2 : stmtL [lnA] smP smT 4 evsB = (0, [lnA, lnB, lnC]) := by kernel_rfl
theorem slk3 : pageL [lnA, lnB, lnC] 2 1 5 = [lnB] := by kernel_rfl
theorem in64_0 : In64N [] := fun x hx => by cases hx
theorem in64_1 : In64N [lnA] := fun x hx => by simp at hx; subst hx; dsimp only; omega
theorem stmt_e {l m : List Ln} {p : List Opn} {t : List Lt} {e : Evt} {seq v k c : Int} {ml mp mt mn mx : Nat} {al ap at_ an ax : Option Addr} {cl cp ct cn cx : Nat} {w : World} (h : stmtL l p t seq e = (c, m)) (hv : e.v = v) (hk : e.kind = k) (h8 : 0 ≤ e.kind ∧ e.kind ≤ 255) (hml : l.length = ml) (hmp : p.length = mp) (hmt : t.length = mt) (hmn : e.nums.length = mn) (hmx : e.texts.length = mx) (HS : SlR encN 5 w al cl l) (hin : In64N l) (hll : l.length ≤ 524288) (HP : SlR encP 6 w ap cp p) (HL : SlR encL 4 w at_ ct t) (HN : SlR encI 1 w an cn e.nums) (HX : SlR encT 1 w ax cx e.texts) (hT : TxtIn e.texts) (hK : KnW w) :
    Calls Tryd.prog 11 #[.slice al ml cl, .slice ap mp cp, .slice at_ mt ct, .int .i64 seq, .agg #[.int .u8 v, .int .u8 k, .slice an mn cn, .slice ax mx cx]] w fun e1 w' => (∃ a q, e1 = .returned (.tuple #[.slice a m.length q, .int .i64 c]) ∧ SlR encN 5 w' a q m) ∧ Below w.heap.size w w' := by
  subst hv hk
  refine (R.stmt_c h8 hml hmp hmt hmn hmx HS hin hll HP HL HN HX hT hK).mono fun e1 w' ⟨⟨x, h1, h2⟩, h3⟩ => ⟨?_, h3⟩
  rw [h] at h1 h2
  obtain ⟨a, q, rfl, h4, -⟩ := Own.slR encN_len h2
  exact ⟨a, q, h1, h4⟩
theorem page_slR {base : Nat} {w : World} {v : Value} {ys : List Ln} (h : PageV base w v ys) : ∃ a c, v = .slice a ys.length c ∧ SlR encN 5 w a c ys := by
  rcases h with ⟨rfl, rfl⟩ | ⟨g, cap, f, all, rfl, hO, h1, h2⟩
  · exact ⟨none, 0, rfl, SlR.nil w⟩
  · obtain ⟨a, c, e, HS, -⟩ := Own.slR encN_len hO
    injection e with e1 e2 e3
    subst e1 e3
    have h3 := HS.tail f (by omega)
    have hle : ys.length ≤ (all.drop f).length := by rw [h1, List.length_take]; omega
    have h4 := h3.head ys.length (cap - f) hle ⟨Nat.le_trans hle h3.le, Nat.le_refl _⟩
    rw [← h1] at h4
    rw [Nat.zero_add] at h4
    exact ⟨_, _, rfl, h4⟩
theorem pageL_e {l ys : List Ln} {m : Nat} {ad : Option Addr} {cap : Nat} {w : World} {a from_ n : Int} (h : pageL l a from_ n = ys) (hm : l.length = m) (HS : SlR encN 5 w ad cap l) (hl : l.length ≤ 1048576) : Calls Tryd.prog 14 #[.slice ad m cap, .int .i64 a, .int .i64 from_, .int .i64 n] w fun e w' => (∃ a1 c1, e = .returned (.slice a1 ys.length c1) ∧ SlR encN 5 w' a1 c1 ys) ∧ Below w.heap.size w w' := by
  subst h
  exact (pageL_c a from_ n hm HS hl).mono fun e w' ⟨⟨v, h1, h2⟩, h3⟩ => ⟨by obtain ⟨a1, c1, rfl, h4⟩ := page_slR h2; exact ⟨a1, c1, h1, h4⟩, h3⟩
theorem balL_e {xs : List Ln} {m c : Nat} {a : Option Addr} {w : World} {acct z : Int} (h : balL xs acct = z) (hm : xs.length = m) (HS : SlR encN 5 w a c xs) : Calls Tryd.prog 19 #[.slice a m c, .int .i64 acct] w fun e w' => e = .returned (.int .i64 z) ∧ Below w.heap.size w w' := by
  subst h; exact R.balance_c acct hm HS
theorem rsameN_t {p : List Ln} {m n : Nat} {a b : Option Addr} {ca cb : Nat} {w : World} (hm : p.length = m) (hn : p.length = n) (HP : SlR encN 5 w a ca p) (HQ : SlR encN 5 w b cb p) : Calls Tryd.prog 12 #[.slice a m ca, .slice b n cb] w fun e w' => e = .returned (.bool true) ∧ Below w.heap.size w w' := by
  have h := rsame_N hm hn HP HQ
  rw [show decide (p = p) = true by simp] at h; exact h
set_option maxRecDepth 20000 in
set_option maxHeartbeats 8000000 in
theorem worksL_c {w : World} (hK : KnW w) : Calls Tryd.prog 6 #[] w fun e w' => e = .returned (.bool true) ∧ Below w.heap.size w w' := by
  have hw := Below.refl w.heap.size w
  have hW := hw
  refine fn_enter 63 Tryd.func6 rfl rfl rfl ?_
  repeat' (first | (refine lw_pure rfl (pv_move rfl) ?_) | (refine lw_pure rfl (pv_assign rfl) ?_) | (refine is_cw ?_; first | (refine cw_seq ?_) | (refine cw_region ?_) | (refine cw_ret ?_)) | (refine is_qw ?_; first | (with_reducible refine qw_then ?_) | (with_reducible refine qw_then_ret ?_)) | (refine lw_nil ?_) | (refine is_guarded ?_; first | (refine lw_not rfl rfl rfl rfl ?_) | (refine lw_not_u rfl rfl rfl ?_) | (refine lw_on rfl rfl rfl ?_)) | ((refine is_bin ?_; first | (refine lw_pure rfl (pv_eql rfl rfl) ?_))) | ((refine is_load ?_; first | (refine lw_pure rfl (pv_load (t1 rfl) rfl (by first | fail)) ?_) | (refine lw_pure rfl (pv_loada (tA rfl) rfl (by first | fail) (by rfl)) ?_))) | ((refine is_ia ?_; first | (refine lw_pure rfl (pv_ian (tS rfl) rfl rfl (by omega)) ?_) | (refine lw_pure rfl (pv_ia (tS rfl) rfl rfl (by omega)) ?_))) | (refine is_pk ?_; refine lw_pure rfl (pv_pick_t rfl rfl rfl) ?_) | (refine is_pk ?_; refine lw_pure rfl (pv_pick_f rfl rfl rfl) ?_) | (refine is_pk ?_; refine lw_pure rfl (pv_pick_t rfl (by first | assumption | exact decide_eq_true (by omega) | exact dec_notT (by omega)) rfl) ?_) | (refine is_pk ?_; refine lw_pure rfl (pv_pick_f rfl (by first | assumption | exact decide_eq_false (by omega) | exact dec_notF (by omega)) rfl) ?_) | (refine is_pk ?_; refine lw_pure rfl (pv_pick rfl rfl rfl) ?_) | (refine lw_pure rfl (pv_extract rfl rfl) ?_))
  refine lw_call (f := 7) (by kernel_rfl) rfl rfl (some_c _) ?_; rintro e1 w1 ⟨⟨pa, pc, ta, tc, rfl, HP, HL⟩, hb⟩; refine ⟨_, rfl, ?_⟩
  replace hw := grow_trans hw hb; clear hb
  replace hW := grow_trans hW hw; replace hK := hK.mono hw; clear hw; have hw := Below.refl w1.heap.size w1
  repeat' (first | (refine lw_pure rfl (pv_move rfl) ?_) | (refine lw_pure rfl (pv_assign rfl) ?_) | (refine is_cw ?_; first | (refine cw_seq ?_) | (refine cw_region ?_) | (refine cw_ret ?_)) | (refine is_qw ?_; first | (with_reducible refine qw_then ?_) | (with_reducible refine qw_then_ret ?_)) | (refine lw_nil ?_) | (refine is_guarded ?_; first | (refine lw_not rfl rfl rfl rfl ?_) | (refine lw_not_u rfl rfl rfl ?_) | (refine lw_on rfl rfl rfl ?_)) | ((refine is_bin ?_; first | (refine lw_pure rfl (pv_eql rfl rfl) ?_))) | ((refine is_load ?_; first | (refine lw_pure rfl (pv_load (t1 rfl) rfl (by first | fail)) ?_) | (refine lw_pure rfl (pv_loada (tA rfl) rfl (by first | fail) (by rfl)) ?_))) | ((refine is_ia ?_; first | (refine lw_pure rfl (pv_ian (tS rfl) rfl rfl (by omega)) ?_) | (refine lw_pure rfl (pv_ia (tS rfl) rfl rfl (by omega)) ?_))) | (refine is_pk ?_; refine lw_pure rfl (pv_pick_t rfl rfl rfl) ?_) | (refine is_pk ?_; refine lw_pure rfl (pv_pick_f rfl rfl rfl) ?_) | (refine is_pk ?_; refine lw_pure rfl (pv_pick_t rfl (by first | assumption | exact decide_eq_true (by omega) | exact dec_notT (by omega)) rfl) ?_) | (refine is_pk ?_; refine lw_pure rfl (pv_pick_f rfl (by first | assumption | exact decide_eq_false (by omega) | exact dec_notF (by omega)) rfl) ?_) | (refine is_pk ?_; refine lw_pure rfl (pv_pick rfl rfl rfl) ?_) | (refine lw_pure rfl (pv_extract rfl rfl) ?_))
  refine lw_bsN (vs := [.int .i64 2, .int .i64 100]) (cs := [.int .i64 2, .int .i64 100]) elemI rfl rfl rfl (by omega) (by omega) rfl (by simp [Value.cells]) ?_; intro BA wn _ HX hb
  replace hw := grow_trans hw hb; clear hb
  have HA : SlR encI 1 wn (some ⟨BA, 0, none⟩) 2 evsA.nums := HX.slR (xs := [2, 100]) encI_len rfl (by simp)
  clear HX
  replace hW := grow_trans hW hw; replace hK := hK.mono hw; replace HP := HP.mono hw; replace HL := HL.mono hw; clear hw; have hw := Below.refl wn.heap.size wn
  repeat' (first | (refine lw_pure rfl (pv_move rfl) ?_) | (refine lw_pure rfl (pv_assign rfl) ?_) | (refine lw_call (f := 10) (by kernel_rfl) rfl rfl (evnewL_c 6 _ 2 2 _) ?_; rintro e w1 ⟨rfl, hb⟩; refine ⟨_, rfl, ?_⟩; replace hw := grow_trans hw hb; clear hb) | (refine is_cw ?_; first | (refine cw_seq ?_) | (refine cw_region ?_) | (refine cw_ret ?_)) | (refine is_qw ?_; first | (with_reducible refine qw_then ?_) | (with_reducible refine qw_then_ret ?_)) | (refine lw_nil ?_) | (refine is_guarded ?_; first | (refine lw_not rfl rfl rfl rfl ?_) | (refine lw_not_u rfl rfl rfl ?_) | (refine lw_on rfl rfl rfl ?_)) | ((refine is_bin ?_; first | (refine lw_pure rfl (pv_eql rfl rfl) ?_))) | ((refine is_load ?_; first | (refine lw_pure rfl (pv_load (t1 rfl) rfl (by first | fail)) ?_) | (refine lw_pure rfl (pv_loada (tA rfl) rfl (by first | fail) (by rfl)) ?_))) | ((refine is_ia ?_; first | (refine lw_pure rfl (pv_ian (tS rfl) rfl rfl (by omega)) ?_) | (refine lw_pure rfl (pv_ia (tS rfl) rfl rfl (by omega)) ?_))) | (refine is_pk ?_; refine lw_pure rfl (pv_pick_t rfl rfl rfl) ?_) | (refine is_pk ?_; refine lw_pure rfl (pv_pick_f rfl rfl rfl) ?_) | (refine is_pk ?_; refine lw_pure rfl (pv_pick_t rfl (by first | assumption | exact decide_eq_true (by omega) | exact dec_notT (by omega)) rfl) ?_) | (refine is_pk ?_; refine lw_pure rfl (pv_pick_f rfl (by first | assumption | exact decide_eq_false (by omega) | exact dec_notF (by omega)) rfl) ?_) | (refine is_pk ?_; refine lw_pure rfl (pv_pick rfl rfl rfl) ?_) | (refine lw_pure rfl (pv_extract rfl rfl) ?_))
  refine lw_call (f := 11) (by kernel_rfl) rfl rfl (stmt_e slk1 rfl rfl (by decide) rfl rfl rfl rfl rfl (SlR.nil _) in64_0 (by simp) (SlR.nil _) (SlR.nil _) (HA.mono hw) (SlR.nil _) tx_nil (hK.mono hw)) ?_; rintro e1 w2 ⟨⟨aa, ac, rfl, HB⟩, hb⟩; refine ⟨_, rfl, ?_⟩
  replace hw := grow_trans hw hb; clear hb
  replace hW := grow_trans hW hw; replace hK := hK.mono hw; replace HP := HP.mono hw; replace HL := HL.mono hw; clear hw; have hw := Below.refl w2.heap.size w2
  repeat' (first | (refine lw_pure rfl (pv_move rfl) ?_) | (refine lw_pure rfl (pv_assign rfl) ?_) | (refine is_cw ?_; first | (refine cw_seq ?_) | (refine cw_region ?_) | (refine cw_ret ?_)) | (refine is_qw ?_; first | (with_reducible refine qw_then ?_) | (with_reducible refine qw_then_ret ?_)) | (refine lw_nil ?_) | (refine is_guarded ?_; first | (refine lw_not rfl rfl rfl rfl ?_) | (refine lw_not_u rfl rfl rfl ?_) | (refine lw_on rfl rfl rfl ?_)) | ((refine is_bin ?_; first | (refine lw_pure rfl (pv_eql rfl rfl) ?_))) | ((refine is_load ?_; first | (refine lw_pure rfl (pv_load (t1 rfl) rfl (by first | fail)) ?_) | (refine lw_pure rfl (pv_loada (tA rfl) rfl (by first | fail) (by rfl)) ?_))) | ((refine is_ia ?_; first | (refine lw_pure rfl (pv_ian (tS rfl) rfl rfl (by omega)) ?_) | (refine lw_pure rfl (pv_ia (tS rfl) rfl rfl (by omega)) ?_))) | (refine is_pk ?_; refine lw_pure rfl (pv_pick_t rfl rfl rfl) ?_) | (refine is_pk ?_; refine lw_pure rfl (pv_pick_f rfl rfl rfl) ?_) | (refine is_pk ?_; refine lw_pure rfl (pv_pick_t rfl (by first | assumption | exact decide_eq_true (by omega) | exact dec_notT (by omega)) rfl) ?_) | (refine is_pk ?_; refine lw_pure rfl (pv_pick_f rfl (by first | assumption | exact decide_eq_false (by omega) | exact dec_notF (by omega)) rfl) ?_) | (refine is_pk ?_; refine lw_pure rfl (pv_pick rfl rfl rfl) ?_) | (refine lw_pure rfl (pv_extract rfl rfl) ?_))
  refine lw_bsN (vs := [.int .i64 5, .int .i64 1, .int .i64 10, .int .i64 3, .int .i64 2]) (cs := [.int .i64 5, .int .i64 1, .int .i64 10, .int .i64 3, .int .i64 2]) elemI rfl rfl rfl (by omega) (by omega) rfl (by simp [Value.cells]) ?_; intro BB wn _ HX hb
  replace hw := grow_trans hw hb; clear hb
  have HC : SlR encI 1 wn (some ⟨BB, 0, none⟩) 5 evsB.nums := HX.slR (xs := [5, 1, 10, 3, 2]) encI_len rfl (by simp)
  clear HX
  replace hW := grow_trans hW hw; replace hK := hK.mono hw; replace HP := HP.mono hw; replace HL := HL.mono hw; replace HB := HB.mono hw; clear hw; have hw := Below.refl wn.heap.size wn
  repeat' (first | (refine lw_pure rfl (pv_move rfl) ?_) | (refine lw_pure rfl (pv_assign rfl) ?_) | (refine lw_call (f := 10) (by kernel_rfl) rfl rfl (evnewL_c 13 _ 5 5 _) ?_; rintro e w1 ⟨rfl, hb⟩; refine ⟨_, rfl, ?_⟩; replace hw := grow_trans hw hb; clear hb) | (refine is_cw ?_; first | (refine cw_seq ?_) | (refine cw_region ?_) | (refine cw_ret ?_)) | (refine is_qw ?_; first | (with_reducible refine qw_then ?_) | (with_reducible refine qw_then_ret ?_)) | (refine lw_nil ?_) | (refine is_guarded ?_; first | (refine lw_not rfl rfl rfl rfl ?_) | (refine lw_not_u rfl rfl rfl ?_) | (refine lw_on rfl rfl rfl ?_)) | ((refine is_bin ?_; first | (refine lw_pure rfl (pv_eql rfl rfl) ?_))) | ((refine is_load ?_; first | (refine lw_pure rfl (pv_load (t1 rfl) rfl (by first | fail)) ?_) | (refine lw_pure rfl (pv_loada (tA rfl) rfl (by first | fail) (by rfl)) ?_))) | ((refine is_ia ?_; first | (refine lw_pure rfl (pv_ian (tS rfl) rfl rfl (by omega)) ?_) | (refine lw_pure rfl (pv_ia (tS rfl) rfl rfl (by omega)) ?_))) | (refine is_pk ?_; refine lw_pure rfl (pv_pick_t rfl rfl rfl) ?_) | (refine is_pk ?_; refine lw_pure rfl (pv_pick_f rfl rfl rfl) ?_) | (refine is_pk ?_; refine lw_pure rfl (pv_pick_t rfl (by first | assumption | exact decide_eq_true (by omega) | exact dec_notT (by omega)) rfl) ?_) | (refine is_pk ?_; refine lw_pure rfl (pv_pick_f rfl (by first | assumption | exact decide_eq_false (by omega) | exact dec_notF (by omega)) rfl) ?_) | (refine is_pk ?_; refine lw_pure rfl (pv_pick rfl rfl rfl) ?_) | (refine lw_pure rfl (pv_extract rfl rfl) ?_))
  refine lw_call (f := 11) (by kernel_rfl) rfl rfl (stmt_e slk2 rfl rfl (by decide) rfl rfl rfl rfl rfl (HB.mono hw) in64_1 (by simp) (HP.mono hw) (HL.mono hw) (HC.mono hw) (SlR.nil _) tx_nil (hK.mono hw)) ?_; rintro e1 w3 ⟨⟨ba, bc, rfl, HD⟩, hb⟩; refine ⟨_, rfl, ?_⟩
  replace hw := grow_trans hw hb; clear hb
  clear HA HB HC HP HL
  replace hW := grow_trans hW hw; skip; clear hw; have hw := Below.refl w3.heap.size w3
  repeat' (first | (refine lw_pure rfl (pv_move rfl) ?_) | (refine lw_pure rfl (pv_assign rfl) ?_) | (refine lw_call (f := 9) (by kernel_rfl) rfl rfl (line_c _ _ _ _ _ _) ?_; rintro e w1 ⟨rfl, hb⟩; refine ⟨_, rfl, ?_⟩; replace hw := grow_trans hw hb; clear hb) | (refine is_cw ?_; first | (refine cw_seq ?_) | (refine cw_region ?_) | (refine cw_ret ?_)) | (refine is_qw ?_; first | (with_reducible refine qw_then ?_) | (with_reducible refine qw_then_ret ?_)) | (refine lw_nil ?_) | (refine is_guarded ?_; first | (refine lw_not rfl rfl rfl rfl ?_) | (refine lw_not_u rfl rfl rfl ?_) | (refine lw_on rfl rfl rfl ?_)) | ((refine is_bin ?_; first | (refine lw_pure rfl (pv_eql rfl rfl) ?_))) | ((refine is_load ?_; first | (refine lw_pure rfl (pv_load (t1 rfl) rfl (by first | fail)) ?_) | (refine lw_pure rfl (pv_loada (tA rfl) rfl (by first | fail) (by rfl)) ?_))) | ((refine is_ia ?_; first | (refine lw_pure rfl (pv_ian (tS rfl) rfl rfl (by omega)) ?_) | (refine lw_pure rfl (pv_ia (tS rfl) rfl rfl (by omega)) ?_))) | (refine is_pk ?_; refine lw_pure rfl (pv_pick_t rfl rfl rfl) ?_) | (refine is_pk ?_; refine lw_pure rfl (pv_pick_f rfl rfl rfl) ?_) | (refine is_pk ?_; refine lw_pure rfl (pv_pick_t rfl (by first | assumption | exact decide_eq_true (by omega) | exact dec_notT (by omega)) rfl) ?_) | (refine is_pk ?_; refine lw_pure rfl (pv_pick_f rfl (by first | assumption | exact decide_eq_false (by omega) | exact dec_notF (by omega)) rfl) ?_) | (refine is_pk ?_; refine lw_pure rfl (pv_pick rfl rfl rfl) ?_) | (refine lw_pure rfl (pv_extract rfl rfl) ?_))
  refine lw_bsN (vs := [.agg (encN lnA).toArray, .agg (encN lnB).toArray, .agg (encN lnC).toArray]) (cs := [lnA, lnB, lnC].flatMap encN) elemLn rfl rfl rfl (by omega) (by omega) rfl (by simp [Value.cells, encN]) ?_; intro BE wn _ HX hb
  replace hw := grow_trans hw hb; clear hb
  have HE : SlR encN 5 wn (some ⟨BE, 0, none⟩) 3 [lnA, lnB, lnC] := HX.slR (xs := [lnA, lnB, lnC]) encN_len rfl (by simp)
  clear HX
  replace hW := grow_trans hW hw; replace HD := HD.mono hw; clear hw; have hw := Below.refl wn.heap.size wn
  repeat' (first | (refine lw_pure rfl (pv_move rfl) ?_) | (refine lw_pure rfl (pv_assign rfl) ?_) | (refine lw_call (f := 8) (by kernel_rfl) rfl rfl (lines_c _ _) ?_; rintro e w1 ⟨rfl, hb⟩; refine ⟨_, rfl, ?_⟩; replace hw := grow_trans hw hb; clear hb) | (refine is_cw ?_; first | (refine cw_seq ?_) | (refine cw_region ?_) | (refine cw_ret ?_)) | (refine is_qw ?_; first | (with_reducible refine qw_then ?_) | (with_reducible refine qw_then_ret ?_)) | (refine lw_nil ?_) | (refine is_guarded ?_; first | (refine lw_not rfl rfl rfl rfl ?_) | (refine lw_not_u rfl rfl rfl ?_) | (refine lw_on rfl rfl rfl ?_)) | ((refine is_bin ?_; first | (refine lw_pure rfl (pv_eql rfl rfl) ?_))) | ((refine is_load ?_; first | (refine lw_pure rfl (pv_load (t1 rfl) rfl (by first | fail)) ?_) | (refine lw_pure rfl (pv_loada (tA rfl) rfl (by first | fail) (by rfl)) ?_))) | ((refine is_ia ?_; first | (refine lw_pure rfl (pv_ian (tS rfl) rfl rfl (by omega)) ?_) | (refine lw_pure rfl (pv_ia (tS rfl) rfl rfl (by omega)) ?_))) | (refine is_pk ?_; refine lw_pure rfl (pv_pick_t rfl rfl rfl) ?_) | (refine is_pk ?_; refine lw_pure rfl (pv_pick_f rfl rfl rfl) ?_) | (refine is_pk ?_; refine lw_pure rfl (pv_pick_t rfl (by first | assumption | exact decide_eq_true (by omega) | exact dec_notT (by omega)) rfl) ?_) | (refine is_pk ?_; refine lw_pure rfl (pv_pick_f rfl (by first | assumption | exact decide_eq_false (by omega) | exact dec_notF (by omega)) rfl) ?_) | (refine is_pk ?_; refine lw_pure rfl (pv_pick rfl rfl rfl) ?_) | (refine lw_pure rfl (pv_extract rfl rfl) ?_))
  replace HD := HD.mono hw
  replace HE := HE.mono hw
  replace hW := grow_trans hW hw; skip; clear hw; have hw := Below.refl w1.heap.size w1
  have hx1 : [lnA, lnB, lnC][1]? = some lnB := rfl
  refine cw_drawn (fun w' => Below w1.heap.size w1 w') (by kernel_rfl) (by repeat (first | exact NoPanic.body | with_reducible refine NoPanic.then ?_ | with_reducible refine NoPanic.inBlock ?_)) (fun hNP => ?_)
  have hS := hw.drew
  (refine at0 0 rfl (fun w' hq => pv_move rfl) ?_)
  (refine at0 1 rfl (fun w' hq => pv_eql rfl rfl) ?_)
  (refine at0 2 rfl (fun w' hq => pv_move rfl) ?_)
  first | (refine an1 3 rfl rfl rfl rfl ?_) | (refine an0 3 rfl rfl rfl ?_) | (refine at1 3 rfl rfl rfl rfl (fun w' hq => pv_move rfl) ?_)
  first | (refine an1 4 rfl rfl rfl rfl ?_) | (refine an0 4 rfl rfl rfl ?_) | (refine at1 4 rfl rfl rfl rfl (fun w' hq => pv_eql rfl rfl) ?_)
  first | (refine at0 5 rfl (fun w' hq => pv_pick_t rfl rfl rfl) ?_) | (refine at0 5 rfl (fun w' hq => pv_pick_f rfl rfl rfl) ?_) | (refine at0 5 rfl (fun w' hq => pv_pick_t rfl (by first | assumption | exact decide_eq_true (by omega) | exact dec_notT (by omega)) rfl) ?_) | (refine at0 5 rfl (fun w' hq => pv_pick_f rfl (by first | assumption | exact decide_eq_false (by omega) | exact dec_notF (by omega)) rfl) ?_) | (refine at0 5 rfl (fun w' hq => pv_pick rfl rfl rfl) ?_)
  (refine at0 6 rfl (fun w' hq => pv_move rfl) ?_)
  first | (refine an1 7 rfl rfl rfl rfl ?_) | (refine an0 7 rfl rfl rfl ?_) | (refine at1 7 rfl rfl rfl rfl (fun w' hq => pv_move rfl) ?_)
  first | (refine an1 8 rfl rfl rfl rfl ?_) | (refine an0 8 rfl rfl rfl ?_) | (refine at1 8 rfl rfl rfl rfl (fun w' hq => pv_move rfl) ?_)
  refine aw_act 9 (by kernel_rfl) rfl rfl rfl ?_
  refine act_call (f := 12) (by kernel_rfl) rfl (rsameN_t rfl rfl (HD.mono hS) (HE.mono hS)) ?_; rintro e9 w9 ⟨rfl, hb⟩; (try replace HPg := HPg.mono hb); (try replace HY := HY.mono hb); refine ⟨_, rfl, grow_trans hS hb, fun hS => ?_⟩; clear hb
  first | (refine at0 10 rfl (fun w' hq => pv_pick_t rfl rfl rfl) ?_) | (refine at0 10 rfl (fun w' hq => pv_pick_f rfl rfl rfl) ?_) | (refine at0 10 rfl (fun w' hq => pv_pick_t rfl (by first | assumption | exact decide_eq_true (by omega) | exact dec_notT (by omega)) rfl) ?_) | (refine at0 10 rfl (fun w' hq => pv_pick_f rfl (by first | assumption | exact decide_eq_false (by omega) | exact dec_notF (by omega)) rfl) ?_) | (refine at0 10 rfl (fun w' hq => pv_pick rfl rfl rfl) ?_)
  (refine at0 11 rfl (fun w' hq => pv_move rfl) ?_)
  first | (refine an1 12 rfl rfl rfl rfl ?_) | (refine an0 12 rfl rfl rfl ?_) | (refine at1 12 rfl rfl rfl rfl (fun w' hq => pv_move rfl) ?_)
  first | (refine an1 14 rfl rfl rfl rfl ?_) | (refine an0 14 rfl rfl rfl ?_) | (refine at1 14 rfl rfl rfl rfl (fun w' hq => pv_move rfl) ?_)
  first | (refine an1 15 rfl rfl rfl rfl ?_) | (refine an0 15 rfl rfl rfl ?_) | (refine at1 15 rfl rfl rfl rfl (fun w' hq => pv_ian (tS rfl) rfl rfl (by omega)) ?_) | (refine at1 15 rfl rfl rfl rfl (fun w' hq => pv_ia (tS rfl) rfl rfl (by omega)) ?_)
  first | (refine an1 16 rfl rfl rfl rfl ?_) | (refine an0 16 rfl rfl rfl ?_) | (refine at1 16 rfl rfl rfl rfl (fun w' hq => pv_load (t1 rfl) rfl (by first | exact SlR.ld (HE.mono hq) hx1 rfl | exact SlR.ld1 (HE.mono hq) hx1 rfl)) ?_) | (refine at1 16 rfl rfl rfl rfl (fun w' hq => pv_loada (tA rfl) rfl (by first | exact SlR.lda (HE.mono hq) hx1) (by rfl)) ?_)
  refine aw_act2 13 17 (by kernel_rfl) rfl rfl rfl rfl rfl rfl ?_ ?_
  · refine act_call (f := 14) (by kernel_rfl) rfl (pageL_e slk3 rfl (HD.mono hS) (by simp)) ?_; rintro e9 wp ⟨⟨ga, gc, rfl, HPg⟩, hb⟩; (try replace HY := HY.mono hb); refine ⟨_, rfl, grow_trans hS hb, fun hS => ?_⟩; clear hb
    refine aw_act 17 (by kernel_rfl) rfl rfl rfl ?_
    refine act_bs (vs := [.agg (encN lnB).toArray]) (cs := encN lnB) elemLn rfl rfl (by omega) (by omega) rfl (by simp [Value.cells, encN]) ?_; intro wb HB2 hb; have HY := HB2.slR (xs := [lnB]) encN_len rfl (by simp); (try replace HPg := HPg.mono hb); refine ⟨grow_trans hS hb, fun hS => ?_⟩; clear hb
    refine aw_act 18 (by kernel_rfl) rfl rfl rfl ?_
    refine act_call (f := 8) (by kernel_rfl) rfl (lines_c _ _) ?_; rintro e9 wl ⟨rfl, hb⟩; replace HY := HY.mono hb; replace HPg := HPg.mono hb; refine ⟨_, rfl, grow_trans hS hb, fun hS => ?_⟩; clear hb
    refine aw_act 19 (by kernel_rfl) rfl rfl rfl ?_
    refine act_call (f := 12) (by kernel_rfl) rfl (rsameN_t rfl rfl HPg HY) ?_; rintro e9 w9 ⟨rfl, hb⟩; (try replace HPg := HPg.mono hb); (try replace HY := HY.mono hb); refine ⟨_, rfl, grow_trans hS hb, fun hS => ?_⟩; clear hb
    first | (refine at0 20 rfl (fun w' hq => pv_pick_t rfl rfl rfl) ?_) | (refine at0 20 rfl (fun w' hq => pv_pick_f rfl rfl rfl) ?_) | (refine at0 20 rfl (fun w' hq => pv_pick_t rfl (by first | assumption | exact decide_eq_true (by omega) | exact dec_notT (by omega)) rfl) ?_) | (refine at0 20 rfl (fun w' hq => pv_pick_f rfl (by first | assumption | exact decide_eq_false (by omega) | exact dec_notF (by omega)) rfl) ?_) | (refine at0 20 rfl (fun w' hq => pv_pick rfl rfl rfl) ?_)
    (refine at0 21 rfl (fun w' hq => pv_move rfl) ?_)
    first | (refine an1 22 rfl rfl rfl rfl ?_) | (refine an0 22 rfl rfl rfl ?_) | (refine at1 22 rfl rfl rfl rfl (fun w' hq => pv_move rfl) ?_)
    refine aw_act 23 (by kernel_rfl) rfl rfl rfl ?_
    refine act_call (f := 19) (by kernel_rfl) rfl (balL_e (z := 70) (by rfl) rfl (HD.mono hS)) ?_; rintro e9 w9 ⟨rfl, hb⟩; refine ⟨_, rfl, grow_trans hS hb, fun hS => ?_⟩; clear hb
    first | (refine an1 24 rfl rfl rfl rfl ?_) | (refine an0 24 rfl rfl rfl ?_) | (refine at1 24 rfl rfl rfl rfl (fun w' hq => pv_eql rfl rfl) ?_)
    first | (refine at0 25 rfl (fun w' hq => pv_pick_t rfl rfl rfl) ?_) | (refine at0 25 rfl (fun w' hq => pv_pick_f rfl rfl rfl) ?_) | (refine at0 25 rfl (fun w' hq => pv_pick_t rfl (by first | assumption | exact decide_eq_true (by omega) | exact dec_notT (by omega)) rfl) ?_) | (refine at0 25 rfl (fun w' hq => pv_pick_f rfl (by first | assumption | exact decide_eq_false (by omega) | exact dec_notF (by omega)) rfl) ?_) | (refine at0 25 rfl (fun w' hq => pv_pick rfl rfl rfl) ?_)
    (refine at0 26 rfl (fun w' hq => pv_move rfl) ?_)
    first | (refine an1 27 rfl rfl rfl rfl ?_) | (refine an0 27 rfl rfl rfl ?_) | (refine at1 27 rfl rfl rfl rfl (fun w' hq => pv_move rfl) ?_)
    refine aw_act 28 (by kernel_rfl) rfl rfl rfl ?_
    refine act_call (f := 19) (by kernel_rfl) rfl (balL_e (z := 0) (by rfl) rfl (HD.mono hS)) ?_; rintro e9 w9 ⟨rfl, hb⟩; refine ⟨_, rfl, grow_trans hS hb, fun hS => ?_⟩; clear hb
    first | (refine an1 29 rfl rfl rfl rfl ?_) | (refine an0 29 rfl rfl rfl ?_) | (refine at1 29 rfl rfl rfl rfl (fun w' hq => pv_eql rfl rfl) ?_)
    first | (refine at0 30 rfl (fun w' hq => pv_pick_t rfl rfl rfl) ?_) | (refine at0 30 rfl (fun w' hq => pv_pick_f rfl rfl rfl) ?_) | (refine at0 30 rfl (fun w' hq => pv_pick_t rfl (by first | assumption | exact decide_eq_true (by omega) | exact dec_notT (by omega)) rfl) ?_) | (refine at0 30 rfl (fun w' hq => pv_pick_f rfl (by first | assumption | exact decide_eq_false (by omega) | exact dec_notF (by omega)) rfl) ?_) | (refine at0 30 rfl (fun w' hq => pv_pick rfl rfl rfl) ?_)
    (refine at0 31 rfl (fun w' hq => pv_assign rfl) ?_)
    refine aw_done (by kernel_rfl) ?_
    replace hw := hS; clear hS hNP
    (repeat' (first | (refine lw_pure rfl (pv_move rfl) ?_) | (refine lw_pure rfl (pv_assign rfl) ?_) | (refine is_cw ?_; first | (refine cw_seq ?_) | (refine cw_region ?_) | (refine cw_ret ?_)) | (refine is_qw ?_; first | (with_reducible refine qw_then ?_) | (with_reducible refine qw_then_ret ?_)) | (refine lw_nil ?_) | (refine is_guarded ?_; first | (refine lw_not rfl rfl rfl rfl ?_) | (refine lw_not_u rfl rfl rfl ?_) | (refine lw_on rfl rfl rfl ?_)) | ((refine is_bin ?_; first | (refine lw_pure rfl (pv_eql rfl rfl) ?_))) | ((refine is_load ?_; first | (refine lw_pure rfl (pv_load (t1 rfl) rfl (by first | fail)) ?_) | (refine lw_pure rfl (pv_loada (tA rfl) rfl (by first | fail) (by rfl)) ?_))) | ((refine is_ia ?_; first | (refine lw_pure rfl (pv_ian (tS rfl) rfl rfl (by omega)) ?_) | (refine lw_pure rfl (pv_ia (tS rfl) rfl rfl (by omega)) ?_))) | (refine is_pk ?_; refine lw_pure rfl (pv_pick_t rfl rfl rfl) ?_) | (refine is_pk ?_; refine lw_pure rfl (pv_pick_f rfl rfl rfl) ?_) | (refine is_pk ?_; refine lw_pure rfl (pv_pick_t rfl (by first | assumption | exact decide_eq_true (by omega) | exact dec_notT (by omega)) rfl) ?_) | (refine is_pk ?_; refine lw_pure rfl (pv_pick_f rfl (by first | assumption | exact decide_eq_false (by omega) | exact dec_notF (by omega)) rfl) ?_) | (refine is_pk ?_; refine lw_pure rfl (pv_pick rfl rfl rfl) ?_) | (refine lw_pure rfl (pv_extract rfl rfl) ?_))); exact qw_ret1 rfl rfl ⟨rfl, grow_trans hW hw⟩
  · refine act_bs (vs := [.agg (encN lnB).toArray]) (cs := encN lnB) elemLn rfl rfl (by omega) (by omega) rfl (by simp [Value.cells, encN]) ?_; intro wb HB2 hb; have HY := HB2.slR (xs := [lnB]) encN_len rfl (by simp); (try replace HPg := HPg.mono hb); refine ⟨grow_trans hS hb, fun hS => ?_⟩; clear hb
    refine aw_act 13 (by kernel_rfl) rfl rfl rfl ?_
    refine act_call (f := 14) (by kernel_rfl) rfl (pageL_e slk3 rfl (HD.mono hS) (by simp)) ?_; rintro e9 wp ⟨⟨ga, gc, rfl, HPg⟩, hb⟩; (try replace HY := HY.mono hb); refine ⟨_, rfl, grow_trans hS hb, fun hS => ?_⟩; clear hb
    refine aw_act 18 (by kernel_rfl) rfl rfl rfl ?_
    refine act_call (f := 8) (by kernel_rfl) rfl (lines_c _ _) ?_; rintro e9 wl ⟨rfl, hb⟩; replace HY := HY.mono hb; replace HPg := HPg.mono hb; refine ⟨_, rfl, grow_trans hS hb, fun hS => ?_⟩; clear hb
    refine aw_act 19 (by kernel_rfl) rfl rfl rfl ?_
    refine act_call (f := 12) (by kernel_rfl) rfl (rsameN_t rfl rfl HPg HY) ?_; rintro e9 w9 ⟨rfl, hb⟩; (try replace HPg := HPg.mono hb); (try replace HY := HY.mono hb); refine ⟨_, rfl, grow_trans hS hb, fun hS => ?_⟩; clear hb
    first | (refine at0 20 rfl (fun w' hq => pv_pick_t rfl rfl rfl) ?_) | (refine at0 20 rfl (fun w' hq => pv_pick_f rfl rfl rfl) ?_) | (refine at0 20 rfl (fun w' hq => pv_pick_t rfl (by first | assumption | exact decide_eq_true (by omega) | exact dec_notT (by omega)) rfl) ?_) | (refine at0 20 rfl (fun w' hq => pv_pick_f rfl (by first | assumption | exact decide_eq_false (by omega) | exact dec_notF (by omega)) rfl) ?_) | (refine at0 20 rfl (fun w' hq => pv_pick rfl rfl rfl) ?_)
    (refine at0 21 rfl (fun w' hq => pv_move rfl) ?_)
    first | (refine an1 22 rfl rfl rfl rfl ?_) | (refine an0 22 rfl rfl rfl ?_) | (refine at1 22 rfl rfl rfl rfl (fun w' hq => pv_move rfl) ?_)
    refine aw_act 23 (by kernel_rfl) rfl rfl rfl ?_
    refine act_call (f := 19) (by kernel_rfl) rfl (balL_e (z := 70) (by rfl) rfl (HD.mono hS)) ?_; rintro e9 w9 ⟨rfl, hb⟩; refine ⟨_, rfl, grow_trans hS hb, fun hS => ?_⟩; clear hb
    first | (refine an1 24 rfl rfl rfl rfl ?_) | (refine an0 24 rfl rfl rfl ?_) | (refine at1 24 rfl rfl rfl rfl (fun w' hq => pv_eql rfl rfl) ?_)
    first | (refine at0 25 rfl (fun w' hq => pv_pick_t rfl rfl rfl) ?_) | (refine at0 25 rfl (fun w' hq => pv_pick_f rfl rfl rfl) ?_) | (refine at0 25 rfl (fun w' hq => pv_pick_t rfl (by first | assumption | exact decide_eq_true (by omega) | exact dec_notT (by omega)) rfl) ?_) | (refine at0 25 rfl (fun w' hq => pv_pick_f rfl (by first | assumption | exact decide_eq_false (by omega) | exact dec_notF (by omega)) rfl) ?_) | (refine at0 25 rfl (fun w' hq => pv_pick rfl rfl rfl) ?_)
    (refine at0 26 rfl (fun w' hq => pv_move rfl) ?_)
    first | (refine an1 27 rfl rfl rfl rfl ?_) | (refine an0 27 rfl rfl rfl ?_) | (refine at1 27 rfl rfl rfl rfl (fun w' hq => pv_move rfl) ?_)
    refine aw_act 28 (by kernel_rfl) rfl rfl rfl ?_
    refine act_call (f := 19) (by kernel_rfl) rfl (balL_e (z := 0) (by rfl) rfl (HD.mono hS)) ?_; rintro e9 w9 ⟨rfl, hb⟩; refine ⟨_, rfl, grow_trans hS hb, fun hS => ?_⟩; clear hb
    first | (refine an1 29 rfl rfl rfl rfl ?_) | (refine an0 29 rfl rfl rfl ?_) | (refine at1 29 rfl rfl rfl rfl (fun w' hq => pv_eql rfl rfl) ?_)
    first | (refine at0 30 rfl (fun w' hq => pv_pick_t rfl rfl rfl) ?_) | (refine at0 30 rfl (fun w' hq => pv_pick_f rfl rfl rfl) ?_) | (refine at0 30 rfl (fun w' hq => pv_pick_t rfl (by first | assumption | exact decide_eq_true (by omega) | exact dec_notT (by omega)) rfl) ?_) | (refine at0 30 rfl (fun w' hq => pv_pick_f rfl (by first | assumption | exact decide_eq_false (by omega) | exact dec_notF (by omega)) rfl) ?_) | (refine at0 30 rfl (fun w' hq => pv_pick rfl rfl rfl) ?_)
    (refine at0 31 rfl (fun w' hq => pv_assign rfl) ?_)
    refine aw_done (by kernel_rfl) ?_
    replace hw := hS; clear hS hNP
    (repeat' (first | (refine lw_pure rfl (pv_move rfl) ?_) | (refine lw_pure rfl (pv_assign rfl) ?_) | (refine is_cw ?_; first | (refine cw_seq ?_) | (refine cw_region ?_) | (refine cw_ret ?_)) | (refine is_qw ?_; first | (with_reducible refine qw_then ?_) | (with_reducible refine qw_then_ret ?_)) | (refine lw_nil ?_) | (refine is_guarded ?_; first | (refine lw_not rfl rfl rfl rfl ?_) | (refine lw_not_u rfl rfl rfl ?_) | (refine lw_on rfl rfl rfl ?_)) | ((refine is_bin ?_; first | (refine lw_pure rfl (pv_eql rfl rfl) ?_))) | ((refine is_load ?_; first | (refine lw_pure rfl (pv_load (t1 rfl) rfl (by first | fail)) ?_) | (refine lw_pure rfl (pv_loada (tA rfl) rfl (by first | fail) (by rfl)) ?_))) | ((refine is_ia ?_; first | (refine lw_pure rfl (pv_ian (tS rfl) rfl rfl (by omega)) ?_) | (refine lw_pure rfl (pv_ia (tS rfl) rfl rfl (by omega)) ?_))) | (refine is_pk ?_; refine lw_pure rfl (pv_pick_t rfl rfl rfl) ?_) | (refine is_pk ?_; refine lw_pure rfl (pv_pick_f rfl rfl rfl) ?_) | (refine is_pk ?_; refine lw_pure rfl (pv_pick_t rfl (by first | assumption | exact decide_eq_true (by omega) | exact dec_notT (by omega)) rfl) ?_) | (refine is_pk ?_; refine lw_pure rfl (pv_pick_f rfl (by first | assumption | exact decide_eq_false (by omega) | exact dec_notF (by omega)) rfl) ?_) | (refine is_pk ?_; refine lw_pure rfl (pv_pick rfl rfl rfl) ?_) | (refine lw_pure rfl (pv_extract rfl rfl) ?_))); exact qw_ret1 rfl rfl ⟨rfl, grow_trans hW hw⟩

abbrev lnL : List Ln := [⟨2, 3, 6, 100, 100⟩, ⟨3, 3, 6, 40, 40⟩]
structure NmA where
  x : EvC
  wa : Option Addr
  wm : Nat
  wc : Nat
abbrev encNA (r : NmA) : List Value := [.int .u8 r.x.v, .int .u8 r.x.kind, .slice r.x.an r.x.mn r.x.cn, .slice r.x.ax r.x.mx r.x.cx, .slice r.wa r.wm r.wc]
theorem encNA_len (r : NmA) : (encNA r).length = 5 := rfl
structure FitA (w : World) (r : NmA) (t : Evt × List Ln) : Prop where
  e : EvR w r.x t.1
  m : t.2.length = r.wm
  s : SlR encN 5 w r.wa r.wc t.2
theorem FitA.mono {w w' : World} {r : NmA} {t : Evt × List Ln} (h : FitA w r t) (hb : Below w.heap.size w w') : FitA w' r t := ⟨h.e.mono hb, h.m, h.s.mono hb⟩
structure NmB where
  seq : Int
  x : EvC
  k : Int
abbrev encNB (r : NmB) : List Value := [.int .i64 r.seq, .int .u8 r.x.v, .int .u8 r.x.kind, .slice r.x.an r.x.mn r.x.cn, .slice r.x.ax r.x.mx r.x.cx, .int .i64 r.k]
theorem encNB_len (r : NmB) : (encNB r).length = 6 := rfl
structure FitB (w : World) (r : NmB) (t : Int × Evt × Int) : Prop where
  s : r.seq = t.1
  e : EvR w r.x t.2.1
  k : r.k = t.2.2
theorem FitB.mono {w w' : World} {r : NmB} {t : Int × Evt × Int} (h : FitB w r t) (hb : Below w.heap.size w w') : FitB w' r t := ⟨h.s, h.e.mono hb, h.k⟩
structure NmC where
  a : Option Addr
  m : Nat
  c : Nat
abbrev encNC (r : NmC) : List Value := [.slice r.a r.m r.c]
theorem encNC_len (r : NmC) : (encNC r).length = 1 := rfl
structure FitC (w : World) (r : NmC) (t : List Ln) : Prop where
  m : t.length = r.m
  s : SlR encN 5 w r.a r.c t
theorem FitC.mono {w w' : World} {r : NmC} {t : List Ln} (h : FitC w r t) (hb : Below w.heap.size w w') : FitC w' r t := ⟨h.m, h.s.mono hb⟩
def Fits {α β : Type} (F : World → α → β → Prop) (w : World) (rs : List α) (ts : List β) : Prop := rs.length = ts.length ∧ ∀ (j : Nat) r t, rs[j]? = some r → ts[j]? = some t → F w r t
theorem Fits.nil {α β : Type} {F : World → α → β → Prop} {w : World} : Fits F w [] [] := ⟨rfl, fun j r t h _ => by simp at h⟩
theorem Fits.mono {α β : Type} {F : World → α → β → Prop} {w w' : World} {rs : List α} {ts : List β} (h : Fits F w rs ts) (hF : ∀ r t, F w r t → F w' r t) : Fits F w' rs ts := ⟨h.1, fun j r t h1 h2 => hF _ _ (h.2 j r t h1 h2)⟩
theorem Fits.snoc {α β : Type} {F : World → α → β → Prop} {w : World} {rs : List α} {ts : List β} (h : Fits F w rs ts) {r : α} {t : β} (hr : F w r t) : Fits F w (rs ++ [r]) (ts ++ [t]) := ⟨by simp [h.1], fun j q u h1 h2 => by
  by_cases hj : j < rs.length
  · rw [List.getElem?_append_left hj] at h1
    rw [List.getElem?_append_left (by rw [← h.1]; exact hj)] at h2
    exact h.2 j q u h1 h2
  · rw [List.getElem?_append_right (by omega)] at h1
    rw [List.getElem?_append_right (by rw [← h.1]; omega), ← h.1] at h2
    cases hq : j - rs.length with
    | zero => rw [hq] at h1 h2; simp at h1 h2; subst h1 h2; exact hr
    | succ q => rw [hq] at h1; simp at h1⟩
def tblA : List (Evt × List Ln) := [((⟨3, 6, [3, 5], []⟩ : Evt), [(⟨3, 9, 6, 5, 45⟩ : Ln)]), ((⟨3, 7, [2, 100], []⟩ : Evt), [(⟨2, 9, 7, -100, 0⟩ : Ln)]), ((⟨3, 21, [2, 5, 30], []⟩ : Evt), [(⟨2, 9, 21, -30, 70⟩ : Ln), (⟨5, 9, 21, 30, 30⟩ : Ln)]), ((⟨3, 13, [1, 5, 10, 3, 2], []⟩ : Evt), [(⟨2, 9, 13, -30, 70⟩ : Ln), (⟨3, 9, 13, 28, 68⟩ : Ln)]), ((⟨3, 18, [7, 2, 50, 4], []⟩ : Evt), [(⟨2, 9, 18, -50, 50⟩ : Ln), (⟨3, 9, 18, 46, 86⟩ : Ln)]), ((⟨3, 13, [1, 5, 10, 1, 10], []⟩ : Evt), [(⟨2, 9, 13, -10, 90⟩ : Ln)]), ((⟨3, 11, [9, 2, 1, 1, 5, 5], []⟩ : Evt), []), ((⟨3, 8, [2, 1, 5], []⟩ : Evt), []), ((⟨3, 19, [99], []⟩ : Evt), []), ((⟨3, 20, [9], []⟩ : Evt), [])]
def tblB : List (Int × Evt × Int) := [(9, (⟨3, 13, [1, 9, 10, 3, 2], []⟩ : Evt), 5), (9, (⟨3, 13, [9, 1, 10, 3, 2], []⟩ : Evt), 5), (9, (⟨3, 13, [5, 6, 10, 3, 2], []⟩ : Evt), 1), (9, (⟨3, 18, [8, 2, 50, 4], []⟩ : Evt), 5), (9, (⟨3, 7, [2, 101], []⟩ : Evt), 41), (9, (⟨3, 6, [2, 1125899906842624], []⟩ : Evt), 41), (9, (⟨3, 21, [5, 2, 1], []⟩ : Evt), 41), (9, (⟨3, 18, [7, 2, 101, 4], []⟩ : Evt), 41), (2, (⟨3, 20, [9], []⟩ : Evt), 4), (-1, (⟨3, 20, [9], []⟩ : Evt), 4), (1048576, (⟨3, 20, [9], []⟩ : Evt), 4), (9, (⟨3, 20, [0], []⟩ : Evt), 4), (9, (⟨2, 20, [9], []⟩ : Evt), 4)]
def tblC : List (List Ln) := [[(⟨0, 1, 6, 5, 5⟩ : Ln)], [(⟨65, 1, 6, 5, 5⟩ : Ln)], [(⟨1, -1, 6, 5, 5⟩ : Ln)], [(⟨1, 1048576, 6, 5, 5⟩ : Ln)], [(⟨1, 1, 8, 5, 5⟩ : Ln)], [(⟨1, 1, 6, 0, 0⟩ : Ln)], [(⟨1, 1, 6, 5, 6⟩ : Ln)], [(⟨1, 1, 7, -5, -5⟩ : Ln)], [(⟨1, 1, 6, 1125899906842625, 1125899906842625⟩ : Ln)], [(⟨1, 2, 6, 5, 5⟩ : Ln), (⟨2, 1, 6, 5, 5⟩ : Ln)], [(⟨1, 2, 6, 5, 5⟩ : Ln), (⟨1, 2, 6, 5, 5⟩ : Ln)]]
theorem tblA_ok : (tblA.all fun t => decide (stmtL lnL smP smT 9 t.1 = (0, lnL ++ t.2))) = true := by kernel_rfl
theorem tblB_ok : (tblB.all fun t => decide (stmtL lnL smP smT t.1 t.2.1 = (t.2.2, [])) && !decide (t.2.2 = 0)) = true := by kernel_rfl
def evM : Evt := ⟨3, 20, [9], []⟩
theorem tblC_ok : (tblC.all fun t => decide (stmtL t [] [] 9 evM = (4, [])) && (!mayLn t && decide (t.length ≤ 2))) = true := by kernel_rfl
abbrev lnG : List Ln := [⟨1, 0, 6, 1, 1⟩, ⟨2, 0, 6, 1, 1⟩, ⟨1, 0, 6, 1, 2⟩, ⟨1, 0, 6, 1, 3⟩]
theorem lnG_ok : mayLn lnG = true := by kernel_rfl
theorem in64_L : In64N lnL := fun x hx => by simp at hx; rcases hx with rfl | rfl <;> (dsimp only; omega)
theorem in64_G : In64N lnG := fun x hx => by simp at hx; rcases hx with rfl | rfl | rfl | rfl <;> (dsimp only; omega)
theorem tblA_at {t : Evt × List Ln} (h : t ∈ tblA) : stmtL lnL smP smT 9 t.1 = (0, lnL ++ t.2) := of_decide_eq_true (List.all_eq_true.1 tblA_ok t h)
theorem tblA_lens : (tblA.all fun t => decide (t.2.length ≤ 10)) = true := by kernel_rfl
theorem tblA_len {t : Evt × List Ln} (h : t ∈ tblA) : t.2.length ≤ 10 := of_decide_eq_true (List.all_eq_true.1 tblA_lens t h)
theorem tblC_in0 : (tblC.all fun t => t.all fun x => decide ((-9223372036854775808 ≤ x.acct ∧ x.acct ≤ 9223372036854775807) ∧ (-9223372036854775808 ≤ x.seq ∧ x.seq ≤ 9223372036854775807) ∧ (-9223372036854775808 ≤ x.delta ∧ x.delta ≤ 9223372036854775807) ∧ (-9223372036854775808 ≤ x.bal ∧ x.bal ≤ 9223372036854775807))) = true := by kernel_rfl
theorem tblC_inn {t : List Ln} (h : t ∈ tblC) : In64N t := fun x hx => of_decide_eq_true (List.all_eq_true.1 (List.all_eq_true.1 tblC_in0 t h) x hx)
theorem tblB_at {t : Int × Evt × Int} (h : t ∈ tblB) : stmtL lnL smP smT t.1 t.2.1 = (t.2.2, []) := by
  have := List.all_eq_true.1 tblB_ok t h
  rw [Bool.and_eq_true] at this
  exact of_decide_eq_true this.1
theorem tblC_at {t : List Ln} (h : t ∈ tblC) : stmtL t [] [] 9 evM = (4, []) ∧ mayLn t = false ∧ t.length ≤ 2 := by
  have := List.all_eq_true.1 tblC_ok t h
  rw [Bool.and_eq_true, Bool.and_eq_true] at this
  exact ⟨of_decide_eq_true this.1, by simpa using this.2.1, of_decide_eq_true this.2.2⟩
section
variable {k nb : Nat} {P : Program} {n : Nat} {l : Fr} {w : World} {Q : Exit → Act → World → Prop} {ops : Array Oper} {os : List Oper} {d : Nat} {ty : TypeId} {pos : String} {af : Array Edge} {S T : TypeId} {α β : Type} {enc : α → List Value} {F : World → α → β → Prop}
theorem lw_bsT (val : α → Value) (hval : ∀ x, (val x).cells.toList = enc x) (hk : ∀ x, (enc x).length = k) (E : ElemT P S T k nb) {m : Nat} {ps : List (Nat × Operand)} {rs : List α} {ts : List β} (HT : Fits F w rs ts) (hF : ∀ w' r t, Below w.heap.size w w' → F w r t → F w' r t) (hd : Nat.blt d n = true) (hps : ps.map (·.1) = List.range m) (hvs : evs l (ps.map (·.2)) = some (rs.map val)) (hm : rs.length = m) (hp : 0 < m) (hs : m * k ≤ 16777216) (hmx : m ≤ 9223372036854775807)
    (h : ∀ N w', w.heap.size ≤ N → SlR enc k w' (some ⟨N, 0, none⟩) m rs → Fits F w' rs ts → Below w.heap.size w w' → LW P n ops Q os ((d, .slice (some ⟨N, 0, none⟩) m m) :: l) w') :
    LW P n ops Q (⟨some d, .buildSlice S m ps.toArray, ty, pos, af, none⟩ :: os) l w := by
  refine lw_bsN E hd hps hvs hp hs (cs := rs.flatMap enc) ?_ ?_ fun N w' hN hX hb => ?_
  · rw [List.flatMap_map]
    exact congrArg (fun f => rs.flatMap f) (funext hval)
  · intro v hv
    obtain ⟨x, _, rfl⟩ := List.mem_map.1 hv
    rw [← hk x, ← hval x]; simp
  · refine h N w' hN ?_ (HT.mono fun r t => hF w' r t hb) hb
    subst hm
    exact hX.slR hk rfl hmx
end
theorem act_bs0N {α : Type} {enc : α → List Value} {k nb : Nat} {P : Program} {n : Nat} {l : Fr} {w : World} {d : Option Nat} {ty : TypeId} {pos : String} {af : Array Edge} {g : Option (Nat × Bool)} {S T : TypeId} {Z : Value → World → Prop} (E : ElemT P S T k nb) (h : ∀ w', Own enc k T w.heap.size w' (.slice (some ⟨w.heap.size, 0, none⟩) 0 0) ([] : List α) → Below w.heap.size w w' → Z (.slice (some ⟨w.heap.size, 0, none⟩) 0 0) w') : Act1 P n l ⟨d, .buildSlice S 0 #[], ty, pos, af, g⟩ w Z := by
  obtain ⟨i, z, hi, hz, hsz, _, hzs⟩ := E.info
  refine act_ev (w' := w.alloc (.cells #[] T)) ⟨fun A hA => ?_⟩ (h _ (Own.empty0 enc k T w _ (Nat.le_refl _)) (below_alloc _ _))
  have e0 : Array.range 0 = #[] := Array.eq_empty_of_size_eq_zero (by simp)
  simp [execOp, Instr.buildSlice, run_underlying E.sl, sizeOf, typeInfo, hi, Instr.fill, newRow, e0]
theorem pv_ld4 {P : Program} {n : Nat} {l : Fr} {w : World} {d : Option Nat} {t ty T : TypeId} {x : Operand} {pos : String} {af : Array Edge} {g : Option (Nat × Bool)} {B o : Nat} {cs : List Value} {a b c e : Value} (ht : aggB P t 4 = true) (hx : ev l x = some (.pointer (some ⟨B, o, none⟩))) (hp : PT w B T cs) (h0 : cs[o]? = some a) (h1 : cs[o + 1]? = some b) (h2 : cs[o + 2]? = some c) (h3 : cs[o + 3]? = some e) : Pv P n l ⟨d, .load t x, ty, pos, af, g⟩ (.agg #[a, b, c, e]) w := by
  have := pv_loada (P := P) (n := n) (l := l) (w := w) (d := d) (ty := ty) (pos := pos) (af := af) (g := g) (cs := [a, b, c, e]) ht hx (fun i u hu => by
    match i, hu with
    | 0, hu => injection hu with hu; subst hu; exact hp.ld h0
    | 1, hu => injection hu with hu; subst hu; exact hp.ld h1
    | 2, hu => injection hu with hu; subst hu; exact hp.ld h2
    | 3, hu => injection hu with hu; subst hu; exact hp.ld h3) rfl
  exact this
theorem elemNA : ElemT Tryd.prog 38 37 5 80 := elem_of Tryd.underlying38 (by kernel_rfl) (by omega)
theorem elemNB : ElemT Tryd.prog 44 43 6 72 := elem_of Tryd.underlying44 (by kernel_rfl) (by omega)
theorem elemNC : ElemT Tryd.prog 45 27 1 24 := elem_of Tryd.underlying45 (by kernel_rfl) (by omega)
end Go.Proofs.YtnffmbfdfhokeaaDoor
