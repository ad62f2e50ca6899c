/-
  Part 1 of the texts of: StmtNames: its row and its card: whatever the input: true; the input reads as it did. Conditions: what the row prints (the table of functions reads as the program's text lays it).
-/
import Derived.Test.YtnffmbfdfhokeaaDoorZO0
import Derived.Deep.RegionLaw
import Derived.Shelf.SlSortCmp.WholeK
import Derived.Shelf.SlSortCmp.NoneTotal
import Derived.Shelf.SortG.Plain
import Derived.Shelf.SortG.SortNone
import Derived.Shelf.SlicesG.CompactI
import Derived.Shelf.SlGeneric
import Derived.Ground.SlsfProg
import Derived.Ground.SlgnProg
import Derived.Test.YtnffmbfdfhokeaaDoorProg
import Derived.Sort.OwnSortedInts
namespace Go.Proofs.YtnffmbfdfhokeaaDoor
open Go.RowKit Go.PlainAid

theorem all_len {v : Int} {cs ns : List Int} (h : cs.length ≠ ns.length) : allR v cs ns = false := by simp [allR, h]
theorem all_no {v : Int} {cs ns : List Int} {i : Nat} {c n : Int} (hc : cs[i]? = some c) (hn : ns[i]? = some n) (h : fitsR v c n = false) : allR v cs ns = false := by
  have : ((cs.zip ns).all fun p => fitsR v p.1 p.2) = false := by
    rw [List.all_eq_false]
    refine ⟨(c, n), List.mem_of_getElem? (i := i) ?_, by simp [h]⟩
    rw [List.getElem?_zip_eq_some]; exact ⟨hc, hn⟩
  simp [allR, this]
theorem all_yes {v : Int} {cs ns : List Int} (hl : cs.length = ns.length) (h : ∀ j, j < cs.length → ∀ c n, cs[j]? = some c → ns[j]? = some n → fitsR v c n = true) : allR v cs ns = true := by
  have : ((cs.zip ns).all fun p => fitsR v p.1 p.2) = true := by
    rw [List.all_eq_true]
    rintro ⟨c, n⟩ hm
    obtain ⟨j, hj⟩ := List.mem_iff_getElem?.1 hm
    rw [List.getElem?_zip_eq_some] at hj
    exact h j (List.getElem?_eq_some_iff.1 hj.1).1 c n hj.1 hj.2
  simp [allR, this, hl]
set_option maxRecDepth 20000 in
set_option maxHeartbeats 1000000 in
theorem all_c {cs ns : List Int} {m1 m2 : Nat} {a b : Option Addr} {ca cb : Nat} (v : Int) {w : World} (h1 : cs.length = m1) (h2 : ns.length = m2) (HC : SlR encB 1 w a ca cs) (HN : SlR encI 1 w b cb ns) : Calls Tryd.prog 44 #[.int .u8 v, .slice a m1 ca, .slice b m2 cb] w fun e w' => e = .returned (.bool (allR v cs ns)) ∧ Below w.heap.size w w' := by
  subst h1 h2
  have hw := Below.refl w.heap.size w
  have hca := HC.le
  have hcm := HC.max
  refine fn_enter 30 Tryd.func44 rfl rfl rfl ?_
  by_cases hl : cs.length = ns.length
  · repeat' (first | (refine lw_pure rfl (pv_move rfl) ?_) | (refine lw_pure rfl (pv_assign rfl) ?_) | (refine is_cw ?_; first | (refine cw_seq ?_) | (refine cw_region ?_) | (refine is_cd ?_; refine cw_false rfl (by first | assumption | exact decide_eq_false (by omega) | exact dec_notF (by omega)) ?_) | (refine cw_skip ?_) | (refine cw_block ?_)) | (refine is_qw ?_; first | (with_reducible refine qw_then ?_)) | (refine lw_nil ?_) | ((refine is_bin ?_; first | (refine lw_pure rfl (pv_neq rfl rfl) ?_))) | ((refine is_bi ?_; first | (refine lw_pure rfl (pv_lenl (tS rfl) rfl) ?_))))
    refine cw_loop (σ := Nat) (fun k => [(0, .int .u8 v), (2, .slice b ns.length cb), (14, .slice a cs.length ca), (15, .int .i64 (cs.length : Nat)), (16, .int .i64 (k : Nat))]) (fun k wr => k ≤ cs.length ∧ Below w.heap.size w wr ∧ ∀ j, j < k → ∀ c n, cs[j]? = some c → ns[j]? = some n → fitsR v c n = true) (fun k => cs.length - k) 0 (by repeat' (first | exact trivial | refine ⟨rfl, ?_⟩)) ⟨Nat.zero_le _, hw, by omega⟩ ?_
    clear hw
    rintro k wr ⟨hk, hw, hn⟩
    by_cases hlt : k < cs.length
    · have hxc : cs[k]? = some cs[k] := List.getElem?_eq_getElem hlt
      have hxn : ns[k]? = some (ns[k]'(by omega)) := List.getElem?_eq_getElem _
      obtain ⟨ab, ao, rfl, -, -⟩ := HC.at (by intro h; rw [h] at hlt; simp at hlt)
      obtain ⟨bb, bo, rfl, -, -⟩ := HN.at (by intro h; rw [h] at hl; rw [hl] at hlt; simp at hlt)
      generalize cs[k] = c at hxc
      generalize ns[k] = n at hxn
      cases hf : fitsR v c n with
      | true =>
        repeat' (first | (refine lw_pure rfl (pv_move rfl) ?_) | (refine lw_pure rfl (pv_assign rfl) ?_) | (refine lw_call (f := 64) (by kernel_rfl) rfl rfl (fits_e hf _) ?_; rintro e w1 ⟨rfl, hb⟩; refine ⟨_, rfl, ?_⟩; replace hw := grow_trans hw hb; clear hb) | (refine is_cw ?_; first | (refine cw_seq ?_) | (refine cw_region ?_) | (refine cw_false rfl rfl ?_) | (refine is_cd ?_; refine cw_true rfl (by first | assumption | exact decide_eq_true (by omega) | exact dec_notT (by omega)) ?_) | (refine cw_skip ?_) | (refine cw_block ?_)) | (refine is_qw ?_; first | (with_reducible refine qw_then ?_) | (with_reducible refine qw_in ?_)) | (refine lw_nil ?_) | ((refine is_bin ?_; first | (refine lw_pure rfl (pv_lss rfl rfl) ?_) | (refine lw_pure rfl (pv_inc rfl rfl (by omega)) ?_))) | ((refine is_load ?_; first | (refine lw_pure rfl (pv_load (t1 rfl) rfl (by first | exact SlR.ld (HC.mono hw) hxc rfl | exact SlR.ld1 (HC.mono hw) hxc rfl | exact SlR.ld (HN.mono hw) hxn rfl | exact SlR.ld1 (HN.mono hw) hxn rfl)) ?_))) | ((refine is_ia ?_; first | (refine lw_pure rfl (pv_ian (tS rfl) rfl rfl (by omega)) ?_))) | ((refine is_un ?_; first | (refine lw_pure rfl (pv_not rfl) ?_))))
        refine qw_round (k + 1) (by repeat' (first | exact trivial | refine ⟨rfl, ?_⟩)) ⟨by omega, hw, ?_⟩ (by omega)
        intro j hj c' n' hc' hn'
        by_cases hjk : j = k
        · subst hjk; rw [hxc] at hc'; rw [hxn] at hn'; injection hc' with hc'; injection hn' with hn'; subst hc' hn'; exact hf
        · exact hn j (by omega) c' n' hc' hn'
      | false =>
        repeat' (first | (refine lw_pure rfl (pv_move rfl) ?_) | (refine lw_pure rfl (pv_assign rfl) ?_) | (refine lw_call (f := 64) (by kernel_rfl) rfl rfl (fits_e hf _) ?_; rintro e w1 ⟨rfl, hb⟩; refine ⟨_, rfl, ?_⟩; replace hw := grow_trans hw hb; clear hb) | (refine is_cw ?_; first | (refine cw_seq ?_) | (refine cw_region ?_) | (refine cw_true rfl rfl ?_) | (refine is_cd ?_; refine cw_true rfl (by first | assumption | exact decide_eq_true (by omega) | exact dec_notT (by omega)) ?_) | (refine cw_skip ?_) | (refine cw_block ?_) | (refine cw_ret ?_)) | (refine is_qw ?_; first | (with_reducible refine qw_then ?_) | (with_reducible refine qw_then_ret ?_) | (with_reducible refine qw_in_ret ?_)) | (refine lw_nil ?_) | ((refine is_bin ?_; first | (refine lw_pure rfl (pv_lss rfl rfl) ?_))) | ((refine is_load ?_; first | (refine lw_pure rfl (pv_load (t1 rfl) rfl (by first | exact SlR.ld (HC.mono hw) hxc rfl | exact SlR.ld1 (HC.mono hw) hxc rfl | exact SlR.ld (HN.mono hw) hxn rfl | exact SlR.ld1 (HN.mono hw) hxn rfl)) ?_))) | ((refine is_ia ?_; first | (refine lw_pure rfl (pv_ian (tS rfl) rfl rfl (by omega)) ?_))) | ((refine is_un ?_; first | (refine lw_pure rfl (pv_not rfl) ?_))))
        exact qw_ret1 rfl rfl ⟨ret_bool (all_no hxc hxn hf).symm, hw⟩
    · have hkl : k = cs.length := by omega
      subst hkl
      repeat' (first | (refine lw_pure rfl (pv_assign rfl) ?_) | (refine is_cw ?_; first | (refine cw_seq ?_) | (refine cw_region ?_) | (refine is_cd ?_; refine cw_false rfl (by first | assumption | exact decide_eq_false (by omega) | exact dec_notF (by omega)) ?_) | (refine cw_exit ?_) | (refine cw_ret ?_)) | (refine is_qw ?_; first | (with_reducible refine qw_then ?_) | (with_reducible refine qw_in_hit ?_) | (with_reducible refine qw_then_exit ?_)) | (refine lw_nil ?_) | ((refine is_bin ?_; first | (refine lw_pure rfl (pv_lss rfl rfl) ?_))))
      exact qw_ret1 rfl rfl ⟨ret_bool (all_yes hl hn).symm, hw⟩
  · repeat' (first | (refine lw_pure rfl (pv_move rfl) ?_) | (refine lw_pure rfl (pv_assign rfl) ?_) | (refine is_cw ?_; first | (refine cw_seq ?_) | (refine cw_region ?_) | (refine is_cd ?_; refine cw_true rfl (by first | assumption | exact decide_eq_true (by omega) | exact dec_notT (by omega)) ?_) | (refine cw_ret ?_)) | (refine is_qw ?_; first | (with_reducible refine qw_then ?_) | (with_reducible refine qw_then_ret ?_)) | (refine lw_nil ?_) | ((refine is_bin ?_; first | (refine lw_pure rfl (pv_neq rfl rfl) ?_))) | ((refine is_bi ?_; first | (refine lw_pure rfl (pv_lenl (tS rfl) rfl) ?_))))
    exact qw_ret1 rfl rfl ⟨ret_bool (all_len hl).symm, hw⟩

theorem name_no {s : ByteArray} {k : Nat} (hk : k < s.size) (h : okC (bt s k) = false) : nameR s = false := by
  have : (bytesI s).all okC = false := by rw [List.all_eq_false]; exact ⟨_, bt_mem hk, by simp [h]⟩
  simp [nameR, this]
theorem name_len {s : ByteArray} (h : ¬ (1 ≤ s.size ∧ s.size ≤ 24)) : nameR s = false := by
  unfold nameR; rw [decide_eq_false h]; rfl
theorem name_yes {s : ByteArray} (h : ∀ j, j < s.size → okC (bt s j) = true) (hl : 1 ≤ s.size ∧ s.size ≤ 24) : nameR s = true := by
  have := bytes_all s okC (Nat.le_refl _) h
  rw [List.take_of_length_le (by rw [bytesI_len]; omega)] at this
  simp [nameR, this, hl]
theorem name_all {s : ByteArray} (h : ∀ j, j < s.size → okC (bt s j) = true) : nameR s = decide (1 ≤ s.size ∧ s.size ≤ 24) := by
  by_cases hl : 1 ≤ s.size ∧ s.size ≤ 24
  · rw [name_yes h hl, decide_eq_true hl]
  · rw [name_len hl, decide_eq_false hl]
theorem ok_t {c : Int} (h : (97 ≤ c ∧ c ≤ 122) ∨ (48 ≤ c ∧ c ≤ 57) ∨ c = 45 ∨ c = 95) : okC c = true := decide_eq_true h
theorem ok_f {c : Int} (h : ¬ ((97 ≤ c ∧ c ≤ 122) ∨ (48 ≤ c ∧ c ≤ 57) ∨ c = 45 ∨ c = 95)) : okC c = false := decide_eq_false h
set_option maxRecDepth 20000 in
set_option maxHeartbeats 4000000 in
theorem name_c (s : ByteArray) (hs : s.size ≤ 9223372036854775806) (w : World) : Calls Tryd.prog 45 #[.string s] w fun e w' => e = .returned (.bool (nameR s)) ∧ Below w.heap.size w w' := by
  have hw := Below.refl w.heap.size w
  refine fn_enter 43 Tryd.func45 rfl rfl rfl ?_
  repeat' (first | (refine lw_pure rfl (pv_move rfl) ?_) | (refine lw_pure rfl (pv_assign rfl) ?_) | (refine is_cw ?_; first | (refine cw_seq ?_) | (refine cw_region ?_) | (refine cw_true rfl rfl ?_) | (refine cw_false rfl rfl ?_) | (refine is_cd ?_; refine cw_true rfl (by first | assumption | exact decide_eq_true (by omega) | exact dec_notT (by omega)) ?_) | (refine is_cd ?_; refine cw_false rfl (by first | assumption | exact decide_eq_false (by omega) | exact dec_notF (by omega)) ?_) | (refine cw_skip ?_) | (refine cw_block ?_) | (refine cw_exit ?_) | (refine cw_ret ?_)) | (refine is_qw ?_; first | (with_reducible refine qw_then ?_) | (with_reducible refine qw_in ?_) | (with_reducible refine qw_in_hit ?_) | (refine qw_in_miss rfl ?_) | (with_reducible refine qw_then_exit ?_) | (with_reducible refine qw_then_ret ?_) | (with_reducible refine qw_in_ret ?_)) | (refine lw_nil ?_) | (refine is_guarded ?_; first | (refine lw_not rfl rfl rfl rfl ?_) | (refine lw_not_u rfl rfl rfl ?_) | (refine lw_on rfl rfl rfl ?_)) | ((refine is_bin ?_; first | (refine lw_pure rfl (pv_lss rfl rfl) ?_) | (refine lw_pure rfl (pv_neq rfl rfl) ?_) | (refine lw_pure rfl (pv_leq rfl rfl) ?_) | (refine lw_pure rfl (pv_gtr rfl rfl) ?_) | (refine lw_pure rfl (pv_geq rfl rfl) ?_) | (refine lw_pure rfl (pv_inc rfl rfl (by omega)) ?_) | (refine lw_pure rfl (pv_add rfl rfl (by omega)) ?_))) | ((refine is_load ?_; first | (refine lw_pure rfl (pv_load (t1 rfl) rfl (by first | fail)) ?_) | (refine lw_pure rfl (pv_loada (tA rfl) rfl (by first | fail) (by rfl)) ?_))) | ((refine is_ia ?_; first | (refine lw_pure rfl (pv_ian (tS rfl) rfl rfl (by omega)) ?_) | (refine lw_pure rfl (pv_ia (tS rfl) rfl rfl (by omega)) ?_))) | ((refine is_bi ?_; first | (refine lw_pure rfl (pv_lenl (tS rfl) rfl) ?_) | (refine lw_pure rfl (pv_lens (tStr rfl) rfl) ?_))) | (refine is_pk ?_; refine lw_pure rfl (pv_pick_t rfl rfl rfl) ?_) | (refine is_pk ?_; refine lw_pure rfl (pv_pick_f rfl rfl rfl) ?_) | (refine is_pk ?_; refine lw_pure rfl (pv_pick_t rfl (by first | assumption | exact decide_eq_true (by omega) | exact dec_notT (by omega)) rfl) ?_) | (refine is_pk ?_; refine lw_pure rfl (pv_pick_f rfl (by first | assumption | exact decide_eq_false (by omega) | exact dec_notF (by omega)) rfl) ?_) | (refine is_pk ?_; refine lw_pure rfl (pv_pick rfl rfl rfl) ?_) | (refine is_cv ?_; refine lw_pure rfl (pv_conv (tCv rfl rfl) rfl (by omega)) ?_))
  refine lw_s2b (tStr rfl) Tryd.underlying69 Tryd.underlying5 rfl rfl ?_; intro N c w1 hC hN hb
  replace hw := grow_trans hw hb
  clear hb
  have hE := Ext.mk hw
  clear hw
  have hw := Below.refl w1.heap.size w1
  repeat' (first | (refine lw_pure rfl (pv_move rfl) ?_) | (refine lw_pure rfl (pv_assign rfl) ?_) | (refine is_cw ?_; first | (refine cw_seq ?_) | (refine cw_region ?_) | (refine cw_true rfl rfl ?_) | (refine cw_false rfl rfl ?_) | (refine is_cd ?_; refine cw_true rfl (by first | assumption | exact decide_eq_true (by omega) | exact dec_notT (by omega)) ?_) | (refine is_cd ?_; refine cw_false rfl (by first | assumption | exact decide_eq_false (by omega) | exact dec_notF (by omega)) ?_) | (refine cw_skip ?_) | (refine cw_block ?_) | (refine cw_exit ?_) | (refine cw_ret ?_)) | (refine is_qw ?_; first | (with_reducible refine qw_then ?_) | (with_reducible refine qw_in ?_) | (with_reducible refine qw_in_hit ?_) | (refine qw_in_miss rfl ?_) | (with_reducible refine qw_then_exit ?_) | (with_reducible refine qw_then_ret ?_) | (with_reducible refine qw_in_ret ?_)) | (refine lw_nil ?_) | (refine is_guarded ?_; first | (refine lw_not rfl rfl rfl rfl ?_) | (refine lw_not_u rfl rfl rfl ?_) | (refine lw_on rfl rfl rfl ?_)) | ((refine is_bin ?_; first | (refine lw_pure rfl (pv_lss rfl rfl) ?_) | (refine lw_pure rfl (pv_neq rfl rfl) ?_) | (refine lw_pure rfl (pv_leq rfl rfl) ?_) | (refine lw_pure rfl (pv_gtr rfl rfl) ?_) | (refine lw_pure rfl (pv_geq rfl rfl) ?_) | (refine lw_pure rfl (pv_inc rfl rfl (by omega)) ?_) | (refine lw_pure rfl (pv_add rfl rfl (by omega)) ?_))) | ((refine is_load ?_; first | (refine lw_pure rfl (pv_load (t1 rfl) rfl (by first | fail)) ?_) | (refine lw_pure rfl (pv_loada (tA rfl) rfl (by first | fail) (by rfl)) ?_))) | ((refine is_ia ?_; first | (refine lw_pure rfl (pv_ian (tS rfl) rfl rfl (by omega)) ?_) | (refine lw_pure rfl (pv_ia (tS rfl) rfl rfl (by omega)) ?_))) | ((refine is_bi ?_; first | (refine lw_pure rfl (pv_lenl (tS rfl) rfl) ?_) | (refine lw_pure rfl (pv_lens (tStr rfl) rfl) ?_))) | (refine is_pk ?_; refine lw_pure rfl (pv_pick_t rfl rfl rfl) ?_) | (refine is_pk ?_; refine lw_pure rfl (pv_pick_f rfl rfl rfl) ?_) | (refine is_pk ?_; refine lw_pure rfl (pv_pick_t rfl (by first | assumption | exact decide_eq_true (by omega) | exact dec_notT (by omega)) rfl) ?_) | (refine is_pk ?_; refine lw_pure rfl (pv_pick_f rfl (by first | assumption | exact decide_eq_false (by omega) | exact dec_notF (by omega)) rfl) ?_) | (refine is_pk ?_; refine lw_pure rfl (pv_pick rfl rfl rfl) ?_) | (refine is_cv ?_; refine lw_pure rfl (pv_conv (tCv rfl rfl) rfl (by omega)) ?_))
  refine cw_loop (σ := Nat) (fun k => [(0, .string s), (6, .slice (some ⟨N, 0, none⟩) s.size c), (7, .int .i64 (s.size : Nat)), (8, .int .i64 (k : Nat))]) (fun k wr => k ≤ s.size ∧ Below w1.heap.size w1 wr ∧ ∀ j, j < k → okC (bt s j) = true) (fun k => s.size - k) 0 (by repeat' (first | exact trivial | refine ⟨rfl, ?_⟩)) ⟨Nat.zero_le _, hw, by omega⟩ ?_
  clear hw
  rintro k wr ⟨hk, hw, hn⟩
  by_cases hlt : k < s.size
  · have hld : wr.cell? ⟨N, 0 + k * 1, none⟩ = some (.int .u8 (bt s k)) := by
      rw [show 0 + k * 1 = k by omega]
      exact (hw.cell (p := ⟨N, k, none⟩) hN).trans (hC k hlt)
    have hbd := bytesI_bd s _ (bt_mem hlt)
    repeat' (first | (refine lw_pure rfl (pv_move rfl) ?_) | (refine lw_pure rfl (pv_assign rfl) ?_) | (refine lw_pure rfl (pv_load (t1 rfl) rfl hld) ?_) | (refine is_cw ?_; first | (refine cw_seq ?_) | (refine cw_region ?_) | (refine cw_true rfl rfl ?_) | (refine cw_false rfl rfl ?_) | (refine is_cd ?_; refine cw_true rfl (by first | assumption | exact decide_eq_true (by omega) | exact dec_notT (by omega)) ?_) | (refine is_cd ?_; refine cw_false rfl (by first | assumption | exact decide_eq_false (by omega) | exact dec_notF (by omega)) ?_) | (refine cw_skip ?_) | (refine cw_block ?_) | (refine cw_exit ?_) | (refine cw_ret ?_)) | (refine is_qw ?_; first | (with_reducible refine qw_then ?_) | (with_reducible refine qw_in ?_) | (with_reducible refine qw_in_hit ?_) | (refine qw_in_miss rfl ?_) | (with_reducible refine qw_then_exit ?_) | (with_reducible refine qw_then_ret ?_) | (with_reducible refine qw_in_ret ?_)) | (refine lw_nil ?_) | (refine is_guarded ?_; first | (refine lw_not rfl rfl rfl rfl ?_) | (refine lw_not_u rfl rfl rfl ?_) | (refine lw_on rfl rfl rfl ?_) | (refine lw_on rfl rfl (by first | assumption | exact decide_eq_true (by omega) | exact decide_eq_false (by omega) | exact dec_notT (by omega) | exact dec_notF (by omega)) ?_) | (refine lw_not rfl rfl rfl (by first | assumption | exact decide_eq_true (by omega) | exact decide_eq_false (by omega) | exact dec_notT (by omega) | exact dec_notF (by omega)) ?_) | (refine lw_gs_t rfl rfl rfl (fun hc => ?_) (fun hc => ?_) <;> (first | replace hc := of_decide_eq_true hc | replace hc := of_decide_eq_false hc | replace hc := dec_nT hc | replace hc := dec_nF hc | skip) <;> (try (exfalso; omega))) | (refine lw_gs_f rfl rfl rfl (fun hc => ?_) (fun hc => ?_) <;> (first | replace hc := of_decide_eq_true hc | replace hc := of_decide_eq_false hc | replace hc := dec_nT hc | replace hc := dec_nF hc | skip) <;> (try (exfalso; omega)))) | ((refine is_bin ?_; first | (refine lw_pure rfl (pv_lss rfl rfl) ?_) | (refine lw_pure rfl (pv_neq rfl rfl) ?_) | (refine lw_pure rfl (pv_leq rfl rfl) ?_) | (refine lw_pure rfl (pv_gtr rfl rfl) ?_) | (refine lw_pure rfl (pv_geq rfl rfl) ?_) | (refine lw_pure rfl (pv_inc rfl rfl (by omega)) ?_) | (refine lw_pure rfl (pv_add rfl rfl (by omega)) ?_))) | ((refine is_load ?_; first | (refine lw_pure rfl (pv_load (t1 rfl) rfl (by first | fail)) ?_) | (refine lw_pure rfl (pv_loada (tA rfl) rfl (by first | fail) (by rfl)) ?_))) | ((refine is_ia ?_; first | (refine lw_pure rfl (pv_ian (tS rfl) rfl rfl (by omega)) ?_) | (refine lw_pure rfl (pv_ia (tS rfl) rfl rfl (by omega)) ?_))) | ((refine is_bi ?_; first | (refine lw_pure rfl (pv_lenl (tS rfl) rfl) ?_) | (refine lw_pure rfl (pv_lens (tStr rfl) rfl) ?_))) | (refine is_pk ?_; refine lw_pure rfl (pv_pick_t rfl rfl rfl) ?_) | (refine is_pk ?_; refine lw_pure rfl (pv_pick_f rfl rfl rfl) ?_) | (refine is_pk ?_; refine lw_pure rfl (pv_pick_t rfl (by first | assumption | exact decide_eq_true (by omega) | exact dec_notT (by omega)) rfl) ?_) | (refine is_pk ?_; refine lw_pure rfl (pv_pick_f rfl (by first | assumption | exact decide_eq_false (by omega) | exact dec_notF (by omega)) rfl) ?_) | (refine is_pk ?_; refine lw_pure rfl (pv_pick rfl rfl rfl) ?_) | (refine is_cv ?_; refine lw_pure rfl (pv_conv (tCv rfl rfl) rfl (by omega)) ?_) | (refine is_cw ?_; refine cw_split rfl (fun hc => ?_) (fun hc => ?_) <;> (first | replace hc := of_decide_eq_true hc | replace hc := of_decide_eq_false hc | replace hc := dec_nT hc | replace hc := dec_nF hc | skip) <;> (try (exfalso; omega))))
    all_goals first | (refine qw_round (k + 1) (by repeat' (first | exact trivial | refine ⟨rfl, ?_⟩)) ⟨by omega, hw, ?_⟩ (by omega); intro j hj; (by_cases hjk : j = k); (subst hjk; exact ok_t (by omega)); exact hn j (by omega)) | (refine qw_ret1 rfl rfl ⟨ret_bool (name_no hlt (ok_f ?_)).symm, (hE.mono hw).b⟩; omega)
  · have hkl : k = s.size := by omega
    subst hkl
    replace hw := (hE.mono hw).b
    repeat' (first | (refine lw_pure rfl (pv_move rfl) ?_) | (refine lw_pure rfl (pv_assign rfl) ?_) | (refine is_cw ?_; first | (refine cw_seq ?_) | (refine cw_region ?_) | (refine cw_true rfl rfl ?_) | (refine cw_false rfl rfl ?_) | (refine is_cd ?_; refine cw_true rfl (by first | assumption | exact decide_eq_true (by omega) | exact dec_notT (by omega)) ?_) | (refine is_cd ?_; refine cw_false rfl (by first | assumption | exact decide_eq_false (by omega) | exact dec_notF (by omega)) ?_) | (refine cw_skip ?_) | (refine cw_block ?_) | (refine cw_exit ?_) | (refine cw_ret ?_)) | (refine is_qw ?_; first | (with_reducible refine qw_then ?_) | (with_reducible refine qw_in ?_) | (with_reducible refine qw_in_hit ?_) | (refine qw_in_miss rfl ?_) | (with_reducible refine qw_then_exit ?_) | (with_reducible refine qw_then_ret ?_) | (with_reducible refine qw_in_ret ?_)) | (refine lw_nil ?_) | (refine is_guarded ?_; first | (refine lw_not rfl rfl rfl rfl ?_) | (refine lw_not_u rfl rfl rfl ?_) | (refine lw_on rfl rfl rfl ?_) | (refine lw_on rfl rfl (by first | assumption | exact decide_eq_true (by omega) | exact decide_eq_false (by omega) | exact dec_notT (by omega) | exact dec_notF (by omega)) ?_) | (refine lw_not rfl rfl rfl (by first | assumption | exact decide_eq_true (by omega) | exact decide_eq_false (by omega) | exact dec_notT (by omega) | exact dec_notF (by omega)) ?_) | (refine lw_gs_t rfl rfl rfl (fun hc => ?_) (fun hc => ?_) <;> (first | replace hc := of_decide_eq_true hc | replace hc := of_decide_eq_false hc | replace hc := dec_nT hc | replace hc := dec_nF hc | skip) <;> (try (exfalso; omega))) | (refine lw_gs_f rfl rfl rfl (fun hc => ?_) (fun hc => ?_) <;> (first | replace hc := of_decide_eq_true hc | replace hc := of_decide_eq_false hc | replace hc := dec_nT hc | replace hc := dec_nF hc | skip) <;> (try (exfalso; omega)))) | ((refine is_bin ?_; first | (refine lw_pure rfl (pv_lss rfl rfl) ?_) | (refine lw_pure rfl (pv_neq rfl rfl) ?_) | (refine lw_pure rfl (pv_leq rfl rfl) ?_) | (refine lw_pure rfl (pv_gtr rfl rfl) ?_) | (refine lw_pure rfl (pv_geq rfl rfl) ?_) | (refine lw_pure rfl (pv_inc rfl rfl (by omega)) ?_) | (refine lw_pure rfl (pv_add rfl rfl (by omega)) ?_))) | ((refine is_load ?_; first | (refine lw_pure rfl (pv_load (t1 rfl) rfl (by first | fail)) ?_) | (refine lw_pure rfl (pv_loada (tA rfl) rfl (by first | fail) (by rfl)) ?_))) | ((refine is_ia ?_; first | (refine lw_pure rfl (pv_ian (tS rfl) rfl rfl (by omega)) ?_) | (refine lw_pure rfl (pv_ia (tS rfl) rfl rfl (by omega)) ?_))) | ((refine is_bi ?_; first | (refine lw_pure rfl (pv_lenl (tS rfl) rfl) ?_) | (refine lw_pure rfl (pv_lens (tStr rfl) rfl) ?_))) | (refine is_pk ?_; refine lw_pure rfl (pv_pick_t rfl rfl rfl) ?_) | (refine is_pk ?_; refine lw_pure rfl (pv_pick_f rfl rfl rfl) ?_) | (refine is_pk ?_; refine lw_pure rfl (pv_pick_t rfl (by first | assumption | exact decide_eq_true (by omega) | exact dec_notT (by omega)) rfl) ?_) | (refine is_pk ?_; refine lw_pure rfl (pv_pick_f rfl (by first | assumption | exact decide_eq_false (by omega) | exact dec_notF (by omega)) rfl) ?_) | (refine is_pk ?_; refine lw_pure rfl (pv_pick rfl rfl rfl) ?_) | (refine is_cv ?_; refine lw_pure rfl (pv_conv (tCv rfl rfl) rfl (by omega)) ?_) | (refine is_cw ?_; refine cw_split rfl (fun hc => ?_) (fun hc => ?_) <;> (first | replace hc := of_decide_eq_true hc | replace hc := of_decide_eq_false hc | replace hc := dec_nT hc | replace hc := dec_nF hc | skip) <;> (try (exfalso; omega))))
    all_goals (refine qw_ret1 rfl rfl ⟨ret_bool ?_, hw⟩; rw [name_all hn]; first | (rw [decide_eq_decide]; omega) | (symm; rw [decide_eq_false_iff_not]; omega))
theorem may_none {e : Evt} (h : fieldsR e.v e.kind = none) : mayE e = false := by unfold mayE; rw [h]
theorem may_some {e : Evt} {p : ByteArray × Bool} (h : fieldsR e.v e.kind = some p) : mayE e = (allR e.v (bytesI p.1) e.nums && textsR p.2 e.texts) := by unfold mayE; rw [h]
theorem may_all {e : Evt} {p : ByteArray × Bool} (h : fieldsR e.v e.kind = some p) (ha : allR e.v (bytesI p.1) e.nums = false) : mayE e = false := by rw [may_some h, ha]; rfl
theorem may_txt {e : Evt} {p : ByteArray × Bool} (h : fieldsR e.v e.kind = some p) (ha : allR e.v (bytesI p.1) e.nums = true) : mayE e = textsR p.2 e.texts := by rw [may_some h, ha]; rfl
theorem txt_one {x : ByteArray} {l : List ByteArray} (h : l[0]? = some x) (hl : l.length = 1) : textsR true l = nameR x := by
  match l, hl with
  | [y], _ => simp at h; subst h; rfl
theorem txt_not {l : List ByteArray} (hl : l.length ≠ 1) : textsR true l = false := by
  match l with
  | [] => rfl
  | [y] => exact absurd rfl hl
  | _ :: _ :: _ => rfl
theorem fields_text {v k : Int} {p : ByteArray × Bool} (h : fieldsR v k = some p) : p.1.size ≤ 100 := by
  have := field_small k v
  unfold fieldsR at h
  (repeat' split at h) <;> first | (cases h; done) | (injection h with h; subst h; exact this)
def TxtIn (l : List ByteArray) : Prop := ∀ x ∈ l, x.size ≤ 140737488355328
set_option maxRecDepth 20000 in
set_option maxHeartbeats 2000000 in
theorem mayE_c {e : Evt} {m n : Nat} {a b : Option Addr} {ca cb : Nat} {w : World} (h8 : 0 ≤ e.kind ∧ e.kind ≤ 255) (hm : e.nums.length = m) (hn : e.texts.length = n) (HN : SlR encI 1 w a ca e.nums) (HT : SlR encT 1 w b cb e.texts) (hT : TxtIn e.texts) (hK : KnW w) : Calls Tryd.prog 22 #[.agg #[.int .u8 e.v, .int .u8 e.kind, .slice a m ca, .slice b n cb]] w fun e1 w' => e1 = .returned (.bool (mayE e)) ∧ Below w.heap.size w w' := by
  subst hm hn
  have hw := Below.refl w.heap.size w
  have hcb := HT.le
  have hcm := HT.max
  refine fn_enter 42 Tryd.func22 rfl rfl rfl ?_
  repeat' (first | (refine lw_pure rfl (pv_move rfl) ?_) | (refine lw_pure rfl (pv_assign rfl) ?_) | (refine is_cw ?_; first | (refine cw_seq ?_) | (refine cw_region ?_) | (refine cw_true rfl rfl ?_) | (refine cw_false rfl rfl ?_) | (refine is_cd ?_; refine cw_true rfl (by first | assumption | exact decide_eq_true (by omega) | exact dec_notT (by omega)) ?_) | (refine is_cd ?_; refine cw_false rfl (by first | assumption | exact decide_eq_false (by omega) | exact dec_notF (by omega)) ?_) | (refine cw_skip ?_) | (refine cw_ret ?_)) | (refine is_qw ?_; first | (with_reducible refine qw_then ?_) | (with_reducible refine qw_then_ret ?_)) | (refine lw_nil ?_) | (refine is_guarded ?_; first | (refine lw_not rfl rfl rfl rfl ?_) | (refine lw_not_u rfl rfl rfl ?_) | (refine lw_on rfl rfl rfl ?_)) | ((refine is_bin ?_; first | (refine lw_pure rfl (pv_eql rfl rfl) ?_))) | ((refine is_load ?_; first | (refine lw_pure rfl (pv_load (t1 rfl) rfl (by first | fail)) ?_) | (refine lw_pure rfl (pv_loada (tA rfl) rfl (by first | fail) (by rfl)) ?_))) | ((refine is_fa ?_; first | (refine lw_pure rfl (pv_fa (tF rfl) rfl) ?_))) | ((refine is_ia ?_; first | (refine lw_pure rfl (pv_ian (tS rfl) rfl rfl (by omega)) ?_) | (refine lw_pure rfl (pv_ia (tS rfl) rfl rfl (by omega)) ?_))) | ((refine is_un ?_; first | (refine lw_pure rfl (pv_not rfl) ?_))) | ((refine is_bi ?_; first | (refine lw_pure rfl (pv_lenl (tS rfl) rfl) ?_) | (refine lw_pure rfl (pv_lens (tStr rfl) rfl) ?_))) | (refine is_pk ?_; refine lw_pure rfl (pv_pick_t rfl rfl rfl) ?_) | (refine is_pk ?_; refine lw_pure rfl (pv_pick_f rfl rfl rfl) ?_) | (refine is_pk ?_; refine lw_pure rfl (pv_pick_t rfl (by first | assumption | exact decide_eq_true (by omega) | exact dec_notT (by omega)) rfl) ?_) | (refine is_pk ?_; refine lw_pure rfl (pv_pick_f rfl (by first | assumption | exact decide_eq_false (by omega) | exact dec_notF (by omega)) rfl) ?_) | (refine is_pk ?_; refine lw_pure rfl (pv_pick rfl rfl rfl) ?_) | (refine lw_pure rfl (pv_extract rfl rfl) ?_))
  refine lw_boxN rfl rfl (cs := [.int .u8 e.v, .int .u8 e.kind, .slice a e.nums.length ca, .slice b e.texts.length cb]) rfl ?_; intro N w1 hN H hb
  replace hw := grow_trans hw hb
  clear hb
  have hE := Ext.mk hw
  replace HN := HN.mono hw
  replace HT := HT.mono hw
  replace hK := hK.mono hw
  clear hw
  have hw := Below.refl w1.heap.size w1
  repeat' (first | (refine lw_pure rfl (pv_move rfl) ?_) | (refine lw_pure rfl (pv_assign rfl) ?_) | (refine is_cw ?_; first | (refine cw_seq ?_) | (refine cw_region ?_) | (refine cw_true rfl rfl ?_) | (refine cw_false rfl rfl ?_) | (refine is_cd ?_; refine cw_true rfl (by first | assumption | exact decide_eq_true (by omega) | exact dec_notT (by omega)) ?_) | (refine is_cd ?_; refine cw_false rfl (by first | assumption | exact decide_eq_false (by omega) | exact dec_notF (by omega)) ?_) | (refine cw_skip ?_) | (refine cw_ret ?_)) | (refine is_qw ?_; first | (with_reducible refine qw_then ?_) | (with_reducible refine qw_then_ret ?_)) | (refine lw_nil ?_) | (refine is_guarded ?_; first | (refine lw_not rfl rfl rfl rfl ?_) | (refine lw_not_u rfl rfl rfl ?_) | (refine lw_on rfl rfl rfl ?_)) | ((refine is_bin ?_; first | (refine lw_pure rfl (pv_eql rfl rfl) ?_))) | ((refine is_load ?_; first | (refine lw_pure rfl (pv_load (t1 rfl) rfl (by first | exact PT.ld0 (H.mono hw) rfl | exact PT.ld (H.mono hw) rfl)) ?_) | (refine lw_pure rfl (pv_loada (tA rfl) rfl (by first | exact PT.lda (H.mono hw)) (by rfl)) ?_))) | ((refine is_fa ?_; first | (refine lw_pure rfl (pv_fa (tF rfl) rfl) ?_))) | ((refine is_ia ?_; first | (refine lw_pure rfl (pv_ian (tS rfl) rfl rfl (by omega)) ?_) | (refine lw_pure rfl (pv_ia (tS rfl) rfl rfl (by omega)) ?_))) | ((refine is_un ?_; first | (refine lw_pure rfl (pv_not rfl) ?_))) | ((refine is_bi ?_; first | (refine lw_pure rfl (pv_lenl (tS rfl) rfl) ?_) | (refine lw_pure rfl (pv_lens (tStr rfl) rfl) ?_))) | (refine is_pk ?_; refine lw_pure rfl (pv_pick_t rfl rfl rfl) ?_) | (refine is_pk ?_; refine lw_pure rfl (pv_pick_f rfl rfl rfl) ?_) | (refine is_pk ?_; refine lw_pure rfl (pv_pick_t rfl (by first | assumption | exact decide_eq_true (by omega) | exact dec_notT (by omega)) rfl) ?_) | (refine is_pk ?_; refine lw_pure rfl (pv_pick_f rfl (by first | assumption | exact decide_eq_false (by omega) | exact dec_notF (by omega)) rfl) ?_) | (refine is_pk ?_; refine lw_pure rfl (pv_pick rfl rfl rfl) ?_) | (refine lw_pure rfl (pv_extract rfl rfl) ?_))
  refine lw_call (f := 43) (by kernel_rfl) rfl rfl (fields_c e.v e.kind h8 (hK.mono hw)) ?_; rintro e1 w2 ⟨⟨sv, rfl, hO⟩, hb⟩; refine ⟨_, rfl, ?_⟩
  replace hw := grow_trans hw hb
  cases hf : fieldsR e.v e.kind with
  | none =>
    rw [hf] at hO
    repeat' (first | (refine lw_pure rfl (pv_move rfl) ?_) | (refine lw_pure rfl (pv_assign rfl) ?_) | (refine is_cw ?_; first | (refine cw_seq ?_) | (refine cw_region ?_) | (refine cw_true rfl rfl ?_) | (refine cw_false rfl rfl ?_) | (refine is_cd ?_; refine cw_true rfl (by first | assumption | exact decide_eq_true (by omega) | exact dec_notT (by omega)) ?_) | (refine is_cd ?_; refine cw_false rfl (by first | assumption | exact decide_eq_false (by omega) | exact dec_notF (by omega)) ?_) | (refine cw_skip ?_) | (refine cw_ret ?_)) | (refine is_qw ?_; first | (with_reducible refine qw_then ?_) | (with_reducible refine qw_then_ret ?_)) | (refine lw_nil ?_) | (refine is_guarded ?_; first | (refine lw_not rfl rfl rfl rfl ?_) | (refine lw_not_u rfl rfl rfl ?_) | (refine lw_on rfl rfl rfl ?_)) | ((refine is_bin ?_; first | (refine lw_pure rfl (pv_eql rfl rfl) ?_))) | ((refine is_load ?_; first | (refine lw_pure rfl (pv_load (t1 rfl) rfl (by first | exact PT.ld0 (H.mono hw) rfl | exact PT.ld (H.mono hw) rfl)) ?_) | (refine lw_pure rfl (pv_loada (tA rfl) rfl (by first | exact PT.lda (H.mono hw)) (by rfl)) ?_))) | ((refine is_fa ?_; first | (refine lw_pure rfl (pv_fa (tF rfl) rfl) ?_))) | ((refine is_ia ?_; first | (refine lw_pure rfl (pv_ian (tS rfl) rfl rfl (by omega)) ?_) | (refine lw_pure rfl (pv_ia (tS rfl) rfl rfl (by omega)) ?_))) | ((refine is_un ?_; first | (refine lw_pure rfl (pv_not rfl) ?_))) | ((refine is_bi ?_; first | (refine lw_pure rfl (pv_lenl (tS rfl) rfl) ?_) | (refine lw_pure rfl (pv_lens (tStr rfl) rfl) ?_))) | (refine is_pk ?_; refine lw_pure rfl (pv_pick_t rfl rfl rfl) ?_) | (refine is_pk ?_; refine lw_pure rfl (pv_pick_f rfl rfl rfl) ?_) | (refine is_pk ?_; refine lw_pure rfl (pv_pick_t rfl (by first | assumption | exact decide_eq_true (by omega) | exact dec_notT (by omega)) rfl) ?_) | (refine is_pk ?_; refine lw_pure rfl (pv_pick_f rfl (by first | assumption | exact decide_eq_false (by omega) | exact dec_notF (by omega)) rfl) ?_) | (refine is_pk ?_; refine lw_pure rfl (pv_pick rfl rfl rfl) ?_) | (refine lw_pure rfl (pv_extract rfl rfl) ?_))
    exact qw_ret1 rfl rfl ⟨ret_bool (may_none hf).symm, (hE.mono hw).b⟩
  | some p =>
    obtain ⟨s, t⟩ := p
    rw [hf] at hO
    replace hO : Own encB 1 116 w1.heap.size w2 sv (bytesI s) := hO
    obtain ⟨fa, fc, rfl, hF, -⟩ := Own.slR encB_len hO
    show LW _ _ _ _ _ ((11, .tuple #[.slice fa (bytesI s).length fc, .bool t, .bool true]) :: _) _
    cases ha : allR e.v (bytesI s) e.nums with
    | false =>
      repeat' (first | (refine lw_pure rfl (pv_move rfl) ?_) | (refine lw_pure rfl (pv_assign rfl) ?_) | (refine lw_call (f := 44) (by kernel_rfl) rfl rfl (ha ▸ all_c e.v rfl rfl (hF.mono (Below.refl _ _)) (HN.mono hw)) ?_; rintro e w1 ⟨rfl, hb⟩; refine ⟨_, rfl, ?_⟩; replace hw := grow_trans hw hb; clear hb) | (refine is_cw ?_; first | (refine cw_seq ?_) | (refine cw_region ?_) | (refine cw_true rfl rfl ?_) | (refine cw_false rfl rfl ?_) | (refine is_cd ?_; refine cw_true rfl (by first | assumption | exact decide_eq_true (by omega) | exact dec_notT (by omega)) ?_) | (refine is_cd ?_; refine cw_false rfl (by first | assumption | exact decide_eq_false (by omega) | exact dec_notF (by omega)) ?_) | (refine cw_skip ?_) | (refine cw_ret ?_)) | (refine is_qw ?_; first | (with_reducible refine qw_then ?_) | (with_reducible refine qw_then_ret ?_)) | (refine lw_nil ?_) | (refine is_guarded ?_; first | (refine lw_not rfl rfl rfl rfl ?_) | (refine lw_not_u rfl rfl rfl ?_) | (refine lw_on rfl rfl rfl ?_)) | ((refine is_bin ?_; first | (refine lw_pure rfl (pv_eql rfl rfl) ?_))) | ((refine is_load ?_; first | (refine lw_pure rfl (pv_load (t1 rfl) rfl (by first | exact PT.ld0 (H.mono hw) rfl | exact PT.ld (H.mono hw) rfl)) ?_) | (refine lw_pure rfl (pv_loada (tA rfl) rfl (by first | exact PT.lda (H.mono hw)) (by rfl)) ?_))) | ((refine is_fa ?_; first | (refine lw_pure rfl (pv_fa (tF rfl) rfl) ?_))) | ((refine is_ia ?_; first | (refine lw_pure rfl (pv_ian (tS rfl) rfl rfl (by omega)) ?_) | (refine lw_pure rfl (pv_ia (tS rfl) rfl rfl (by omega)) ?_))) | ((refine is_un ?_; first | (refine lw_pure rfl (pv_not rfl) ?_))) | ((refine is_bi ?_; first | (refine lw_pure rfl (pv_lenl (tS rfl) rfl) ?_) | (refine lw_pure rfl (pv_lens (tStr rfl) rfl) ?_))) | (refine is_pk ?_; refine lw_pure rfl (pv_pick_t rfl rfl rfl) ?_) | (refine is_pk ?_; refine lw_pure rfl (pv_pick_f rfl rfl rfl) ?_) | (refine is_pk ?_; refine lw_pure rfl (pv_pick_t rfl (by first | assumption | exact decide_eq_true (by omega) | exact dec_notT (by omega)) rfl) ?_) | (refine is_pk ?_; refine lw_pure rfl (pv_pick_f rfl (by first | assumption | exact decide_eq_false (by omega) | exact dec_notF (by omega)) rfl) ?_) | (refine is_pk ?_; refine lw_pure rfl (pv_pick rfl rfl rfl) ?_) | (refine lw_pure rfl (pv_extract rfl rfl) ?_))
      exact qw_ret1 rfl rfl ⟨ret_bool (may_all hf ha).symm, (hE.mono hw).b⟩
    | true =>
      repeat' (first | (refine lw_pure rfl (pv_move rfl) ?_) | (refine lw_pure rfl (pv_assign rfl) ?_) | (refine lw_call (f := 44) (by kernel_rfl) rfl rfl (ha ▸ all_c e.v rfl rfl (hF.mono (Below.refl _ _)) (HN.mono hw)) ?_; rintro e w1 ⟨rfl, hb⟩; refine ⟨_, rfl, ?_⟩; replace hw := grow_trans hw hb; clear hb) | (refine is_cw ?_; first | (refine cw_seq ?_) | (refine cw_region ?_) | (refine cw_true rfl rfl ?_) | (refine cw_false rfl rfl ?_) | (refine is_cd ?_; refine cw_true rfl (by first | assumption | exact decide_eq_true (by omega) | exact dec_notT (by omega)) ?_) | (refine is_cd ?_; refine cw_false rfl (by first | assumption | exact decide_eq_false (by omega) | exact dec_notF (by omega)) ?_) | (refine cw_skip ?_) | (refine cw_ret ?_)) | (refine is_qw ?_; first | (with_reducible refine qw_then ?_) | (with_reducible refine qw_then_ret ?_)) | (refine lw_nil ?_) | (refine is_guarded ?_; first | (refine lw_not rfl rfl rfl rfl ?_) | (refine lw_not_u rfl rfl rfl ?_) | (refine lw_on rfl rfl rfl ?_)) | ((refine is_bin ?_; first | (refine lw_pure rfl (pv_eql rfl rfl) ?_))) | ((refine is_load ?_; first | (refine lw_pure rfl (pv_load (t1 rfl) rfl (by first | exact PT.ld0 (H.mono hw) rfl | exact PT.ld (H.mono hw) rfl)) ?_) | (refine lw_pure rfl (pv_loada (tA rfl) rfl (by first | exact PT.lda (H.mono hw)) (by rfl)) ?_))) | ((refine is_fa ?_; first | (refine lw_pure rfl (pv_fa (tF rfl) rfl) ?_))) | ((refine is_ia ?_; first | (refine lw_pure rfl (pv_ian (tS rfl) rfl rfl (by omega)) ?_) | (refine lw_pure rfl (pv_ia (tS rfl) rfl rfl (by omega)) ?_))) | ((refine is_un ?_; first | (refine lw_pure rfl (pv_not rfl) ?_))) | ((refine is_bi ?_; first | (refine lw_pure rfl (pv_lenl (tS rfl) rfl) ?_) | (refine lw_pure rfl (pv_lens (tStr rfl) rfl) ?_))) | (refine is_pk ?_; refine lw_pure rfl (pv_pick_t rfl rfl rfl) ?_) | (refine is_pk ?_; refine lw_pure rfl (pv_pick_f rfl rfl rfl) ?_) | (refine is_pk ?_; refine lw_pure rfl (pv_pick_t rfl (by first | assumption | exact decide_eq_true (by omega) | exact dec_notT (by omega)) rfl) ?_) | (refine is_pk ?_; refine lw_pure rfl (pv_pick_f rfl (by first | assumption | exact decide_eq_false (by omega) | exact dec_notF (by omega)) rfl) ?_) | (refine is_pk ?_; refine lw_pure rfl (pv_pick rfl rfl rfl) ?_) | (refine lw_pure rfl (pv_extract rfl rfl) ?_))
      have hmt := may_txt hf ha
      cases t with
      | false =>
        repeat' (first | (refine lw_pure rfl (pv_move rfl) ?_) | (refine lw_pure rfl (pv_assign rfl) ?_) | (refine is_cw ?_; first | (refine cw_seq ?_) | (refine cw_region ?_) | (refine cw_true rfl rfl ?_) | (refine cw_false rfl rfl ?_) | (refine is_cd ?_; refine cw_true rfl (by first | assumption | exact decide_eq_true (by omega) | exact dec_notT (by omega)) ?_) | (refine is_cd ?_; refine cw_false rfl (by first | assumption | exact decide_eq_false (by omega) | exact dec_notF (by omega)) ?_) | (refine cw_skip ?_) | (refine cw_ret ?_)) | (refine is_qw ?_; first | (with_reducible refine qw_then ?_) | (with_reducible refine qw_then_ret ?_)) | (refine lw_nil ?_) | (refine is_guarded ?_; first | (refine lw_not rfl rfl rfl rfl ?_) | (refine lw_not_u rfl rfl rfl ?_) | (refine lw_on rfl rfl rfl ?_)) | ((refine is_bin ?_; first | (refine lw_pure rfl (pv_eql rfl rfl) ?_))) | ((refine is_load ?_; first | (refine lw_pure rfl (pv_load (t1 rfl) rfl (by first | exact PT.ld0 (H.mono hw) rfl | exact PT.ld (H.mono hw) rfl)) ?_) | (refine lw_pure rfl (pv_loada (tA rfl) rfl (by first | exact PT.lda (H.mono hw)) (by rfl)) ?_))) | ((refine is_fa ?_; first | (refine lw_pure rfl (pv_fa (tF rfl) rfl) ?_))) | ((refine is_ia ?_; first | (refine lw_pure rfl (pv_ian (tS rfl) rfl rfl (by omega)) ?_) | (refine lw_pure rfl (pv_ia (tS rfl) rfl rfl (by omega)) ?_))) | ((refine is_un ?_; first | (refine lw_pure rfl (pv_not rfl) ?_))) | ((refine is_bi ?_; first | (refine lw_pure rfl (pv_lenl (tS rfl) rfl) ?_) | (refine lw_pure rfl (pv_lens (tStr rfl) rfl) ?_))) | (refine is_pk ?_; refine lw_pure rfl (pv_pick_t rfl rfl rfl) ?_) | (refine is_pk ?_; refine lw_pure rfl (pv_pick_f rfl rfl rfl) ?_) | (refine is_pk ?_; refine lw_pure rfl (pv_pick_t rfl (by first | assumption | exact decide_eq_true (by omega) | exact dec_notT (by omega)) rfl) ?_) | (refine is_pk ?_; refine lw_pure rfl (pv_pick_f rfl (by first | assumption | exact decide_eq_false (by omega) | exact dec_notF (by omega)) rfl) ?_) | (refine is_pk ?_; refine lw_pure rfl (pv_pick rfl rfl rfl) ?_) | (refine lw_pure rfl (pv_extract rfl rfl) ?_))
        exact qw_ret1 rfl rfl ⟨ret_bool (by rw [hmt]; simp [textsR]), (hE.mono hw).b⟩
      | true =>
        by_cases hl : e.texts.length = 1
        · have hx : e.texts[0]? = some (e.texts[0]'(by omega)) := List.getElem?_eq_getElem _
          have hxs := hT _ (List.getElem_mem (h := (by omega : 0 < e.texts.length)))
          obtain ⟨bb, bo, rfl, -, -⟩ := HT.at (by intro h; rw [h] at hl; simp at hl)
          generalize e.texts[0] = x at hx hxs
          rw [txt_one hx hl] at hmt
          repeat' (first | (refine lw_pure rfl (pv_move rfl) ?_) | (refine lw_pure rfl (pv_assign rfl) ?_) | (refine lw_call (f := 45) (by kernel_rfl) rfl rfl (name_c x (by omega) _) ?_; rintro e w1 ⟨rfl, hb⟩; refine ⟨_, rfl, ?_⟩; replace hw := grow_trans hw hb; clear hb) | (refine is_cw ?_; first | (refine cw_seq ?_) | (refine cw_region ?_) | (refine cw_true rfl rfl ?_) | (refine cw_false rfl rfl ?_) | (refine is_cd ?_; refine cw_true rfl (by first | assumption | exact decide_eq_true (by omega) | exact dec_notT (by omega)) ?_) | (refine is_cd ?_; refine cw_false rfl (by first | assumption | exact decide_eq_false (by omega) | exact dec_notF (by omega)) ?_) | (refine cw_skip ?_) | (refine cw_ret ?_)) | (refine is_qw ?_; first | (with_reducible refine qw_then ?_) | (with_reducible refine qw_then_ret ?_)) | (refine lw_nil ?_) | (refine is_guarded ?_; first | (refine lw_not rfl rfl rfl rfl ?_) | (refine lw_not_u rfl rfl rfl ?_) | (refine lw_on rfl rfl rfl ?_) | (refine lw_on rfl rfl (by first | assumption | exact decide_eq_true (by omega) | exact decide_eq_false (by omega) | exact dec_notT (by omega) | exact dec_notF (by omega)) ?_) | (refine lw_not rfl rfl rfl (by first | assumption | exact decide_eq_true (by omega) | exact decide_eq_false (by omega) | exact dec_notT (by omega) | exact dec_notF (by omega)) ?_) | (refine lw_gs_t rfl rfl rfl (fun hc => ?_) (fun hc => ?_) <;> (first | replace hc := of_decide_eq_true hc | replace hc := of_decide_eq_false hc | replace hc := dec_nT hc | replace hc := dec_nF hc | skip) <;> (try (exfalso; omega))) | (refine lw_gs_f rfl rfl rfl (fun hc => ?_) (fun hc => ?_) <;> (first | replace hc := of_decide_eq_true hc | replace hc := of_decide_eq_false hc | replace hc := dec_nT hc | replace hc := dec_nF hc | skip) <;> (try (exfalso; omega)))) | ((refine is_bin ?_; first | (refine lw_pure rfl (pv_eql rfl rfl) ?_))) | ((refine is_load ?_; first | (refine lw_pure rfl (pv_load (t1 rfl) rfl (by first | exact PT.ld0 (H.mono hw) rfl | exact PT.ld (H.mono hw) rfl | exact SlR.ld (HT.mono hw) hx rfl | exact SlR.ld1 (HT.mono hw) hx rfl)) ?_) | (refine lw_pure rfl (pv_loada (tA rfl) rfl (by first | exact PT.lda (H.mono hw) | exact SlR.lda (HT.mono hw) hx) (by rfl)) ?_))) | ((refine is_fa ?_; first | (refine lw_pure rfl (pv_fa (tF rfl) rfl) ?_))) | ((refine is_ia ?_; first | (refine lw_pure rfl (pv_ian (tS rfl) rfl rfl (by omega)) ?_) | (refine lw_pure rfl (pv_ia (tS rfl) rfl rfl (by omega)) ?_))) | ((refine is_un ?_; first | (refine lw_pure rfl (pv_not rfl) ?_))) | ((refine is_bi ?_; first | (refine lw_pure rfl (pv_lenl (tS rfl) rfl) ?_) | (refine lw_pure rfl (pv_lens (tStr rfl) rfl) ?_))) | (refine is_pk ?_; refine lw_pure rfl (pv_pick_t rfl rfl rfl) ?_) | (refine is_pk ?_; refine lw_pure rfl (pv_pick_f rfl rfl rfl) ?_) | (refine is_pk ?_; refine lw_pure rfl (pv_pick_t rfl (by first | assumption | exact decide_eq_true (by omega) | exact dec_notT (by omega)) rfl) ?_) | (refine is_pk ?_; refine lw_pure rfl (pv_pick_f rfl (by first | assumption | exact decide_eq_false (by omega) | exact dec_notF (by omega)) rfl) ?_) | (refine is_pk ?_; refine lw_pure rfl (pv_pick rfl rfl rfl) ?_) | (refine lw_pure rfl (pv_extract rfl rfl) ?_) | (refine is_cw ?_; refine cw_split rfl (fun hc => ?_) (fun hc => ?_) <;> (first | replace hc := of_decide_eq_true hc | replace hc := of_decide_eq_false hc | replace hc := dec_nT hc | replace hc := dec_nF hc | skip) <;> (try (exfalso; omega))))
          exact qw_ret1 rfl rfl ⟨ret_bool (by rw [hmt]), (hE.mono hw).b⟩
        · rw [txt_not hl] at hmt
          repeat' (first | (refine lw_pure rfl (pv_move rfl) ?_) | (refine lw_pure rfl (pv_assign rfl) ?_) | (refine is_cw ?_; first | (refine cw_seq ?_) | (refine cw_region ?_) | (refine cw_true rfl rfl ?_) | (refine cw_false rfl rfl ?_) | (refine is_cd ?_; refine cw_true rfl (by first | assumption | exact decide_eq_true (by omega) | exact dec_notT (by omega)) ?_) | (refine is_cd ?_; refine cw_false rfl (by first | assumption | exact decide_eq_false (by omega) | exact dec_notF (by omega)) ?_) | (refine cw_skip ?_) | (refine cw_ret ?_)) | (refine is_qw ?_; first | (with_reducible refine qw_then ?_) | (with_reducible refine qw_then_ret ?_)) | (refine lw_nil ?_) | (refine is_guarded ?_; first | (refine lw_not rfl rfl rfl rfl ?_) | (refine lw_not_u rfl rfl rfl ?_) | (refine lw_on rfl rfl rfl ?_) | (refine lw_on rfl rfl (by first | assumption | exact decide_eq_true (by omega) | exact decide_eq_false (by omega) | exact dec_notT (by omega) | exact dec_notF (by omega)) ?_) | (refine lw_not rfl rfl rfl (by first | assumption | exact decide_eq_true (by omega) | exact decide_eq_false (by omega) | exact dec_notT (by omega) | exact dec_notF (by omega)) ?_) | (refine lw_gs_t rfl rfl rfl (fun hc => ?_) (fun hc => ?_) <;> (first | replace hc := of_decide_eq_true hc | replace hc := of_decide_eq_false hc | replace hc := dec_nT hc | replace hc := dec_nF hc | skip) <;> (try (exfalso; omega))) | (refine lw_gs_f rfl rfl rfl (fun hc => ?_) (fun hc => ?_) <;> (first | replace hc := of_decide_eq_true hc | replace hc := of_decide_eq_false hc | replace hc := dec_nT hc | replace hc := dec_nF hc | skip) <;> (try (exfalso; omega)))) | ((refine is_bin ?_; first | (refine lw_pure rfl (pv_eql rfl rfl) ?_))) | ((refine is_load ?_; first | (refine lw_pure rfl (pv_load (t1 rfl) rfl (by first | exact PT.ld0 (H.mono hw) rfl | exact PT.ld (H.mono hw) rfl)) ?_) | (refine lw_pure rfl (pv_loada (tA rfl) rfl (by first | exact PT.lda (H.mono hw)) (by rfl)) ?_))) | ((refine is_fa ?_; first | (refine lw_pure rfl (pv_fa (tF rfl) rfl) ?_))) | ((refine is_ia ?_; first | (refine lw_pure rfl (pv_ian (tS rfl) rfl rfl (by omega)) ?_) | (refine lw_pure rfl (pv_ia (tS rfl) rfl rfl (by omega)) ?_))) | ((refine is_un ?_; first | (refine lw_pure rfl (pv_not rfl) ?_))) | ((refine is_bi ?_; first | (refine lw_pure rfl (pv_lenl (tS rfl) rfl) ?_) | (refine lw_pure rfl (pv_lens (tStr rfl) rfl) ?_))) | (refine is_pk ?_; refine lw_pure rfl (pv_pick_t rfl rfl rfl) ?_) | (refine is_pk ?_; refine lw_pure rfl (pv_pick_f rfl rfl rfl) ?_) | (refine is_pk ?_; refine lw_pure rfl (pv_pick_t rfl (by first | assumption | exact decide_eq_true (by omega) | exact dec_notT (by omega)) rfl) ?_) | (refine is_pk ?_; refine lw_pure rfl (pv_pick_f rfl (by first | assumption | exact decide_eq_false (by omega) | exact dec_notF (by omega)) rfl) ?_) | (refine is_pk ?_; refine lw_pure rfl (pv_pick rfl rfl rfl) ?_) | (refine lw_pure rfl (pv_extract rfl rfl) ?_) | (refine is_cw ?_; refine cw_split rfl (fun hc => ?_) (fun hc => ?_) <;> (first | replace hc := of_decide_eq_true hc | replace hc := of_decide_eq_false hc | replace hc := dec_nT hc | replace hc := dec_nF hc | skip) <;> (try (exfalso; omega))))
          exact qw_ret1 rfl rfl ⟨ret_bool (by rw [hmt]), (hE.mono hw).b⟩

structure Opn where
  acct : Int
  id : Int
  inst : Int
  side : Int
  price : Int
  left : Int
deriving DecidableEq, Inhabited
structure Lt where
  id : Int
  seller : Int
  inst : Int
  qty : Int
deriving DecidableEq, Inhabited
def encP (o : Opn) : List Value := [.int .i64 o.acct, .int .i64 o.id, .int .i64 o.inst, .int .u8 o.side, .int .i64 o.price, .int .i64 o.left]
theorem encP_len (o : Opn) : (encP o).length = 6 := rfl
theorem encP_one (o : Opn) : ∀ v ∈ encP o, v.oneCell' = true := by intro v hv; simp [encP] at hv; rcases hv with rfl | rfl | rfl | rfl | rfl | rfl <;> rfl
def encL (l : Lt) : List Value := [.int .i64 l.id, .int .i64 l.seller, .int .i64 l.inst, .int .i64 l.qty]
theorem encL_len (l : Lt) : (encL l).length = 4 := rfl
theorem encL_one (l : Lt) : ∀ v ∈ encL l, v.oneCell' = true := by intro v hv; simp [encL] at hv; rcases hv with rfl | rfl | rfl | rfl <;> rfl
def btw (n m : Int) : Bool := decide (1 ≤ n ∧ n ≤ m)
def MayO (o : Opn) : Prop := (1 ≤ o.acct ∧ o.acct ≤ 64) ∧ (1 ≤ o.id ∧ o.id ≤ 1099511627776) ∧ (1 ≤ o.inst ∧ o.inst ≤ 16) ∧ (o.side = 1 ∨ o.side = 2) ∧ (1 ≤ o.price ∧ o.price ≤ 1073741824) ∧ (1 ≤ o.left ∧ o.left ≤ 1048576)
instance (o : Opn) : Decidable (MayO o) := inferInstanceAs (Decidable (_ ∧ _))
def MayL (l : Lt) : Prop := (1 ≤ l.id ∧ l.id ≤ 1099511627776) ∧ (1 ≤ l.seller ∧ l.seller ≤ 64) ∧ (1 ≤ l.inst ∧ l.inst ≤ 16) ∧ (1 ≤ l.qty ∧ l.qty ≤ 1048576)
instance (l : Lt) : Decidable (MayL l) := inferInstanceAs (Decidable (_ ∧ _))
def keyO (a b : Opn) : Prop := a.acct < b.acct ∨ (a.acct = b.acct ∧ a.id < b.id)
instance (a b : Opn) : Decidable (keyO a b) := inferInstanceAs (Decidable (_ ∨ _))
def keyT (a b : Lt) : Prop := a.id < b.id
instance (a b : Lt) : Decidable (keyT a b) := inferInstanceAs (Decidable (_ < _))
def MayV (p : List Opn) (t : List Lt) : Prop := (p.length ≤ 128 ∧ t.length ≤ 32) ∧ p.Pairwise keyO ∧ t.Pairwise keyT ∧ (∀ o ∈ p, MayO o) ∧ (p.map (·.id)).Nodup ∧ ∀ l ∈ t, MayL l
instance (p : List Opn) (t : List Lt) : Decidable (MayV p t) := inferInstanceAs (Decidable (_ ∧ _))
@[irreducible] def mayV (p : List Opn) (t : List Lt) : Bool := decide (MayV p t)
theorem mayV_iff {p : List Opn} {t : List Lt} : mayV p t = true ↔ MayV p t := by unfold mayV; simp
theorem mayV_no {p : List Opn} {t : List Lt} : mayV p t = false ↔ ¬ MayV p t := by unfold mayV; simp
theorem keyO_irr (a : Opn) : ¬ keyO a a := by unfold keyO; omega
theorem keyO_trans {a b c : Opn} (h : keyO a b) (g : keyO b c) : keyO a c := by unfold keyO at *; omega
theorem keyO_asymm {a b : Opn} (h : keyO a b) : ¬ keyO b a := by unfold keyO at *; omega
theorem keyT_trans {a b c : Lt} (h : keyT a b) (g : keyT b c) : keyT a c := by unfold keyT at *; omega
/-! ### rows that rise -/
section
variable {α : Type} {R : α → α → Prop}
theorem pwg_get {l : List α} (h : l.Pairwise R) {i j : Nat} (hij : i < j) {x y : α} (hx : l[i]? = some x) (hy : l[j]? = some y) : R x y := by
  obtain ⟨hi, rfl⟩ := List.getElem?_eq_some_iff.1 hx
  obtain ⟨hj, rfl⟩ := List.getElem?_eq_some_iff.1 hy
  exact List.pairwise_iff_getElem.1 h i j hi hj hij
theorem pwg_snoc (htr : ∀ a b c, R a b → R b c → R a c) {l : List α} {k : Nat} {r : α} (h : (l.take k).Pairwise R) (hr : l[k]? = some r) (hk : k = 0 ∨ ∃ q, l[k - 1]? = some q ∧ R q r) : (l.take (k + 1)).Pairwise R := by
  rw [List.take_add_one, hr]
  refine List.pairwise_append.2 ⟨h, List.pairwise_singleton _ _, fun x hx y hy => ?_⟩
  simp at hy; subst hy
  rcases hk with rfl | ⟨q, hq, hR⟩
  · simp at hx
  · obtain ⟨j, hj⟩ := List.mem_iff_getElem?.1 hx
    rw [List.getElem?_take] at hj
    split at hj
    · rename_i hjk
      by_cases hjk1 : j = k - 1
      · subst hjk1; rw [hq] at hj; injection hj with hj; subst hj; exact hR
      · have hk1 : k - 1 < k := by omega
        have h1 : (l.take k)[j]? = some x := by rw [List.getElem?_take, if_pos hjk]; exact hj
        have h2 : (l.take k)[k - 1]? = some q := by rw [List.getElem?_take, if_pos hk1]; exact hq
        exact htr _ _ _ (pwg_get h (by omega) h1 h2) hR
    · cases hj
theorem all_of_get {p : α → Prop} {l : List α} (h : ∀ j, j < l.length → ∀ x, l[j]? = some x → p x) : ∀ x ∈ l, p x := fun x hx => by
  obtain ⟨j, hj⟩ := List.mem_iff_getElem?.1 hx
  exact h j (List.getElem?_eq_some_iff.1 hj).1 x hj
end
/-! ### what becomes of them -/
def findP (p : List Opn) (id : Int) : Option Opn := p.find? fun o => o.id == id
def findT (t : List Lt) (id : Int) : Option Lt := t.find? fun l => l.id == id
def ofP (p : List Opn) (a : Int) : List Opn := p.filter fun o => o.acct == a
def insP : List Opn → Opn → List Opn
  | [], o => [o]
  | x :: r, o => if keyO o x then o :: x :: r else x :: insP r o
def insT : List Lt → Lt → List Lt
  | [], o => [o]
  | x :: r, o => if keyT o x then o :: x :: r else x :: insT r o
def cutP (id q : Int) (o : Opn) : Opn := if o.id = id then { o with left := o.left - q } else o
def lessP (p : List Opn) (id q : Int) : List Opn := (p.map (cutP id q)).filter fun o => decide (0 < o.left)
def gone (t : List Lt) (id : Int) : List Lt := t.filter fun l => !(l.id == id)
def nth (e : Evt) (i : Nat) : Int := e.nums.getD i 0
def placedR (p : List Opn) (t : List Lt) (e : Evt) : List Opn × List Lt × Int :=
  if (findP p (nth e 0)).isSome then ([], [], 6) else if p.length = 128 then ([], [], 40)
  else (insP p ⟨nth e 1, nth e 0, nth e 2, nth e 3, nth e 4, nth e 5⟩, t, 0)
def cancelR (p : List Opn) (t : List Lt) (e : Evt) : List Opn × List Lt × Int := match findP p (nth e 0) with
  | none => ([], [], 5)
  | some o => (lessP p (nth e 0) o.left, t, 0)
def tradedR (p : List Opn) (t : List Lt) (e : Evt) : List Opn × List Lt × Int := match findP p (nth e 0), findP p (nth e 1) with
  | some a, some b => if nth e 0 = nth e 1 ∨ a.left < nth e 3 ∨ b.left < nth e 3 then ([], [], 1) else (lessP (lessP p (nth e 0) (nth e 3)) (nth e 1) (nth e 3), t, 0)
  | _, _ => ([], [], 5)
def openedR (p : List Opn) (t : List Lt) (e : Evt) : List Opn × List Lt × Int :=
  if (findT t (nth e 0)).isSome then ([], [], 6) else if t.length = 32 then ([], [], 40)
  else (p, insT t ⟨nth e 0, nth e 1, nth e 2, nth e 3⟩, 0)
def goneR (p : List Opn) (t : List Lt) (e : Evt) : List Opn × List Lt × Int :=
  if (findT t (nth e 0)).isSome then (p, gone t (nth e 0), 0) else ([], [], 5)
def doneR (p : List Opn) (t : List Lt) (e : Evt) : List Opn × List Lt × Int :=
  if e.kind = 11 then placedR p t e else if e.kind = 12 then cancelR p t e else if e.kind = 13 then tradedR p t e
  else if e.kind = 14 ∨ e.kind = 16 then openedR p t e else if e.kind = 18 ∨ e.kind = 19 then goneR p t e else (p, t, 0)
@[irreducible] def eventR (p : List Opn) (t : List Lt) (e : Evt) : List Opn × List Lt × Int :=
  if mayV p t = true ∧ e.v = 3 ∧ mayE e = true then doneR p t e else ([], [], 4)
/-! ### numbers of an event that may be -/
theorem fits_lo {v c n lo hi : Int} (h : fitsR v c n = true) (hb : boundR v c = some (lo, hi)) : lo ≤ n ∧ n ≤ hi := by
  unfold fitsR bLo bHi bIs at h
  rw [hb] at h
  simpa using h
theorem bnd_a : boundR 3 97 = some (1, 64) := by kernel_rfl
theorem bnd_i : boundR 3 105 = some (1, 16) := by kernel_rfl
theorem bnd_o : boundR 3 111 = some (1, 1099511627776) := by kernel_rfl
theorem bnd_c : boundR 3 99 = some (1, 1099511627776) := by kernel_rfl
theorem bnd_q : boundR 3 113 = some (1, 1048576) := by kernel_rfl
theorem bnd_m : boundR 3 109 = some (1, 1125899906842624) := by kernel_rfl
theorem bnd_z : boundR 3 122 = some (0, 1125899906842624) := by kernel_rfl
theorem bnd_p : boundR 3 112 = some (1, 1073741824) := by kernel_rfl
theorem bnd_s : boundR 3 115 = some (1, 2) := by kernel_rfl
theorem bnd_t : boundR 3 116 = some (1, 1099511627776) := by kernel_rfl
theorem all_nil {v : Int} {ns : List Int} (h : allR v [] ns = true) : ns = [] := by
  unfold allR at h
  simp only [List.length_nil, Bool.and_eq_true, decide_eq_true_eq] at h
  exact List.eq_nil_of_length_eq_zero h.1.symm
theorem all_cons {v c : Int} {cs ns : List Int} (h : allR v (c :: cs) ns = true) : ∃ n r, ns = n :: r ∧ fitsR v c n = true ∧ allR v cs r = true := by
  unfold allR at h
  simp only [List.length_cons, Bool.and_eq_true, decide_eq_true_eq] at h
  match ns, h with
  | n :: r, ⟨h1, h2⟩ =>
    simp only [List.zip_cons_cons, List.all_cons, Bool.and_eq_true] at h2
    refine ⟨n, r, rfl, h2.1, ?_⟩
    unfold allR
    simp only [List.length_cons] at h1
    simp [h2.2, show cs.length = r.length by omega]
theorem may_nums {e : Evt} (h : mayE e = true) (hv : e.v = 3) {k : Int} (hk : e.kind = k) {s : ByteArray} {t : Bool} (hf : fieldsR 3 k = some (s, t)) : allR 3 (bytesI s) e.nums = true ∧ textsR t e.texts = true := by
  unfold mayE at h
  rw [hv, hk, hf] at h
  simpa using h

theorem elemN : ElemT Tryd.prog 91 3 1 8 := elem_of Tryd.underlying91 (by kernel_rfl) (by omega)
theorem elemI : ElemT Tryd.prog 32 2 1 8 := elem_of Tryd.underlying32 (by kernel_rfl) (by omega)
theorem elemP : ElemT Tryd.prog 23 54 6 48 := elem_of Tryd.underlying23 (by kernel_rfl) (by omega)
theorem elemL : ElemT Tryd.prog 24 56 4 32 := elem_of Tryd.underlying24 (by kernel_rfl) (by omega)
def cmpI (a b : Int) : Int := if a < b then -1 else if b < a then 1 else 0
def orI (a b : Int) : Int := if a = 0 then b else a
set_option maxRecDepth 20000 in
theorem isNaN_c (a : Int) (w : World) : Calls Tryd.prog 69 #[.int .i64 a] w fun e w' => e = .returned (.bool false) ∧ w = w' := by
  refine fn_enter 6 Tryd.func69 rfl rfl rfl ?_
  repeat' (first | (refine lw_pure rfl (pv_move rfl) ?_) | (refine lw_pure rfl (pv_assign rfl) ?_) | (refine lw_pure rfl (pv_neqs rfl rfl) ?_) | (refine is_cw ?_; first | (refine cw_seq ?_) | (refine cw_region ?_) | (refine cw_ret ?_)) | (refine is_qw ?_; first | (with_reducible refine qw_then ?_)) | (refine lw_nil ?_))
  exact qw_ret1 rfl rfl ⟨rfl, rfl⟩
set_option maxRecDepth 20000 in
theorem isNaN6_c (a : Int) (w : World) : Calls Tryd.prog 70 #[.int .i64 a] w fun e w' => e = .returned (.bool false) ∧ w = w' := by
  refine fn_enter 6 Tryd.func70 rfl rfl rfl ?_
  repeat' (first | (refine lw_pure rfl (pv_move rfl) ?_) | (refine lw_pure rfl (pv_assign rfl) ?_) | (refine lw_pure rfl (pv_neqs rfl rfl) ?_) | (refine is_cw ?_; first | (refine cw_seq ?_) | (refine cw_region ?_) | (refine cw_ret ?_)) | (refine is_qw ?_; first | (with_reducible refine qw_then ?_)) | (refine lw_nil ?_))
  exact qw_ret1 rfl rfl ⟨rfl, rfl⟩
set_option maxRecDepth 20000 in
theorem cmp_c (a b : Int) (w : World) : Calls Tryd.prog 55 #[.int .i64 a, .int .i64 b] w fun e w' => e = .returned (.int .i64 (cmpI a b)) ∧ w = w' := by
  refine fn_enter 20 Tryd.func55 rfl rfl rfl ?_
  repeat' (first | (refine lw_pure rfl (pv_move rfl) ?_) | (refine lw_pure rfl (pv_assign rfl) ?_) | (refine lw_call (f := 69) (by kernel_rfl) rfl rfl (isNaN_c _ _) ?_; rintro e w1 ⟨rfl, rfl⟩; refine ⟨_, rfl, ?_⟩) | (refine is_cw ?_; first | (refine cw_seq ?_) | (refine cw_region ?_) | (refine cw_false rfl rfl ?_) | (refine cw_skip ?_) | (refine cw_ret ?_)) | (refine is_qw ?_; first | (with_reducible refine qw_then ?_) | (with_reducible refine qw_then_ret ?_)) | (refine lw_nil ?_) | ((refine is_bin ?_; first | (refine lw_pure rfl (pv_lss rfl rfl) ?_) | (refine lw_pure rfl (pv_gtr rfl rfl) ?_))) | (refine is_cw ?_; refine cw_split rfl (fun hc => ?_) (fun hc => ?_) <;> (first | replace hc := of_decide_eq_true hc | replace hc := of_decide_eq_false hc | replace hc := dec_nT hc | replace hc := dec_nF hc | skip) <;> (try (exfalso; omega))))
  all_goals (refine qw_ret1 rfl rfl ⟨ret_int ?_, rfl⟩; unfold cmpI; (repeat' split) <;> omega)
set_option maxRecDepth 20000 in
theorem cmp6_c (a b : Int) (w : World) : Calls Tryd.prog 56 #[.int .i64 a, .int .i64 b] w fun e w' => e = .returned (.int .i64 (cmpI a b)) ∧ w = w' := by
  refine fn_enter 20 Tryd.func56 rfl rfl rfl ?_
  repeat' (first | (refine lw_pure rfl (pv_move rfl) ?_) | (refine lw_pure rfl (pv_assign rfl) ?_) | (refine lw_call (f := 70) (by kernel_rfl) rfl rfl (isNaN6_c _ _) ?_; rintro e w1 ⟨rfl, rfl⟩; refine ⟨_, rfl, ?_⟩) | (refine is_cw ?_; first | (refine cw_seq ?_) | (refine cw_region ?_) | (refine cw_false rfl rfl ?_) | (refine cw_skip ?_) | (refine cw_ret ?_)) | (refine is_qw ?_; first | (with_reducible refine qw_then ?_) | (with_reducible refine qw_then_ret ?_)) | (refine lw_nil ?_) | ((refine is_bin ?_; first | (refine lw_pure rfl (pv_lss rfl rfl) ?_) | (refine lw_pure rfl (pv_gtr rfl rfl) ?_))) | (refine is_cw ?_; refine cw_split rfl (fun hc => ?_) (fun hc => ?_) <;> (first | replace hc := of_decide_eq_true hc | replace hc := of_decide_eq_false hc | replace hc := dec_nT hc | replace hc := dec_nF hc | skip) <;> (try (exfalso; omega))))
  all_goals (refine qw_ret1 rfl rfl ⟨ret_int ?_, rfl⟩; unfold cmpI; (repeat' split) <;> omega)
set_option maxRecDepth 20000 in
theorem or_c (a b : Int) (N : Nat) (w : World) (h : PT w N 3 [.int .i64 a, .int .i64 b]) : Calls Tryd.prog 54 #[.slice (some ⟨N, 0, none⟩) 2 2] w fun e w' => e = .returned (.int .i64 (orI a b)) ∧ w = w' := by
  have hw := Below.refl w.heap.size w
  have HS : SlR encI 1 w (some ⟨N, 0, none⟩) 2 [a, b] := h.slR encI_len rfl (by omega)
  refine fn_enter 18 Tryd.func54 rfl rfl rfl ?_
  repeat' (first | (refine lw_pure rfl (pv_move rfl) ?_) | (refine lw_pure rfl (pv_assign rfl) ?_) | (refine is_cw ?_; first | (refine cw_seq ?_) | (refine cw_region ?_) | (refine cw_block ?_)) | (refine is_qw ?_; first | (with_reducible refine qw_then ?_)) | (refine lw_nil ?_) | ((refine is_bi ?_; first | (refine lw_pure rfl (pv_lenl (tS rfl) rfl) ?_))))
  refine cw_loop (σ := Nat) (fun k => [(3, .int .i64 0), (6, .slice (some ⟨N, 0, none⟩) 2 2), (7, .int .i64 (2 : Nat)), (8, .int .i64 (k : Nat))]) (fun k wr => k ≤ 2 ∧ w = wr ∧ (1 ≤ k → a = 0) ∧ (2 ≤ k → b = 0)) (fun k => 2 - k) 0 ⟨rfl, rfl, rfl, rfl, trivial⟩ ⟨Nat.zero_le _, rfl, by omega, by omega⟩ ?_
  rintro k wr ⟨hk, rfl, h1, h2⟩
  have hc : k = 0 ∨ k = 1 ∨ k = 2 := by omega
  rcases hc with rfl | rfl | rfl
  · have hx : [a, b][0]? = some a := rfl
    repeat' (first | (refine lw_pure rfl (pv_move rfl) ?_) | (refine lw_pure rfl (pv_assign rfl) ?_) | (refine is_cw ?_; first | (refine cw_seq ?_) | (refine cw_region ?_) | (refine cw_true rfl rfl ?_) | (refine cw_skip ?_) | (refine cw_block ?_) | (refine cw_ret ?_)) | (refine is_qw ?_; first | (with_reducible refine qw_then ?_) | (with_reducible refine qw_in ?_) | (with_reducible refine qw_then_ret ?_) | (with_reducible refine qw_in_ret ?_)) | (refine lw_nil ?_) | ((refine is_bin ?_; first | (refine lw_pure rfl (pv_lss rfl rfl) ?_) | (refine lw_pure rfl (pv_neq rfl rfl) ?_) | (refine lw_pure rfl (pv_inc rfl rfl (by omega)) ?_))) | ((refine is_load ?_; first | (refine lw_pure rfl (pv_load (t1 rfl) rfl (by first | exact SlR.ld (HS.mono hw) hx rfl | exact SlR.ld1 (HS.mono hw) hx rfl)) ?_))) | ((refine is_ia ?_; first | (refine lw_pure rfl (pv_ian (tS rfl) rfl rfl (by omega)) ?_))) | (refine is_cw ?_; refine cw_split rfl (fun hc => ?_) (fun hc => ?_) <;> (first | replace hc := of_decide_eq_true hc | replace hc := of_decide_eq_false hc | replace hc := dec_nT hc | replace hc := dec_nF hc | skip) <;> (try (exfalso; omega))))
    · refine qw_ret1 rfl rfl ⟨ret_int ?_, rfl⟩
      unfold orI; rw [if_neg (by assumption)]
    · refine qw_round 1 ⟨rfl, rfl, rfl, rfl, trivial⟩ ⟨by omega, rfl, fun _ => by assumption, by omega⟩ (by omega)
  · have hx : [a, b][1]? = some b := rfl
    repeat' (first | (refine lw_pure rfl (pv_move rfl) ?_) | (refine lw_pure rfl (pv_assign rfl) ?_) | (refine is_cw ?_; first | (refine cw_seq ?_) | (refine cw_region ?_) | (refine cw_true rfl rfl ?_) | (refine cw_skip ?_) | (refine cw_block ?_) | (refine cw_ret ?_)) | (refine is_qw ?_; first | (with_reducible refine qw_then ?_) | (with_reducible refine qw_in ?_) | (with_reducible refine qw_then_ret ?_) | (with_reducible refine qw_in_ret ?_)) | (refine lw_nil ?_) | ((refine is_bin ?_; first | (refine lw_pure rfl (pv_lss rfl rfl) ?_) | (refine lw_pure rfl (pv_neq rfl rfl) ?_) | (refine lw_pure rfl (pv_inc rfl rfl (by omega)) ?_))) | ((refine is_load ?_; first | (refine lw_pure rfl (pv_load (t1 rfl) rfl (by first | exact SlR.ld (HS.mono hw) hx rfl | exact SlR.ld1 (HS.mono hw) hx rfl)) ?_))) | ((refine is_ia ?_; first | (refine lw_pure rfl (pv_ian (tS rfl) rfl rfl (by omega)) ?_))) | (refine is_cw ?_; refine cw_split rfl (fun hc => ?_) (fun hc => ?_) <;> (first | replace hc := of_decide_eq_true hc | replace hc := of_decide_eq_false hc | replace hc := dec_nT hc | replace hc := dec_nF hc | skip) <;> (try (exfalso; omega))))
    · refine qw_ret1 rfl rfl ⟨ret_int ?_, rfl⟩
      unfold orI; rw [if_pos (h1 (by omega))]
    · refine qw_round 2 ⟨rfl, rfl, rfl, rfl, trivial⟩ ⟨by omega, rfl, fun _ => h1 (by omega), fun _ => by assumption⟩ (by omega)
  · repeat' (first | (refine lw_pure rfl (pv_move rfl) ?_) | (refine lw_pure rfl (pv_assign rfl) ?_) | (refine is_cw ?_; first | (refine cw_seq ?_) | (refine cw_region ?_) | (refine cw_false rfl rfl ?_) | (refine cw_exit ?_) | (refine cw_ret ?_)) | (refine is_qw ?_; first | (with_reducible refine qw_then ?_) | (with_reducible refine qw_in_hit ?_) | (with_reducible refine qw_then_exit ?_)) | (refine lw_nil ?_) | ((refine is_bin ?_; first | (refine lw_pure rfl (pv_lss rfl rfl) ?_))))
    refine qw_ret1 rfl rfl ⟨ret_int ?_, rfl⟩
    unfold orI; rw [if_pos (h1 (by omega)), h2 (by omega)]
def rowI (a b : Opn) : Int := orI (cmpI a.acct b.acct) (cmpI a.id b.id)
theorem rowI_lt {a b : Opn} : rowI a b < 0 ↔ keyO a b := by unfold rowI orI cmpI keyO; (repeat' split) <;> omega
def byI (a b : Lt) : Int := cmpI a.id b.id
theorem byI_lt {a b : Lt} : byI a b < 0 ↔ keyT a b := by unfold byI cmpI keyT; (repeat' split) <;> omega
set_option maxRecDepth 20000 in
theorem row_d (x y : Opn) (w : World) : Calls Tryd.prog 34 #[.agg (encP x).toArray, .agg (encP y).toArray] w fun e w' => e = .returned (.int .i64 (rowI x y)) ∧ BelowD w w' := by
  have hE := BelowD.refl w
  refine fn_enter 17 Tryd.func34 rfl rfl rfl ?_
  refine cw_seq (cw_region ?_)
  refine lw_boxD rfl rfl (cs := encP x) rfl ?_; intro N1 wn hN1 HA hb
  replace hE := hE.trans hb
  refine lw_boxD rfl rfl (cs := encP y) rfl ?_; intro N2 wm hN2 HB hb2
  replace HA := HA.mono hb2.b
  replace hE := hE.trans hb2
  have hd := BelowD.refl wm
  have hw := hd.b
  repeat' (first | (refine lw_pure rfl (pv_assign rfl) ?_) | (refine is_cw ?_; first | (refine cw_seq ?_)) | (refine is_qw ?_; first | (with_reducible refine qw_then ?_)) | (refine lw_nil ?_))
  refine cw_drawn (fun w' => BelowD wm w') (by kernel_rfl) (by repeat (first | exact NoPanic.body | with_reducible refine NoPanic.then ?_ | with_reducible refine NoPanic.inBlock ?_)) (fun hNP => ?_)
  have hS := hd.drew
  (refine at0 0 rfl (fun w' hq => pv_fa (tF rfl) rfl) ?_)
  (refine at0 1 rfl (fun w' hq => pv_load (t1 rfl) rfl (by first | exact PT.ld0 (HA.mono hq.b) rfl | exact PT.ld (HA.mono hq.b) rfl | exact PT.ld0 (HB.mono hq.b) rfl | exact PT.ld (HB.mono hq.b) rfl)) ?_)
  (refine at0 2 rfl (fun w' hq => pv_fa (tF rfl) rfl) ?_)
  (refine at0 3 rfl (fun w' hq => pv_load (t1 rfl) rfl (by first | exact PT.ld0 (HA.mono hq.b) rfl | exact PT.ld (HA.mono hq.b) rfl | exact PT.ld0 (HB.mono hq.b) rfl | exact PT.ld (HB.mono hq.b) rfl)) ?_)
  (refine at0 5 rfl (fun w' hq => pv_fa (tF rfl) rfl) ?_)
  (refine at0 6 rfl (fun w' hq => pv_load (t1 rfl) rfl (by first | exact PT.ld0 (HA.mono hq.b) rfl | exact PT.ld (HA.mono hq.b) rfl | exact PT.ld0 (HB.mono hq.b) rfl | exact PT.ld (HB.mono hq.b) rfl)) ?_)
  (refine at0 7 rfl (fun w' hq => pv_fa (tF rfl) rfl) ?_)
  (refine at0 8 rfl (fun w' hq => pv_load (t1 rfl) rfl (by first | exact PT.ld0 (HA.mono hq.b) rfl | exact PT.ld (HA.mono hq.b) rfl | exact PT.ld0 (HB.mono hq.b) rfl | exact PT.ld (HB.mono hq.b) rfl)) ?_)
  refine aw_act 4 (by kernel_rfl) rfl rfl rfl ?_
  refine act_call (f := 55) (by kernel_rfl) rfl (cmp_c _ _ _) ?_; rintro e w1 ⟨rfl, rfl⟩; refine ⟨_, rfl, hS, fun hS => ?_⟩
  refine aw_act 9 (by kernel_rfl) rfl rfl rfl ?_
  refine act_call (f := 56) (by kernel_rfl) rfl (cmp6_c _ _ _) ?_; rintro e w1 ⟨rfl, rfl⟩; refine ⟨_, rfl, hS, fun hS => ?_⟩
  refine aw_act 10 (by kernel_rfl) rfl rfl rfl ?_
  refine act_bsD (vs := [.int .i64 (cmpI x.acct y.acct), .int .i64 (cmpI x.id y.id)]) (cs := [.int .i64 (cmpI x.acct y.acct), .int .i64 (cmpI x.id y.id)]) elemN rfl rfl (by omega) (by omega) rfl (by simp [Value.cells]) rfl ?_; intro wb HC hb; refine ⟨hS.trans hb, fun hS => ?_⟩
  refine aw_act 11 (by kernel_rfl) rfl rfl rfl ?_
  refine act_call (f := 54) (by kernel_rfl) rfl (or_c _ _ _ _ HC) ?_; rintro e w1 ⟨rfl, rfl⟩; refine ⟨_, rfl, hS, fun hS => ?_⟩
  (refine at0 12 rfl (fun w' hq => pv_assign rfl) ?_)
  refine aw_done (by kernel_rfl) ?_
  replace hd := hS; have hw := hd.b; clear hS hNP
  repeat' (first | (refine is_cw ?_; first | (refine cw_ret ?_)) | (refine is_qw ?_; first | (with_reducible refine qw_then ?_)))
  exact qw_ret1 rfl rfl ⟨rfl, hE.trans hd⟩
set_option maxRecDepth 20000 in
theorem byID_d (x y : Lt) (w : World) : Calls Tryd.prog 36 #[.agg (encL x).toArray, .agg (encL y).toArray] w fun e w' => e = .returned (.int .i64 (byI x y)) ∧ BelowD w w' := by
  have hE := BelowD.refl w
  refine fn_enter 10 Tryd.func36 rfl rfl rfl ?_
  refine cw_seq (cw_region ?_)
  refine lw_boxD rfl rfl (cs := encL x) rfl ?_; intro N1 wn hN1 HA hb
  replace hE := hE.trans hb
  refine lw_boxD rfl rfl (cs := encL y) rfl ?_; intro N2 wm hN2 HB hb2
  replace HA := HA.mono hb2.b
  replace hE := hE.trans hb2
  have hw := Below.refl wm.heap.size wm
  repeat' (first | (refine lw_pure rfl (pv_assign rfl) ?_) | (refine lw_call (f := 56) (by kernel_rfl) rfl rfl (cmp6_c _ _ _) ?_; rintro e w1 ⟨rfl, rfl⟩; refine ⟨_, rfl, ?_⟩) | (refine is_cw ?_; first | (refine cw_seq ?_) | (refine cw_region ?_) | (refine cw_ret ?_)) | (refine is_qw ?_; first | (with_reducible refine qw_then ?_)) | (refine lw_nil ?_) | ((refine is_load ?_; first | (refine lw_pure rfl (pv_load (t1 rfl) rfl (by first | exact PT.ld0 (HA.mono hw) rfl | exact PT.ld (HA.mono hw) rfl | exact PT.ld0 (HB.mono hw) rfl | exact PT.ld (HB.mono hw) rfl)) ?_))) | ((refine is_fa ?_; first | (refine lw_pure rfl (pv_fa (tF rfl) rfl) ?_))))
  exact qw_ret1 rfl rfl ⟨rfl, hE⟩
theorem act_callv {P : Program} {n : Nat} {l : Fr} {w : World} {d : Option Nat} {f : FuncId} {x : Operand} {args : List Operand} {ts : Array TypeId} {ty : TypeId} {pos : String} {af : Array Edge} {g : Option (Nat × Bool)} {vs : List Value} {R : Ending → World → Prop} {Z : Value → World → Prop} (hx : ev l x = some (.func (.func f) #[] #[])) (he : entersB P f = true) (hvs : evs l args = some vs)
    (hc : Calls P f vs.toArray w R) (h : ∀ e w', R e w' → ∃ v, e = .returned v ∧ Z v w') : Act1 P n l ⟨d, .call ⟨.value x, args.toArray, ts⟩, ty, pos, af, g⟩ w Z := ⟨fun a ha K Q hK => by
  have hr := run_call (P := P) (w := w) (ts := ts) (d := d) (ty := ty) (pos := pos) (af := af) (g := g) he ha hx hvs
  unfold Oper.wp; rw [hr]
  have e0 : (#[] ++ vs.toArray ++ #[] : Array Value) = vs.toArray := by simp
  rw [e0]
  refine Calls.mono hc fun e w' hr => ?_
  obtain ⟨v, rfl, hl⟩ := h e w' hr
  exact hK v w' hl⟩
theorem pv_iap {P : Program} {n : Nat} {l : Fr} {w : World} {d : Option Nat} {ty : TypeId} {pos : String} {af : Array Edge} {g : Option (Nat × Bool)} {x y : Operand} {t : TypeId} {k : IntKind} {B o m c e j : Nat} {i : Int} (hi : i = (j : Int)) (ht : slB P t e = true) (hx : ev l x = some (.slice (some ⟨B, o, none⟩) m c)) (hy : ev l y = some (.int k i)) (h : j < m) : Pv P n l ⟨d, .indexAddr t x y, ty, pos, af, g⟩ (.pointer (some ⟨B, o + j * e, none⟩)) w := by
  subst hi; exact pv_ian ht hx hy h
set_option maxRecDepth 20000 in
theorem btwI_c (n m : Int) (w : World) : Calls Tryd.prog 57 #[.int .i64 n, .int .i64 m] w fun e w' => e = .returned (.bool (btw n m)) ∧ Below w.heap.size w w' := by
  have hw := Below.refl w.heap.size w
  refine fn_enter 12 Tryd.func57 rfl rfl rfl ?_
  repeat' (first | (refine lw_pure rfl (pv_move rfl) ?_) | (refine lw_pure rfl (pv_assign rfl) ?_) | (refine is_cw ?_; first | (refine cw_seq ?_) | (refine cw_region ?_) | (refine cw_ret ?_)) | (refine is_qw ?_; first | (with_reducible refine qw_then ?_)) | (refine lw_nil ?_) | (refine is_guarded ?_; first | (refine lw_on rfl rfl (by first | assumption | exact decide_eq_true (by omega) | exact decide_eq_false (by omega) | exact dec_notT (by omega) | exact dec_notF (by omega)) ?_) | (refine lw_not rfl rfl rfl (by first | assumption | exact decide_eq_true (by omega) | exact decide_eq_false (by omega) | exact dec_notT (by omega) | exact dec_notF (by omega)) ?_) | (refine lw_gs_t rfl rfl rfl (fun hc => ?_) (fun hc => ?_) <;> (first | replace hc := of_decide_eq_true hc | replace hc := of_decide_eq_false hc | replace hc := dec_nT hc | replace hc := dec_nF hc | skip) <;> (try (exfalso; omega)))) | ((refine is_bin ?_; first | (refine lw_pure rfl (pv_leq rfl rfl) ?_) | (refine lw_pure rfl (pv_geq rfl rfl) ?_))) | (refine is_pk ?_; refine lw_pure rfl (pv_pick_t rfl (by first | assumption | exact decide_eq_true (by omega) | exact dec_notT (by omega)) rfl) ?_) | (refine is_pk ?_; refine lw_pure rfl (pv_pick_f rfl (by first | assumption | exact decide_eq_false (by omega) | exact dec_notF (by omega)) rfl) ?_))
  all_goals (refine qw_ret1 rfl rfl ⟨ret_bool ?_, hw⟩; unfold btw; first | (rw [decide_eq_decide]; omega) | (symm; rw [decide_eq_true_eq]; omega) | (symm; rw [decide_eq_false_iff_not]; omega))
set_option maxRecDepth 20000 in
theorem btw6_c (n m : Int) (w : World) : Calls Tryd.prog 58 #[.int .i64 n, .int .i64 m] w fun e w' => e = .returned (.bool (btw n m)) ∧ Below w.heap.size w w' := by
  have hw := Below.refl w.heap.size w
  refine fn_enter 12 Tryd.func58 rfl rfl rfl ?_
  repeat' (first | (refine lw_pure rfl (pv_move rfl) ?_) | (refine lw_pure rfl (pv_assign rfl) ?_) | (refine is_cw ?_; first | (refine cw_seq ?_) | (refine cw_region ?_) | (refine cw_ret ?_)) | (refine is_qw ?_; first | (with_reducible refine qw_then ?_)) | (refine lw_nil ?_) | (refine is_guarded ?_; first | (refine lw_on rfl rfl (by first | assumption | exact decide_eq_true (by omega) | exact decide_eq_false (by omega) | exact dec_notT (by omega) | exact dec_notF (by omega)) ?_) | (refine lw_not rfl rfl rfl (by first | assumption | exact decide_eq_true (by omega) | exact decide_eq_false (by omega) | exact dec_notT (by omega) | exact dec_notF (by omega)) ?_) | (refine lw_gs_t rfl rfl rfl (fun hc => ?_) (fun hc => ?_) <;> (first | replace hc := of_decide_eq_true hc | replace hc := of_decide_eq_false hc | replace hc := dec_nT hc | replace hc := dec_nF hc | skip) <;> (try (exfalso; omega)))) | ((refine is_bin ?_; first | (refine lw_pure rfl (pv_leq rfl rfl) ?_) | (refine lw_pure rfl (pv_geq rfl rfl) ?_))) | (refine is_pk ?_; refine lw_pure rfl (pv_pick_t rfl (by first | assumption | exact decide_eq_true (by omega) | exact dec_notT (by omega)) rfl) ?_) | (refine is_pk ?_; refine lw_pure rfl (pv_pick_f rfl (by first | assumption | exact decide_eq_false (by omega) | exact dec_notF (by omega)) rfl) ?_))
  all_goals (refine qw_ret1 rfl rfl ⟨ret_bool ?_, hw⟩; unfold btw; first | (rw [decide_eq_decide]; omega) | (symm; rw [decide_eq_true_eq]; omega) | (symm; rw [decide_eq_false_iff_not]; omega))

set_option maxRecDepth 20000 in
set_option maxHeartbeats 1000000 in
theorem rise_P {xs : List Opn} {m : Nat} {ad : Option Addr} {cap : Nat} {w : World} (hm : xs.length = m) (HS : SlR encP 6 w ad cap xs) : Calls Tryd.prog 33 #[.slice ad m cap, .func (.func 34) #[] #[]] w fun e w' => e = .returned (.bool (decide (xs.Pairwise keyO))) ∧ Below w.heap.size w w' := by
  subst hm
  have hw := Below.refl w.heap.size w
  have hla := HS.le
  have hma := HS.max
  refine fn_enter 24 Tryd.func33 rfl rfl rfl ?_
  repeat' (first | (refine lw_pure rfl (pv_assign rfl) ?_) | (refine is_cw ?_; first | (refine cw_seq ?_) | (refine cw_region ?_) | (refine cw_block ?_)) | (refine is_qw ?_; first | (with_reducible refine qw_then ?_)) | (refine lw_nil ?_))
  refine cw_loop (σ := Nat) (fun k => [(0, .slice ad xs.length cap), (1, .func (.func 34) #[] #[]), (5, .int .i64 (k : Nat))]) (fun k wr => (1 ≤ k ∧ k ≤ max 1 xs.length) ∧ Below w.heap.size w wr ∧ (xs.take k).Pairwise keyO) (fun k => xs.length - k) 1 (by repeat' (first | exact trivial | refine ⟨rfl, ?_⟩)) ⟨⟨Nat.le_refl _, by omega⟩, hw, by match xs with | [] => simp | [x] => simp | x :: y :: r => simp⟩ ?_
  clear hw
  rintro k wr ⟨⟨hk1, hk⟩, hw, hn⟩
  by_cases hlt : k < xs.length
  · have hxk : xs[k]? = some xs[k] := List.getElem?_eq_getElem hlt
    have hxj : xs[k - 1]? = some (xs[k - 1]'(by omega)) := List.getElem?_eq_getElem _
    obtain ⟨ab, ao, rfl, -, -⟩ := HS.at (by intro h; rw [h] at hlt; simp at hlt)
    have hidx : ((k : Int) - 1) = ((k - 1 : Nat) : Int) := by omega
    have hlt1 : k - 1 < xs.length := by omega
    generalize xs[k] = x at hxk
    generalize xs[k - 1] = y at hxj
    by_cases hxy : keyO y x
    · have hneg := rowI_lt.2 hxy
      repeat' (first | (refine lw_pure rfl (pv_move rfl) ?_) | (refine is_cw ?_; first | (refine cw_seq ?_) | (refine cw_region ?_) | (refine is_cd ?_; refine cw_true rfl (by first | assumption | exact decide_eq_true (by omega) | exact dec_notT (by omega)) ?_) | (refine cw_skip ?_) | (refine cw_block ?_)) | (refine is_qw ?_; first | (with_reducible refine qw_then ?_)) | (refine lw_nil ?_) | ((refine is_bin ?_; first | (refine lw_pure rfl (pv_lss rfl rfl) ?_))) | ((refine is_bi ?_; first | (refine lw_pure rfl (pv_lenl (tS rfl) rfl) ?_))))
      refine cw_drawn (fun w' => Below w.heap.size w w') (by kernel_rfl) (by repeat (first | exact NoPanic.body | with_reducible refine NoPanic.then ?_ | with_reducible refine NoPanic.inBlock ?_)) (fun hNP => ?_)
      have hS := hw.drew
      (refine at0 0 rfl (fun w' hq => pv_move rfl) ?_)
      (refine at0 1 rfl (fun w' hq => pv_move rfl) ?_)
      (refine at0 2 rfl (fun w' hq => pv_move rfl) ?_)
      (refine at0 3 rfl (fun w' hq => pv_sub rfl rfl (by omega)) ?_)
      (refine at0 4 rfl (fun w' hq => pv_iap hidx (tS rfl) rfl rfl hlt1) ?_)
      (refine at0 5 rfl (fun w' hq => pv_loada (tA rfl) rfl (by first | exact SlR.lda (HS.mono hq) hxk | exact SlR.lda (HS.mono hq) hxj) (by rfl)) ?_)
      (refine at0 6 rfl (fun w' hq => pv_move rfl) ?_)
      (refine at0 7 rfl (fun w' hq => pv_move rfl) ?_)
      (refine at0 8 rfl (fun w' hq => pv_ian (tS rfl) rfl rfl (by omega)) ?_)
      (refine at0 9 rfl (fun w' hq => pv_loada (tA rfl) rfl (by first | exact SlR.lda (HS.mono hq) hxk | exact SlR.lda (HS.mono hq) hxj) (by rfl)) ?_)
      refine aw_act 10 (by kernel_rfl) rfl rfl rfl ?_
      refine act_callv (f := 34) rfl (by kernel_rfl) rfl (row_d y x _) ?_; rintro e w1 ⟨rfl, hb⟩; refine ⟨_, rfl, grow_trans hS hb.b, fun hS => ?_⟩
      (refine at0 11 rfl (fun w' hq => pv_geq rfl rfl) ?_)
      refine aw_done (by kernel_rfl) ?_
      replace hw := hS; clear hS hNP
      repeat' (first | (refine lw_pure rfl (pv_move rfl) ?_) | (refine lw_pure rfl (pv_assign rfl) ?_) | (refine is_cw ?_; first | (refine cw_region ?_) | (refine is_cd ?_; refine cw_false rfl (by first | assumption | exact decide_eq_false (by omega) | exact dec_notF (by omega)) ?_) | (refine cw_skip ?_)) | (refine is_qw ?_; first | (with_reducible refine qw_then ?_) | (with_reducible refine qw_in ?_)) | (refine lw_nil ?_) | ((refine is_bin ?_; first | (refine lw_pure rfl (pv_inc rfl rfl (by omega)) ?_))))
      refine qw_round (k + 1) (by repeat' (first | exact trivial | refine ⟨rfl, ?_⟩)) ⟨⟨by omega, by omega⟩, hw, pwg_snoc (R := keyO) (fun _ _ _ h g => keyO_trans h g) hn hxk (Or.inr ⟨y, hxj, hxy⟩)⟩ (by omega)
    · have hneg : ¬ rowI y x < 0 := fun h => hxy (rowI_lt.1 h)
      repeat' (first | (refine lw_pure rfl (pv_move rfl) ?_) | (refine is_cw ?_; first | (refine cw_seq ?_) | (refine cw_region ?_) | (refine is_cd ?_; refine cw_true rfl (by first | assumption | exact decide_eq_true (by omega) | exact dec_notT (by omega)) ?_) | (refine cw_skip ?_) | (refine cw_block ?_)) | (refine is_qw ?_; first | (with_reducible refine qw_then ?_)) | (refine lw_nil ?_) | ((refine is_bin ?_; first | (refine lw_pure rfl (pv_lss rfl rfl) ?_))) | ((refine is_bi ?_; first | (refine lw_pure rfl (pv_lenl (tS rfl) rfl) ?_))))
      refine cw_drawn (fun w' => Below w.heap.size w w') (by kernel_rfl) (by repeat (first | exact NoPanic.body | with_reducible refine NoPanic.then ?_ | with_reducible refine NoPanic.inBlock ?_)) (fun hNP => ?_)
      have hS := hw.drew
      (refine at0 0 rfl (fun w' hq => pv_move rfl) ?_)
      (refine at0 1 rfl (fun w' hq => pv_move rfl) ?_)
      (refine at0 2 rfl (fun w' hq => pv_move rfl) ?_)
      (refine at0 3 rfl (fun w' hq => pv_sub rfl rfl (by omega)) ?_)
      (refine at0 4 rfl (fun w' hq => pv_iap hidx (tS rfl) rfl rfl hlt1) ?_)
      (refine at0 5 rfl (fun w' hq => pv_loada (tA rfl) rfl (by first | exact SlR.lda (HS.mono hq) hxk | exact SlR.lda (HS.mono hq) hxj) (by rfl)) ?_)
      (refine at0 6 rfl (fun w' hq => pv_move rfl) ?_)
      (refine at0 7 rfl (fun w' hq => pv_move rfl) ?_)
      (refine at0 8 rfl (fun w' hq => pv_ian (tS rfl) rfl rfl (by omega)) ?_)
      (refine at0 9 rfl (fun w' hq => pv_loada (tA rfl) rfl (by first | exact SlR.lda (HS.mono hq) hxk | exact SlR.lda (HS.mono hq) hxj) (by rfl)) ?_)
      refine aw_act 10 (by kernel_rfl) rfl rfl rfl ?_
      refine act_callv (f := 34) rfl (by kernel_rfl) rfl (row_d y x _) ?_; rintro e w1 ⟨rfl, hb⟩; refine ⟨_, rfl, grow_trans hS hb.b, fun hS => ?_⟩
      (refine at0 11 rfl (fun w' hq => pv_geq rfl rfl) ?_)
      refine aw_done (by kernel_rfl) ?_
      replace hw := hS; clear hS hNP
      repeat' (first | (refine lw_pure rfl (pv_assign rfl) ?_) | (refine is_cw ?_; first | (refine cw_seq ?_) | (refine cw_region ?_) | (refine is_cd ?_; refine cw_true rfl (by first | assumption | exact decide_eq_true (by omega) | exact dec_notT (by omega)) ?_) | (refine cw_ret ?_)) | (refine is_qw ?_; first | (with_reducible refine qw_then ?_) | (with_reducible refine qw_then_ret ?_) | (with_reducible refine qw_in_ret ?_)) | (refine lw_nil ?_))
      refine qw_ret1 rfl rfl ⟨ret_bool ?_, hw⟩
      symm; rw [decide_eq_false_iff_not]; intro hp
      exact hxy (pwg_get hp (by omega) hxj hxk)
  · have hkl : xs.take k = xs := List.take_of_length_le (by omega)
    rw [hkl] at hn
    repeat' (first | (refine lw_pure rfl (pv_move rfl) ?_) | (refine lw_pure rfl (pv_assign rfl) ?_) | (refine is_cw ?_; first | (refine cw_seq ?_) | (refine cw_region ?_) | (refine is_cd ?_; refine cw_false rfl (by first | assumption | exact decide_eq_false (by omega) | exact dec_notF (by omega)) ?_) | (refine cw_exit ?_) | (refine cw_ret ?_)) | (refine is_qw ?_; first | (with_reducible refine qw_then ?_) | (with_reducible refine qw_in_hit ?_) | (with_reducible refine qw_then_exit ?_)) | (refine lw_nil ?_) | ((refine is_bin ?_; first | (refine lw_pure rfl (pv_lss rfl rfl) ?_))) | ((refine is_bi ?_; first | (refine lw_pure rfl (pv_lenl (tS rfl) rfl) ?_))))
    exact qw_ret1 rfl rfl ⟨ret_bool (by simp [hn]), hw⟩

set_option maxRecDepth 20000 in
set_option maxHeartbeats 1000000 in
theorem rise_L {xs : List Lt} {m : Nat} {ad : Option Addr} {cap : Nat} {w : World} (hm : xs.length = m) (HS : SlR encL 4 w ad cap xs) : Calls Tryd.prog 35 #[.slice ad m cap, .func (.func 36) #[] #[]] w fun e w' => e = .returned (.bool (decide (xs.Pairwise keyT))) ∧ Below w.heap.size w w' := by
  subst hm
  have hw := Below.refl w.heap.size w
  have hla := HS.le
  have hma := HS.max
  refine fn_enter 24 Tryd.func35 rfl rfl rfl ?_
  repeat' (first | (refine lw_pure rfl (pv_assign rfl) ?_) | (refine is_cw ?_; first | (refine cw_seq ?_) | (refine cw_region ?_) | (refine cw_block ?_)) | (refine is_qw ?_; first | (with_reducible refine qw_then ?_)) | (refine lw_nil ?_))
  refine cw_loop (σ := Nat) (fun k => [(0, .slice ad xs.length cap), (1, .func (.func 36) #[] #[]), (5, .int .i64 (k : Nat))]) (fun k wr => (1 ≤ k ∧ k ≤ max 1 xs.length) ∧ Below w.heap.size w wr ∧ (xs.take k).Pairwise keyT) (fun k => xs.length - k) 1 (by repeat' (first | exact trivial | refine ⟨rfl, ?_⟩)) ⟨⟨Nat.le_refl _, by omega⟩, hw, by match xs with | [] => simp | [x] => simp | x :: y :: r => simp⟩ ?_
  clear hw
  rintro k wr ⟨⟨hk1, hk⟩, hw, hn⟩
  by_cases hlt : k < xs.length
  · have hxk : xs[k]? = some xs[k] := List.getElem?_eq_getElem hlt
    have hxj : xs[k - 1]? = some (xs[k - 1]'(by omega)) := List.getElem?_eq_getElem _
    obtain ⟨ab, ao, rfl, -, -⟩ := HS.at (by intro h; rw [h] at hlt; simp at hlt)
    have hidx : ((k : Int) - 1) = ((k - 1 : Nat) : Int) := by omega
    have hlt1 : k - 1 < xs.length := by omega
    generalize xs[k] = x at hxk
    generalize xs[k - 1] = y at hxj
    by_cases hxy : keyT y x
    · have hneg := byI_lt.2 hxy
      repeat' (first | (refine lw_pure rfl (pv_move rfl) ?_) | (refine is_cw ?_; first | (refine cw_seq ?_) | (refine cw_region ?_) | (refine is_cd ?_; refine cw_true rfl (by first | assumption | exact decide_eq_true (by omega) | exact dec_notT (by omega)) ?_) | (refine cw_skip ?_) | (refine cw_block ?_)) | (refine is_qw ?_; first | (with_reducible refine qw_then ?_)) | (refine lw_nil ?_) | ((refine is_bin ?_; first | (refine lw_pure rfl (pv_lss rfl rfl) ?_))) | ((refine is_bi ?_; first | (refine lw_pure rfl (pv_lenl (tS rfl) rfl) ?_))))
      refine cw_drawn (fun w' => Below w.heap.size w w') (by kernel_rfl) (by repeat (first | exact NoPanic.body | with_reducible refine NoPanic.then ?_ | with_reducible refine NoPanic.inBlock ?_)) (fun hNP => ?_)
      have hS := hw.drew
      (refine at0 0 rfl (fun w' hq => pv_move rfl) ?_)
      (refine at0 1 rfl (fun w' hq => pv_move rfl) ?_)
      (refine at0 2 rfl (fun w' hq => pv_move rfl) ?_)
      (refine at0 3 rfl (fun w' hq => pv_sub rfl rfl (by omega)) ?_)
      (refine at0 4 rfl (fun w' hq => pv_iap hidx (tS rfl) rfl rfl hlt1) ?_)
      (refine at0 5 rfl (fun w' hq => pv_loada (tA rfl) rfl (by first | exact SlR.lda (HS.mono hq) hxk | exact SlR.lda (HS.mono hq) hxj) (by rfl)) ?_)
      (refine at0 6 rfl (fun w' hq => pv_move rfl) ?_)
      (refine at0 7 rfl (fun w' hq => pv_move rfl) ?_)
      (refine at0 8 rfl (fun w' hq => pv_ian (tS rfl) rfl rfl (by omega)) ?_)
      (refine at0 9 rfl (fun w' hq => pv_loada (tA rfl) rfl (by first | exact SlR.lda (HS.mono hq) hxk | exact SlR.lda (HS.mono hq) hxj) (by rfl)) ?_)
      refine aw_act 10 (by kernel_rfl) rfl rfl rfl ?_
      refine act_callv (f := 36) rfl (by kernel_rfl) rfl (byID_d y x _) ?_; rintro e w1 ⟨rfl, hb⟩; refine ⟨_, rfl, grow_trans hS hb.b, fun hS => ?_⟩
      (refine at0 11 rfl (fun w' hq => pv_geq rfl rfl) ?_)
      refine aw_done (by kernel_rfl) ?_
      replace hw := hS; clear hS hNP
      repeat' (first | (refine lw_pure rfl (pv_move rfl) ?_) | (refine lw_pure rfl (pv_assign rfl) ?_) | (refine is_cw ?_; first | (refine cw_region ?_) | (refine is_cd ?_; refine cw_false rfl (by first | assumption | exact decide_eq_false (by omega) | exact dec_notF (by omega)) ?_) | (refine cw_skip ?_)) | (refine is_qw ?_; first | (with_reducible refine qw_then ?_) | (with_reducible refine qw_in ?_)) | (refine lw_nil ?_) | ((refine is_bin ?_; first | (refine lw_pure rfl (pv_inc rfl rfl (by omega)) ?_))))
      refine qw_round (k + 1) (by repeat' (first | exact trivial | refine ⟨rfl, ?_⟩)) ⟨⟨by omega, by omega⟩, hw, pwg_snoc (R := keyT) (fun _ _ _ h g => keyT_trans h g) hn hxk (Or.inr ⟨y, hxj, hxy⟩)⟩ (by omega)
    · have hneg : ¬ byI y x < 0 := fun h => hxy (byI_lt.1 h)
      repeat' (first | (refine lw_pure rfl (pv_move rfl) ?_) | (refine is_cw ?_; first | (refine cw_seq ?_) | (refine cw_region ?_) | (refine is_cd ?_; refine cw_true rfl (by first | assumption | exact decide_eq_true (by omega) | exact dec_notT (by omega)) ?_) | (refine cw_skip ?_) | (refine cw_block ?_)) | (refine is_qw ?_; first | (with_reducible refine qw_then ?_)) | (refine lw_nil ?_) | ((refine is_bin ?_; first | (refine lw_pure rfl (pv_lss rfl rfl) ?_))) | ((refine is_bi ?_; first | (refine lw_pure rfl (pv_lenl (tS rfl) rfl) ?_))))
      refine cw_drawn (fun w' => Below w.heap.size w w') (by kernel_rfl) (by repeat (first | exact NoPanic.body | with_reducible refine NoPanic.then ?_ | with_reducible refine NoPanic.inBlock ?_)) (fun hNP => ?_)
      have hS := hw.drew
      (refine at0 0 rfl (fun w' hq => pv_move rfl) ?_)
      (refine at0 1 rfl (fun w' hq => pv_move rfl) ?_)
      (refine at0 2 rfl (fun w' hq => pv_move rfl) ?_)
      (refine at0 3 rfl (fun w' hq => pv_sub rfl rfl (by omega)) ?_)
      (refine at0 4 rfl (fun w' hq => pv_iap hidx (tS rfl) rfl rfl hlt1) ?_)
      (refine at0 5 rfl (fun w' hq => pv_loada (tA rfl) rfl (by first | exact SlR.lda (HS.mono hq) hxk | exact SlR.lda (HS.mono hq) hxj) (by rfl)) ?_)
      (refine at0 6 rfl (fun w' hq => pv_move rfl) ?_)
      (refine at0 7 rfl (fun w' hq => pv_move rfl) ?_)
      (refine at0 8 rfl (fun w' hq => pv_ian (tS rfl) rfl rfl (by omega)) ?_)
      (refine at0 9 rfl (fun w' hq => pv_loada (tA rfl) rfl (by first | exact SlR.lda (HS.mono hq) hxk | exact SlR.lda (HS.mono hq) hxj) (by rfl)) ?_)
      refine aw_act 10 (by kernel_rfl) rfl rfl rfl ?_
      refine act_callv (f := 36) rfl (by kernel_rfl) rfl (byID_d y x _) ?_; rintro e w1 ⟨rfl, hb⟩; refine ⟨_, rfl, grow_trans hS hb.b, fun hS => ?_⟩
      (refine at0 11 rfl (fun w' hq => pv_geq rfl rfl) ?_)
      refine aw_done (by kernel_rfl) ?_
      replace hw := hS; clear hS hNP
      repeat' (first | (refine lw_pure rfl (pv_assign rfl) ?_) | (refine is_cw ?_; first | (refine cw_seq ?_) | (refine cw_region ?_) | (refine is_cd ?_; refine cw_true rfl (by first | assumption | exact decide_eq_true (by omega) | exact dec_notT (by omega)) ?_) | (refine cw_ret ?_)) | (refine is_qw ?_; first | (with_reducible refine qw_then ?_) | (with_reducible refine qw_then_ret ?_) | (with_reducible refine qw_in_ret ?_)) | (refine lw_nil ?_))
      refine qw_ret1 rfl rfl ⟨ret_bool ?_, hw⟩
      symm; rw [decide_eq_false_iff_not]; intro hp
      exact hxy (pwg_get hp (by omega) hxj hxk)
  · have hkl : xs.take k = xs := List.take_of_length_le (by omega)
    rw [hkl] at hn
    repeat' (first | (refine lw_pure rfl (pv_move rfl) ?_) | (refine lw_pure rfl (pv_assign rfl) ?_) | (refine is_cw ?_; first | (refine cw_seq ?_) | (refine cw_region ?_) | (refine is_cd ?_; refine cw_false rfl (by first | assumption | exact decide_eq_false (by omega) | exact dec_notF (by omega)) ?_) | (refine cw_exit ?_) | (refine cw_ret ?_)) | (refine is_qw ?_; first | (with_reducible refine qw_then ?_) | (with_reducible refine qw_in_hit ?_) | (with_reducible refine qw_then_exit ?_)) | (refine lw_nil ?_) | ((refine is_bin ?_; first | (refine lw_pure rfl (pv_lss rfl rfl) ?_))) | ((refine is_bi ?_; first | (refine lw_pure rfl (pv_lenl (tS rfl) rfl) ?_))))
    exact qw_ret1 rfl rfl ⟨ret_bool (by simp [hn]), hw⟩

theorem btw_t {n m : Int} (h : 1 ≤ n ∧ n ≤ m) : btw n m = true := decide_eq_true h
theorem btw_f {n m : Int} (h : ¬ (1 ≤ n ∧ n ≤ m)) : btw n m = false := decide_eq_false h
theorem btwI_e {n m : Int} {b : Bool} (h : btw n m = b) (w : World) : Calls Tryd.prog 57 #[.int .i64 n, .int .i64 m] w fun e w' => e = .returned (.bool b) ∧ Below w.heap.size w w' := by subst h; exact btwI_c n m w
theorem btw6_e {n m : Int} {b : Bool} (h : btw n m = b) (w : World) : Calls Tryd.prog 58 #[.int .i64 n, .int .i64 m] w fun e w' => e = .returned (.bool b) ∧ Below w.heap.size w w' := by subst h; exact btw6_c n m w
set_option maxRecDepth 20000 in
set_option maxHeartbeats 2000000 in
theorem may_o (o : Opn) (w : World) : Calls Tryd.prog 37 #[.agg (encP o).toArray] w fun e w' => e = .returned (.bool (decide (MayO o))) ∧ Below w.heap.size w w' := by
  have hw := Below.refl w.heap.size w
  refine fn_enter 36 Tryd.func37 rfl rfl rfl ?_
  repeat' (first | (refine is_cw ?_; first | (refine cw_seq ?_) | (refine cw_region ?_)))
  refine lw_boxN rfl rfl (cs := encP o) rfl ?_; intro N w1 hN H hb
  have hE := Ext.mk (grow_trans hw hb)
  clear hb hw
  have hw := Below.refl w1.heap.size w1
  repeat' (first | (refine lw_pure rfl (pv_move rfl) ?_) | (refine lw_pure rfl (pv_assign rfl) ?_) | (refine lw_call (f := 57) (by kernel_rfl) rfl rfl (btwI_c _ _ _) ?_; rintro e w1 ⟨rfl, hb⟩; refine ⟨_, rfl, ?_⟩; replace hw := grow_trans hw hb; clear hb) | (refine lw_call (f := 58) (by kernel_rfl) rfl rfl (btw6_c _ _ _) ?_; rintro e w1 ⟨rfl, hb⟩; refine ⟨_, rfl, ?_⟩; replace hw := grow_trans hw hb; clear hb) | (refine is_cw ?_; first | (refine cw_seq ?_) | (refine cw_region ?_) | (refine cw_ret ?_)) | (refine is_qw ?_; first | (with_reducible refine qw_then ?_)) | (refine lw_nil ?_) | (refine is_guarded ?_; first | (refine lw_not rfl rfl rfl rfl ?_) | (refine lw_not_u rfl rfl rfl ?_) | (refine lw_on rfl rfl rfl ?_) | (refine lw_on rfl rfl (by first | assumption | exact decide_eq_true (by omega) | exact decide_eq_false (by omega) | exact dec_notT (by omega) | exact dec_notF (by omega)) ?_) | (refine lw_not rfl rfl rfl (by first | assumption | exact decide_eq_true (by omega) | exact decide_eq_false (by omega) | exact dec_notT (by omega) | exact dec_notF (by omega)) ?_) | (refine lw_gs_t rfl rfl rfl (fun hc => ?_) (fun hc => ?_) <;> (first | replace hc := of_decide_eq_true hc | replace hc := of_decide_eq_false hc | replace hc := dec_nT hc | replace hc := dec_nF hc | skip) <;> (try (exfalso; omega))) | (refine lw_gs_f rfl rfl rfl (fun hc => ?_) (fun hc => ?_) <;> (first | replace hc := of_decide_eq_true hc | replace hc := of_decide_eq_false hc | replace hc := dec_nT hc | replace hc := dec_nF hc | skip) <;> (try (exfalso; omega)))) | ((refine is_bin ?_; first | (refine lw_pure rfl (pv_eql rfl rfl) ?_))) | ((refine is_load ?_; first | (refine lw_pure rfl (pv_load (t1 rfl) rfl (by first | exact PT.ld0 (H.mono hw) rfl | exact PT.ld (H.mono hw) rfl)) ?_))) | ((refine is_fa ?_; first | (refine lw_pure rfl (pv_fa (tF rfl) rfl) ?_))) | (refine is_pk ?_; refine lw_pure rfl (pv_pick_t rfl rfl rfl) ?_) | (refine is_pk ?_; refine lw_pure rfl (pv_pick_f rfl rfl rfl) ?_) | (refine is_pk ?_; refine lw_pure rfl (pv_pick_t rfl (by first | assumption | exact decide_eq_true (by omega) | exact dec_notT (by omega)) rfl) ?_) | (refine is_pk ?_; refine lw_pure rfl (pv_pick_f rfl (by first | assumption | exact decide_eq_false (by omega) | exact dec_notF (by omega)) rfl) ?_))
  all_goals (refine qw_ret1 rfl rfl ⟨ret_bool ?_, (hE.mono hw).b⟩; first | (unfold btw; rw [decide_eq_decide]; unfold MayO; omega) | (symm; rw [decide_eq_false_iff_not]; unfold MayO; omega))
set_option maxRecDepth 20000 in
set_option maxHeartbeats 2000000 in
theorem may_l (o : Lt) (w : World) : Calls Tryd.prog 42 #[.agg (encL o).toArray] w fun e w' => e = .returned (.bool (decide (MayL o))) ∧ Below w.heap.size w w' := by
  have hw := Below.refl w.heap.size w
  refine fn_enter 21 Tryd.func42 rfl rfl rfl ?_
  repeat' (first | (refine is_cw ?_; first | (refine cw_seq ?_) | (refine cw_region ?_)))
  refine lw_boxN rfl rfl (cs := encL o) rfl ?_; intro N w1 hN H hb
  have hE := Ext.mk (grow_trans hw hb)
  clear hb hw
  have hw := Below.refl w1.heap.size w1
  repeat' (first | (refine lw_pure rfl (pv_move rfl) ?_) | (refine lw_pure rfl (pv_assign rfl) ?_) | (refine lw_call (f := 57) (by kernel_rfl) rfl rfl (btwI_c _ _ _) ?_; rintro e w1 ⟨rfl, hb⟩; refine ⟨_, rfl, ?_⟩; replace hw := grow_trans hw hb; clear hb) | (refine lw_call (f := 58) (by kernel_rfl) rfl rfl (btw6_c _ _ _) ?_; rintro e w1 ⟨rfl, hb⟩; refine ⟨_, rfl, ?_⟩; replace hw := grow_trans hw hb; clear hb) | (refine is_cw ?_; first | (refine cw_seq ?_) | (refine cw_region ?_) | (refine cw_ret ?_)) | (refine is_qw ?_; first | (with_reducible refine qw_then ?_)) | (refine lw_nil ?_) | (refine is_guarded ?_; first | (refine lw_not rfl rfl rfl rfl ?_) | (refine lw_on rfl rfl (by first | assumption | exact decide_eq_true (by omega) | exact decide_eq_false (by omega) | exact dec_notT (by omega) | exact dec_notF (by omega)) ?_) | (refine lw_not rfl rfl rfl (by first | assumption | exact decide_eq_true (by omega) | exact decide_eq_false (by omega) | exact dec_notT (by omega) | exact dec_notF (by omega)) ?_) | (refine lw_gs_t rfl rfl rfl (fun hc => ?_) (fun hc => ?_) <;> (first | replace hc := of_decide_eq_true hc | replace hc := of_decide_eq_false hc | replace hc := dec_nT hc | replace hc := dec_nF hc | skip) <;> (try (exfalso; omega)))) | ((refine is_load ?_; first | (refine lw_pure rfl (pv_load (t1 rfl) rfl (by first | exact PT.ld0 (H.mono hw) rfl | exact PT.ld (H.mono hw) rfl)) ?_))) | ((refine is_fa ?_; first | (refine lw_pure rfl (pv_fa (tF rfl) rfl) ?_))) | (refine is_pk ?_; refine lw_pure rfl (pv_pick_f rfl rfl rfl) ?_) | (refine is_pk ?_; refine lw_pure rfl (pv_pick_t rfl (by first | assumption | exact decide_eq_true (by omega) | exact dec_notT (by omega)) rfl) ?_) | (refine is_pk ?_; refine lw_pure rfl (pv_pick_f rfl (by first | assumption | exact decide_eq_false (by omega) | exact dec_notF (by omega)) rfl) ?_))
  all_goals (refine qw_ret1 rfl rfl ⟨ret_bool ?_, (hE.mono hw).b⟩; first | (unfold btw; rw [decide_eq_decide]; unfold MayL; omega) | (symm; rw [decide_eq_false_iff_not]; unfold MayL; omega))
set_option maxRecDepth 20000 in
theorem mayF_c (o : Lt) (w : World) : Calls Tryd.prog 41 #[.agg (encL o).toArray] w fun e w' => e = .returned (.bool (!decide (MayL o))) ∧ Below w.heap.size w w' := by
  have hw := Below.refl w.heap.size w
  refine fn_enter 6 Tryd.func41 rfl rfl rfl ?_
  repeat' (first | (refine is_cw ?_; first | (refine cw_seq ?_) | (refine cw_region ?_)))
  refine lw_boxN rfl rfl (cs := encL o) rfl ?_; intro N w1 hN H hb
  have hE := Ext.mk (grow_trans hw hb)
  clear hb hw
  have hw := Below.refl w1.heap.size w1
  repeat' (first | (refine lw_pure rfl (pv_assign rfl) ?_) | (refine lw_call (f := 42) (by kernel_rfl) rfl rfl (may_l o _) ?_; rintro e w1 ⟨rfl, hb⟩; refine ⟨_, rfl, ?_⟩; replace hw := grow_trans hw hb; clear hb) | (refine is_cw ?_; first | (refine cw_seq ?_) | (refine cw_region ?_) | (refine cw_ret ?_)) | (refine is_qw ?_; first | (with_reducible refine qw_then ?_)) | (refine lw_nil ?_) | ((refine is_load ?_; first | (refine lw_pure rfl (pv_loada (tA rfl) rfl (by first | exact PT.lda (H.mono hw)) (by rfl)) ?_))) | ((refine is_un ?_; first | (refine lw_pure rfl (pv_not rfl) ?_))))
  exact qw_ret1 rfl rfl ⟨rfl, (hE.mono hw).b⟩
end Go.Proofs.YtnffmbfdfhokeaaDoor
namespace Go.Proofs.YtnffmbfdfhokeaaDoor
open Go.RowKit

theorem gb_trans {w w1 w2 : World} {row : Option Nat} (h : w.grownBy w1 row) (k : w1.grownBy w2 row) : w.grownBy w2 row :=
  ⟨k.os.trans h.os, k.tape.trans h.tape, k.output.trans h.output, Nat.le_trans h.size k.size, fun i hi hn => (k.block i (Nat.lt_of_lt_of_le hi h.size) hn).trans (h.block i hi hn)⟩
theorem gb_of {w w1 : World} (h : Below w.heap.size w w1) (row : Option Nat) : w.grownBy w1 row := ⟨h.os, h.tape, h.output, h.size, fun i hi _ => h.block i hi⟩
theorem gb_below {w w1 w2 : World} {row : Option Nat} (h : w.grownBy w1 row) (k : Below w1.heap.size w1 w2) : w.grownBy w2 row := gb_trans h (gb_of k row)
theorem gb_refl (w : World) (row : Option Nat) : w.grownBy w row := gb_of (Below.refl _ _) row
section
variable {α : Type} {enc : α → List Value} {k nb : Nat} {T S : TypeId} {base : Nat} {w : World} {g cap : Nat} {xs : List α}
theorem Own.shiftK (hk : ∀ x, (enc x).length = k) (h : Own enc k T base w (.slice (some ⟨g, 0, none⟩) xs.length cap) xs) {cur : Array Value} (hg : w.heap[g]? = some (.cells cur T (0, 0))) {i : Nat} (hi : i < xs.length) {last : α} (hl : xs[xs.length - 1]? = some last) {w' : World}
    (hw : w' = w.setRow g (cur.toList.take (i * k) ++ ((xs.drop (i + 1)).flatMap enc ++ cur.toList.drop (i * k + ((xs.drop (i + 1)).flatMap enc).length))).toArray) :
    Own enc k T base w' (.slice (some ⟨g, 0, none⟩) (xs.eraseIdx i ++ [last]).length cap) (xs.eraseIdx i ++ [last]) ∧ w.grownBy w' (some g) := by
  obtain ⟨cur', hb, hg', hle, hmax, hsz, htk⟩ := Own.heap' h
  rw [hg] at hg'
  injection hg' with hg'; injection hg' with hg' _ _
  subst hg'
  obtain ⟨m, hm⟩ : ∃ m, xs.length = i + 1 + m := ⟨xs.length - (i + 1), by omega⟩
  have hln : ((xs.drop (i + 1)).flatMap enc).length = m * k := by rw [flat_len enc k hk, List.length_drop]; congr 1; omega
  have hel : (xs.eraseIdx i ++ [last]).length = xs.length := by rw [List.length_append, List.length_eraseIdx_of_lt hi]; simp; omega
  have hxk : xs.length * k = i * k + k + m * k := by rw [hm, Nat.add_mul, Nat.add_mul, Nat.one_mul]
  have hck : xs.length * k ≤ cap * k := Nat.mul_le_mul_right k hle
  rw [← List.append_assoc] at hw
  subst hw
  refine ⟨⟨by rw [flat_len enc k hk], Or.inr ⟨g, cap, _, rfl, hb, setRow_heap w g cur _ T _ hg, by rw [hel]; exact hle, hmax, ?_, ?_⟩⟩, ⟨rfl, rfl, rfl, by simp, fun q hq hne => setRow_other w g q _ (fun e => hne (by rw [e]))⟩⟩
  · simp only [List.size_toArray, List.length_append, List.length_take, List.length_drop, Array.length_toList, hln, hsz]
    omega
  · rw [hel, hln]
    have l1 : (cur.toList.take (i * k)).length = i * k := by rw [List.length_take, Array.length_toList, hsz]; omega
    have e1 : cur.toList.take (i * k) = (xs.take i).flatMap enc := by rw [← flat_take enc k hk, ← htk, List.take_take, Nat.min_eq_left (by omega)]
    have hlk : (xs.length - 1) * k = i * k + m * k := by rw [show xs.length - 1 = i + m by omega, Nat.add_mul]
    have e2 : (cur.toList.drop (i * k + m * k)).take k = enc last := by
      have h3 := flat_drop enc k hk xs (xs.length - 1)
      rw [← htk, List.drop_take, hlk, hxk] at h3
      have h4 : xs.drop (xs.length - 1) = [last] := by
        obtain ⟨h5, h6⟩ := List.getElem?_eq_some_iff.1 hl
        rw [List.drop_eq_getElem_cons h5, h6, List.drop_of_length_le (by omega)]
      rw [h4, show i * k + k + m * k - (i * k + m * k) = k by omega] at h3
      rw [h3]; simp
    rw [List.take_append, List.take_of_length_le (by rw [List.length_append, l1, hln]; omega), List.length_append, l1, hln, hxk, show i * k + k + m * k - (i * k + m * k) = k by omega, e2, e1]
    rw [List.flatMap_append, List.eraseIdx_eq_take_drop_succ, List.flatMap_append]
    simp
end
section
variable {α : Type} {enc : α → List Value} {k nb : Nat} {P : Program} {n : Nat} {l : Fr} {w : World} {d : Option Nat} {ty : TypeId} {pos : String} {af : Array Edge} {gd : Option (Nat × Bool)} {S T t : TypeId} {x y z z2 : Operand} {base g cap : Nat} {xs : List α} {Z : Value → World → Prop}
theorem act_appD (E : ElemT P S T k nb) (hk : ∀ x, (enc x).length = k) (h1c : ∀ x, ∀ v ∈ enc x, v.oneCell' = true) {i : Nat} {a : Option Addr} {m c : Nat} (hx : ev l x = some (.slice (some ⟨g, 0, none⟩) i cap)) (hy : ev l y = some (.slice a m c)) (ha : a = some ⟨g, 0 + (i + 1) * k, none⟩ ∨ (cap = i + 1 ∧ a = some ⟨g, 0, none⟩)) (hm : m = xs.length - (i + 1)) (ho : Own enc k T base w (.slice (some ⟨g, 0, none⟩) xs.length cap) xs) (hi : i < xs.length) {last : α} (hl : xs[xs.length - 1]? = some last)
    (h : ∀ w', Own enc k T base w' (.slice (some ⟨g, 0, none⟩) (xs.eraseIdx i ++ [last]).length cap) (xs.eraseIdx i ++ [last]) → w.grownBy w' (some g) → Z (.slice (some ⟨g, 0, none⟩) (i + m) cap) w') :
    Act1 P n l ⟨d, .call ⟨.builtin .append, #[x, y], #[S, S]⟩, ty, pos, af, gd⟩ w Z := by
  obtain ⟨cur, hb, hg, hle, hmax, hsz, htk⟩ := Own.heap' ho
  obtain ⟨inf, z, hif, hz, hisz, _, _⟩ := E.info
  have hln : ((xs.drop (i + 1)).flatMap enc).length = m * k := by rw [flat_len enc k hk, List.length_drop, hm]
  have hcells : ∀ ad, a = some ad → ∀ j u, ((xs.drop (i + 1)).flatMap enc)[j]? = some u → w.cell? (ad.add j) = some u := fun ad had j u hj => by
    have hlt : j < m * k := by rw [← hln]; exact (List.getElem?_eq_some_iff.1 hj).1
    rcases ha with ha | ⟨hc, _⟩
    · rw [had] at ha; injection ha with ha; subst ha
      rw [← flat_drop enc k hk, List.getElem?_drop, ← htk, List.getElem?_take] at hj
      split at hj
      · rw [Addr.add_lit, cell_of_row w g _ cur T (0, 0) hg]; simpa using hj
      · cases hj
    · have : m = 0 := by omega
      rw [this] at hlt; simp at hlt
  obtain ⟨ad, had⟩ : ∃ ad, a = some ad := by rcases ha with ha | ⟨_, ha⟩ <;> exact ⟨_, ha⟩
  have hone : ∀ u ∈ (xs.drop (i + 1)).flatMap enc, u.oneCell' = true := flat_one h1c _
  have hmk : i * k + m * k ≤ cur.size := by
    have h1 : (i + m) * k ≤ cap * k := Nat.mul_le_mul_right k (by omega)
    rw [Nat.add_mul] at h1; omega
  have hrun := run_append_room (P := P) w S ty T inf E.sl hif g i cap cur hg ad m c ((xs.drop (i + 1)).flatMap enc) (by rw [hisz]; exact hln) (hcells ad had) hone (by omega) (by rw [hisz, hln]; exact hmk)
  rw [hisz] at hrun
  obtain ⟨h1, h2⟩ := Own.shiftK hk ho hg hi hl (w' := _) rfl
  subst had
  exact act_ev ⟨fun A hA => by simp [execOp, resolve, hA.ev hx, hA.ev hy, invoke, builtin, hrun]⟩ (h _ h1 h2)
theorem pv_slice_3 {ad : Option Addr} {m c e : Nat} {k1 k2 k3 : IntKind} {i j q : Int} (ht : slB P t e = true) (hx : ev l x = some (.slice ad m c)) (hy : ev l y = some (.int k1 i)) (hz : ev l z = some (.int k2 j)) (hz2 : ev l z2 = some (.int k3 q)) (h : 0 ≤ i ∧ i ≤ j ∧ j ≤ q ∧ q ≤ c) :
    Pv P n l ⟨d, .slice t x (some y) (some z) (some z2), ty, pos, af, gd⟩ (.slice (if q.toNat = i.toNat then ad else ad.map (·.add (i.toNat * e))) (j.toNat - i.toNat) (q.toNat - i.toNat)) w := ⟨fun A hA => by
  obtain ⟨r, h1, h2⟩ := slB_of ht
  have h3 : i ≤ max j 0 := by omega
  have h4 : j ≤ max q 0 := by omega
  have h5 : 0 ≤ j := by omega
  have h6 : 0 ≤ q := by omega
  simp [execOp, hA.ev hx, hA.ev hy, hA.ev hz, hA.ev hz2, Instr.sliceAt, Instr.slice, run_underlying h1, Instr.sliceBounds, Instr.sliceBound, asIntOf, h.1, h.2.2.2, h5, h6, sizeB_run h2]
  rw [if_pos h4, if_pos h3]⟩
end
end Go.Proofs.YtnffmbfdfhokeaaDoor
namespace Go.Proofs.YtnffmbfdfhokeaaDoor
open Go.RowKit Go.PlainAid

theorem zeroP (w : World) : (zeroValue 54).run Tryd.prog w = .ok (.agg #[.int .i64 0, .int .i64 0, .int .i64 0, .int .u8 0, .int .i64 0, .int .i64 0]) w := by kernel_rfl
theorem zeroL (w : World) : (zeroValue 56).run Tryd.prog w = .ok (.agg #[.int .i64 0, .int .i64 0, .int .i64 0, .int .i64 0]) w := by kernel_rfl
set_option maxRecDepth 20000 in
theorem indexf_P {xs : List Opn} {m : Nat} {ad : Option Addr} {cap : Nat} {w : World} (base : Nat) (p : Opn → Bool) (F : FuncId) (caps : Array Value) (he : entersB Tryd.prog F = true) (hbw : base ≤ w.heap.size) (hF : ∀ x, x ∈ xs → ∀ w', Below base w w' → Calls Tryd.prog F (#[] ++ [Value.agg (encP x).toArray].toArray ++ caps) w' fun e w'' => e = .returned (.bool (p x)) ∧ Below w'.heap.size w' w'') (hm : xs.length = m) (HS : SlR encP 6 w ad cap xs) : Calls Tryd.prog 83 #[.slice ad m cap, .func (.func F) #[] caps] w fun e w' => (∃ i, e = .returned (.int .i64 i) ∧ ((i = -1 ∧ ∀ x ∈ xs, p x = false) ∨ ∃ (k : Nat) (r : Opn), i = k ∧ xs[k]? = some r ∧ p r = true ∧ ∀ x ∈ xs.take k, p x = false)) ∧ Below w.heap.size w w' := by
  subst hm
  have hw := Below.refl w.heap.size w
  have hla := HS.le
  have hma := HS.max
  refine fn_enter 19 Tryd.func83 rfl rfl rfl ?_
  repeat' (first | (refine lw_pure rfl (pv_move rfl) ?_) | (refine lw_pure rfl (pv_assign rfl) ?_) | (refine is_cw ?_; first | (refine cw_seq ?_) | (refine cw_region ?_) | (refine cw_true rfl rfl ?_) | (refine cw_false rfl rfl ?_) | (refine is_cd ?_; refine cw_true rfl (by first | assumption | exact decide_eq_true (by omega) | exact dec_notT (by omega)) ?_) | (refine is_cd ?_; refine cw_false rfl (by first | assumption | exact decide_eq_false (by omega) | exact dec_notF (by omega)) ?_) | (refine cw_skip ?_) | (refine cw_block ?_) | (refine cw_exit ?_) | (refine cw_ret ?_)) | (refine is_qw ?_; first | (with_reducible refine qw_then ?_) | (with_reducible refine qw_in ?_) | (with_reducible refine qw_in_hit ?_) | (refine qw_in_miss rfl ?_) | (with_reducible refine qw_then_exit ?_) | (with_reducible refine qw_then_ret ?_) | (with_reducible refine qw_in_ret ?_)) | (refine lw_nil ?_) | ((refine is_bin ?_; first | (refine lw_pure rfl (pv_lss rfl rfl) ?_) | (refine lw_pure rfl (pv_inc rfl rfl (by omega)) ?_) | (refine lw_pure rfl (pv_add rfl rfl (by omega)) ?_))) | ((refine is_load ?_; first | (refine lw_pure rfl (pv_load (t1 rfl) rfl (by first | fail)) ?_) | (refine lw_pure rfl (pv_loada (tA rfl) rfl (by first | fail) (by rfl)) ?_))) | ((refine is_ia ?_; first | (refine lw_pure rfl (pv_ian (tS rfl) rfl rfl (by omega)) ?_) | (refine lw_pure rfl (pv_ia (tS rfl) rfl rfl (by omega)) ?_))) | ((refine is_bi ?_; first | (refine lw_pure rfl (pv_lenl (tS rfl) rfl) ?_) | (refine lw_pure rfl (pv_lens (tStr rfl) rfl) ?_))))
  refine cw_loop (σ := Nat) (fun k => [(0, .slice ad xs.length cap), (1, .func (.func F) #[] caps), (7, .int .i64 (xs.length : Nat)), (8, .int .i64 (k : Nat))]) (fun k wr => k ≤ xs.length ∧ Below w.heap.size w wr ∧ ∀ x ∈ xs.take k, p x = false) (fun k => xs.length - k) 0 (by repeat' (first | exact trivial | refine ⟨rfl, ?_⟩)) ⟨Nat.zero_le _, hw, by simp⟩ ?_
  clear hw
  rintro k wr ⟨hk, hw, hn⟩
  by_cases hlt : k < xs.length
  · have hxk : xs[k]? = some xs[k] := List.getElem?_eq_getElem hlt
    have hmem := List.getElem_mem hlt
    obtain ⟨ab, ao, rfl, -, -⟩ := HS.at (by intro h; rw [h] at hlt; simp at hlt)
    generalize xs[k] = x at hxk hmem
    repeat' (first | (refine lw_pure rfl (pv_move rfl) ?_) | (refine lw_pure rfl (pv_assign rfl) ?_) | (refine is_cw ?_; first | (refine cw_seq ?_) | (refine cw_region ?_) | (refine cw_true rfl rfl ?_) | (refine cw_false rfl rfl ?_) | (refine is_cd ?_; refine cw_true rfl (by first | assumption | exact decide_eq_true (by omega) | exact dec_notT (by omega)) ?_) | (refine is_cd ?_; refine cw_false rfl (by first | assumption | exact decide_eq_false (by omega) | exact dec_notF (by omega)) ?_) | (refine cw_skip ?_) | (refine cw_block ?_) | (refine cw_exit ?_) | (refine cw_ret ?_)) | (refine is_qw ?_; first | (with_reducible refine qw_then ?_) | (with_reducible refine qw_in ?_) | (with_reducible refine qw_in_hit ?_) | (refine qw_in_miss rfl ?_) | (with_reducible refine qw_then_exit ?_) | (with_reducible refine qw_then_ret ?_) | (with_reducible refine qw_in_ret ?_)) | (refine lw_nil ?_) | ((refine is_bin ?_; first | (refine lw_pure rfl (pv_lss rfl rfl) ?_) | (refine lw_pure rfl (pv_inc rfl rfl (by omega)) ?_) | (refine lw_pure rfl (pv_add rfl rfl (by omega)) ?_))) | ((refine is_load ?_; first | (refine lw_pure rfl (pv_load (t1 rfl) rfl (by first | exact SlR.ld (HS.mono hw) hxk rfl | exact SlR.ld1 (HS.mono hw) hxk rfl)) ?_) | (refine lw_pure rfl (pv_loada (tA rfl) rfl (by first | exact SlR.lda (HS.mono hw) hxk) (by rfl)) ?_))) | ((refine is_ia ?_; first | (refine lw_pure rfl (pv_ian (tS rfl) rfl rfl (by omega)) ?_) | (refine lw_pure rfl (pv_ia (tS rfl) rfl rfl (by omega)) ?_))) | ((refine is_bi ?_; first | (refine lw_pure rfl (pv_lenl (tS rfl) rfl) ?_) | (refine lw_pure rfl (pv_lens (tStr rfl) rfl) ?_))))
    refine lw_callv (f := F) rfl he rfl rfl (hF x hmem _ (hw.mono hbw)) ?_; rintro e w1 ⟨rfl, hb⟩; refine ⟨_, rfl, ?_⟩; replace hw := grow_trans hw hb; clear hb
    cases hp : p x with
    | true =>
      repeat' (first | (refine lw_pure rfl (pv_move rfl) ?_) | (refine lw_pure rfl (pv_assign rfl) ?_) | (refine is_cw ?_; first | (refine cw_seq ?_) | (refine cw_region ?_) | (refine cw_true rfl rfl ?_) | (refine cw_false rfl rfl ?_) | (refine is_cd ?_; refine cw_true rfl (by first | assumption | exact decide_eq_true (by omega) | exact dec_notT (by omega)) ?_) | (refine is_cd ?_; refine cw_false rfl (by first | assumption | exact decide_eq_false (by omega) | exact dec_notF (by omega)) ?_) | (refine cw_skip ?_) | (refine cw_block ?_) | (refine cw_exit ?_) | (refine cw_ret ?_)) | (refine is_qw ?_; first | (with_reducible refine qw_then ?_) | (with_reducible refine qw_in ?_) | (with_reducible refine qw_in_hit ?_) | (refine qw_in_miss rfl ?_) | (with_reducible refine qw_then_exit ?_) | (with_reducible refine qw_then_ret ?_) | (with_reducible refine qw_in_ret ?_)) | (refine lw_nil ?_) | ((refine is_bin ?_; first | (refine lw_pure rfl (pv_lss rfl rfl) ?_) | (refine lw_pure rfl (pv_inc rfl rfl (by omega)) ?_) | (refine lw_pure rfl (pv_add rfl rfl (by omega)) ?_))) | ((refine is_load ?_; first | (refine lw_pure rfl (pv_load (t1 rfl) rfl (by first | fail)) ?_) | (refine lw_pure rfl (pv_loada (tA rfl) rfl (by first | fail) (by rfl)) ?_))) | ((refine is_ia ?_; first | (refine lw_pure rfl (pv_ian (tS rfl) rfl rfl (by omega)) ?_) | (refine lw_pure rfl (pv_ia (tS rfl) rfl rfl (by omega)) ?_))) | ((refine is_bi ?_; first | (refine lw_pure rfl (pv_lenl (tS rfl) rfl) ?_) | (refine lw_pure rfl (pv_lens (tStr rfl) rfl) ?_))))
      exact qw_ret1 rfl rfl ⟨⟨_, rfl, Or.inr ⟨k, x, rfl, hxk, hp, hn⟩⟩, hw⟩
    | false =>
      repeat' (first | (refine lw_pure rfl (pv_move rfl) ?_) | (refine lw_pure rfl (pv_assign rfl) ?_) | (refine is_cw ?_; first | (refine cw_seq ?_) | (refine cw_region ?_) | (refine cw_true rfl rfl ?_) | (refine cw_false rfl rfl ?_) | (refine is_cd ?_; refine cw_true rfl (by first | assumption | exact decide_eq_true (by omega) | exact dec_notT (by omega)) ?_) | (refine is_cd ?_; refine cw_false rfl (by first | assumption | exact decide_eq_false (by omega) | exact dec_notF (by omega)) ?_) | (refine cw_skip ?_) | (refine cw_block ?_) | (refine cw_exit ?_) | (refine cw_ret ?_)) | (refine is_qw ?_; first | (with_reducible refine qw_then ?_) | (with_reducible refine qw_in ?_) | (with_reducible refine qw_in_hit ?_) | (refine qw_in_miss rfl ?_) | (with_reducible refine qw_then_exit ?_) | (with_reducible refine qw_then_ret ?_) | (with_reducible refine qw_in_ret ?_)) | (refine lw_nil ?_) | ((refine is_bin ?_; first | (refine lw_pure rfl (pv_lss rfl rfl) ?_) | (refine lw_pure rfl (pv_inc rfl rfl (by omega)) ?_) | (refine lw_pure rfl (pv_add rfl rfl (by omega)) ?_))) | ((refine is_load ?_; first | (refine lw_pure rfl (pv_load (t1 rfl) rfl (by first | fail)) ?_) | (refine lw_pure rfl (pv_loada (tA rfl) rfl (by first | fail) (by rfl)) ?_))) | ((refine is_ia ?_; first | (refine lw_pure rfl (pv_ian (tS rfl) rfl rfl (by omega)) ?_) | (refine lw_pure rfl (pv_ia (tS rfl) rfl rfl (by omega)) ?_))) | ((refine is_bi ?_; first | (refine lw_pure rfl (pv_lenl (tS rfl) rfl) ?_) | (refine lw_pure rfl (pv_lens (tStr rfl) rfl) ?_))))
      refine qw_round (k + 1) (by repeat' (first | exact trivial | refine ⟨rfl, ?_⟩)) ⟨by omega, hw, ?_⟩ (by omega)
      intro y hy
      rw [List.take_add_one, hxk] at hy
      rcases List.mem_append.1 hy with hy | hy
      · exact hn y hy
      · simp at hy; subst hy; exact hp
  · have hkl : k = xs.length := by omega
    subst hkl
    rw [List.take_length] at hn
    repeat' (first | (refine lw_pure rfl (pv_move rfl) ?_) | (refine lw_pure rfl (pv_assign rfl) ?_) | (refine is_cw ?_; first | (refine cw_seq ?_) | (refine cw_region ?_) | (refine cw_true rfl rfl ?_) | (refine cw_false rfl rfl ?_) | (refine is_cd ?_; refine cw_true rfl (by first | assumption | exact decide_eq_true (by omega) | exact dec_notT (by omega)) ?_) | (refine is_cd ?_; refine cw_false rfl (by first | assumption | exact decide_eq_false (by omega) | exact dec_notF (by omega)) ?_) | (refine cw_skip ?_) | (refine cw_block ?_) | (refine cw_exit ?_) | (refine cw_ret ?_)) | (refine is_qw ?_; first | (with_reducible refine qw_then ?_) | (with_reducible refine qw_in ?_) | (with_reducible refine qw_in_hit ?_) | (refine qw_in_miss rfl ?_) | (with_reducible refine qw_then_exit ?_) | (with_reducible refine qw_then_ret ?_) | (with_reducible refine qw_in_ret ?_)) | (refine lw_nil ?_) | ((refine is_bin ?_; first | (refine lw_pure rfl (pv_lss rfl rfl) ?_) | (refine lw_pure rfl (pv_inc rfl rfl (by omega)) ?_) | (refine lw_pure rfl (pv_add rfl rfl (by omega)) ?_))) | ((refine is_load ?_; first | (refine lw_pure rfl (pv_load (t1 rfl) rfl (by first | fail)) ?_) | (refine lw_pure rfl (pv_loada (tA rfl) rfl (by first | fail) (by rfl)) ?_))) | ((refine is_ia ?_; first | (refine lw_pure rfl (pv_ian (tS rfl) rfl rfl (by omega)) ?_) | (refine lw_pure rfl (pv_ia (tS rfl) rfl rfl (by omega)) ?_))) | ((refine is_bi ?_; first | (refine lw_pure rfl (pv_lenl (tS rfl) rfl) ?_) | (refine lw_pure rfl (pv_lens (tStr rfl) rfl) ?_))))
    exact qw_ret1 rfl rfl ⟨⟨_, rfl, Or.inl ⟨rfl, hn⟩⟩, hw⟩

set_option maxRecDepth 20000 in
theorem indexf_L {xs : List Lt} {m : Nat} {ad : Option Addr} {cap : Nat} {w : World} (base : Nat) (p : Lt → Bool) (F : FuncId) (caps : Array Value) (he : entersB Tryd.prog F = true) (hbw : base ≤ w.heap.size) (hF : ∀ x, x ∈ xs → ∀ w', Below base w w' → Calls Tryd.prog F (#[] ++ [Value.agg (encL x).toArray].toArray ++ caps) w' fun e w'' => e = .returned (.bool (p x)) ∧ Below w'.heap.size w' w'') (hm : xs.length = m) (HS : SlR encL 4 w ad cap xs) : Calls Tryd.prog 61 #[.slice ad m cap, .func (.func F) #[] caps] w fun e w' => (∃ i, e = .returned (.int .i64 i) ∧ ((i = -1 ∧ ∀ x ∈ xs, p x = false) ∨ ∃ (k : Nat) (r : Lt), i = k ∧ xs[k]? = some r ∧ p r = true ∧ ∀ x ∈ xs.take k, p x = false)) ∧ Below w.heap.size w w' := by
  subst hm
  have hw := Below.refl w.heap.size w
  have hla := HS.le
  have hma := HS.max
  refine fn_enter 19 Tryd.func61 rfl rfl rfl ?_
  repeat' (first | (refine lw_pure rfl (pv_move rfl) ?_) | (refine lw_pure rfl (pv_assign rfl) ?_) | (refine is_cw ?_; first | (refine cw_seq ?_) | (refine cw_region ?_) | (refine cw_true rfl rfl ?_) | (refine cw_false rfl rfl ?_) | (refine is_cd ?_; refine cw_true rfl (by first | assumption | exact decide_eq_true (by omega) | exact dec_notT (by omega)) ?_) | (refine is_cd ?_; refine cw_false rfl (by first | assumption | exact decide_eq_false (by omega) | exact dec_notF (by omega)) ?_) | (refine cw_skip ?_) | (refine cw_block ?_) | (refine cw_exit ?_) | (refine cw_ret ?_)) | (refine is_qw ?_; first | (with_reducible refine qw_then ?_) | (with_reducible refine qw_in ?_) | (with_reducible refine qw_in_hit ?_) | (refine qw_in_miss rfl ?_) | (with_reducible refine qw_then_exit ?_) | (with_reducible refine qw_then_ret ?_) | (with_reducible refine qw_in_ret ?_)) | (refine lw_nil ?_) | ((refine is_bin ?_; first | (refine lw_pure rfl (pv_lss rfl rfl) ?_) | (refine lw_pure rfl (pv_inc rfl rfl (by omega)) ?_) | (refine lw_pure rfl (pv_add rfl rfl (by omega)) ?_))) | ((refine is_load ?_; first | (refine lw_pure rfl (pv_load (t1 rfl) rfl (by first | fail)) ?_) | (refine lw_pure rfl (pv_loada (tA rfl) rfl (by first | fail) (by rfl)) ?_))) | ((refine is_ia ?_; first | (refine lw_pure rfl (pv_ian (tS rfl) rfl rfl (by omega)) ?_) | (refine lw_pure rfl (pv_ia (tS rfl) rfl rfl (by omega)) ?_))) | ((refine is_bi ?_; first | (refine lw_pure rfl (pv_lenl (tS rfl) rfl) ?_) | (refine lw_pure rfl (pv_lens (tStr rfl) rfl) ?_))))
  refine cw_loop (σ := Nat) (fun k => [(0, .slice ad xs.length cap), (1, .func (.func F) #[] caps), (7, .int .i64 (xs.length : Nat)), (8, .int .i64 (k : Nat))]) (fun k wr => k ≤ xs.length ∧ Below w.heap.size w wr ∧ ∀ x ∈ xs.take k, p x = false) (fun k => xs.length - k) 0 (by repeat' (first | exact trivial | refine ⟨rfl, ?_⟩)) ⟨Nat.zero_le _, hw, by simp⟩ ?_
  clear hw
  rintro k wr ⟨hk, hw, hn⟩
  by_cases hlt : k < xs.length
  · have hxk : xs[k]? = some xs[k] := List.getElem?_eq_getElem hlt
    have hmem := List.getElem_mem hlt
    obtain ⟨ab, ao, rfl, -, -⟩ := HS.at (by intro h; rw [h] at hlt; simp at hlt)
    generalize xs[k] = x at hxk hmem
    repeat' (first | (refine lw_pure rfl (pv_move rfl) ?_) | (refine lw_pure rfl (pv_assign rfl) ?_) | (refine is_cw ?_; first | (refine cw_seq ?_) | (refine cw_region ?_) | (refine cw_true rfl rfl ?_) | (refine cw_false rfl rfl ?_) | (refine is_cd ?_; refine cw_true rfl (by first | assumption | exact decide_eq_true (by omega) | exact dec_notT (by omega)) ?_) | (refine is_cd ?_; refine cw_false rfl (by first | assumption | exact decide_eq_false (by omega) | exact dec_notF (by omega)) ?_) | (refine cw_skip ?_) | (refine cw_block ?_) | (refine cw_exit ?_) | (refine cw_ret ?_)) | (refine is_qw ?_; first | (with_reducible refine qw_then ?_) | (with_reducible refine qw_in ?_) | (with_reducible refine qw_in_hit ?_) | (refine qw_in_miss rfl ?_) | (with_reducible refine qw_then_exit ?_) | (with_reducible refine qw_then_ret ?_) | (with_reducible refine qw_in_ret ?_)) | (refine lw_nil ?_) | ((refine is_bin ?_; first | (refine lw_pure rfl (pv_lss rfl rfl) ?_) | (refine lw_pure rfl (pv_inc rfl rfl (by omega)) ?_) | (refine lw_pure rfl (pv_add rfl rfl (by omega)) ?_))) | ((refine is_load ?_; first | (refine lw_pure rfl (pv_load (t1 rfl) rfl (by first | exact SlR.ld (HS.mono hw) hxk rfl | exact SlR.ld1 (HS.mono hw) hxk rfl)) ?_) | (refine lw_pure rfl (pv_loada (tA rfl) rfl (by first | exact SlR.lda (HS.mono hw) hxk) (by rfl)) ?_))) | ((refine is_ia ?_; first | (refine lw_pure rfl (pv_ian (tS rfl) rfl rfl (by omega)) ?_) | (refine lw_pure rfl (pv_ia (tS rfl) rfl rfl (by omega)) ?_))) | ((refine is_bi ?_; first | (refine lw_pure rfl (pv_lenl (tS rfl) rfl) ?_) | (refine lw_pure rfl (pv_lens (tStr rfl) rfl) ?_))))
    refine lw_callv (f := F) rfl he rfl rfl (hF x hmem _ (hw.mono hbw)) ?_; rintro e w1 ⟨rfl, hb⟩; refine ⟨_, rfl, ?_⟩; replace hw := grow_trans hw hb; clear hb
    cases hp : p x with
    | true =>
      repeat' (first | (refine lw_pure rfl (pv_move rfl) ?_) | (refine lw_pure rfl (pv_assign rfl) ?_) | (refine is_cw ?_; first | (refine cw_seq ?_) | (refine cw_region ?_) | (refine cw_true rfl rfl ?_) | (refine cw_false rfl rfl ?_) | (refine is_cd ?_; refine cw_true rfl (by first | assumption | exact decide_eq_true (by omega) | exact dec_notT (by omega)) ?_) | (refine is_cd ?_; refine cw_false rfl (by first | assumption | exact decide_eq_false (by omega) | exact dec_notF (by omega)) ?_) | (refine cw_skip ?_) | (refine cw_block ?_) | (refine cw_exit ?_) | (refine cw_ret ?_)) | (refine is_qw ?_; first | (with_reducible refine qw_then ?_) | (with_reducible refine qw_in ?_) | (with_reducible refine qw_in_hit ?_) | (refine qw_in_miss rfl ?_) | (with_reducible refine qw_then_exit ?_) | (with_reducible refine qw_then_ret ?_) | (with_reducible refine qw_in_ret ?_)) | (refine lw_nil ?_) | ((refine is_bin ?_; first | (refine lw_pure rfl (pv_lss rfl rfl) ?_) | (refine lw_pure rfl (pv_inc rfl rfl (by omega)) ?_) | (refine lw_pure rfl (pv_add rfl rfl (by omega)) ?_))) | ((refine is_load ?_; first | (refine lw_pure rfl (pv_load (t1 rfl) rfl (by first | fail)) ?_) | (refine lw_pure rfl (pv_loada (tA rfl) rfl (by first | fail) (by rfl)) ?_))) | ((refine is_ia ?_; first | (refine lw_pure rfl (pv_ian (tS rfl) rfl rfl (by omega)) ?_) | (refine lw_pure rfl (pv_ia (tS rfl) rfl rfl (by omega)) ?_))) | ((refine is_bi ?_; first | (refine lw_pure rfl (pv_lenl (tS rfl) rfl) ?_) | (refine lw_pure rfl (pv_lens (tStr rfl) rfl) ?_))))
      exact qw_ret1 rfl rfl ⟨⟨_, rfl, Or.inr ⟨k, x, rfl, hxk, hp, hn⟩⟩, hw⟩
    | false =>
      repeat' (first | (refine lw_pure rfl (pv_move rfl) ?_) | (refine lw_pure rfl (pv_assign rfl) ?_) | (refine is_cw ?_; first | (refine cw_seq ?_) | (refine cw_region ?_) | (refine cw_true rfl rfl ?_) | (refine cw_false rfl rfl ?_) | (refine is_cd ?_; refine cw_true rfl (by first | assumption | exact decide_eq_true (by omega) | exact dec_notT (by omega)) ?_) | (refine is_cd ?_; refine cw_false rfl (by first | assumption | exact decide_eq_false (by omega) | exact dec_notF (by omega)) ?_) | (refine cw_skip ?_) | (refine cw_block ?_) | (refine cw_exit ?_) | (refine cw_ret ?_)) | (refine is_qw ?_; first | (with_reducible refine qw_then ?_) | (with_reducible refine qw_in ?_) | (with_reducible refine qw_in_hit ?_) | (refine qw_in_miss rfl ?_) | (with_reducible refine qw_then_exit ?_) | (with_reducible refine qw_then_ret ?_) | (with_reducible refine qw_in_ret ?_)) | (refine lw_nil ?_) | ((refine is_bin ?_; first | (refine lw_pure rfl (pv_lss rfl rfl) ?_) | (refine lw_pure rfl (pv_inc rfl rfl (by omega)) ?_) | (refine lw_pure rfl (pv_add rfl rfl (by omega)) ?_))) | ((refine is_load ?_; first | (refine lw_pure rfl (pv_load (t1 rfl) rfl (by first | fail)) ?_) | (refine lw_pure rfl (pv_loada (tA rfl) rfl (by first | fail) (by rfl)) ?_))) | ((refine is_ia ?_; first | (refine lw_pure rfl (pv_ian (tS rfl) rfl rfl (by omega)) ?_) | (refine lw_pure rfl (pv_ia (tS rfl) rfl rfl (by omega)) ?_))) | ((refine is_bi ?_; first | (refine lw_pure rfl (pv_lenl (tS rfl) rfl) ?_) | (refine lw_pure rfl (pv_lens (tStr rfl) rfl) ?_))))
      refine qw_round (k + 1) (by repeat' (first | exact trivial | refine ⟨rfl, ?_⟩)) ⟨by omega, hw, ?_⟩ (by omega)
      intro y hy
      rw [List.take_add_one, hxk] at hy
      rcases List.mem_append.1 hy with hy | hy
      · exact hn y hy
      · simp at hy; subst hy; exact hp
  · have hkl : k = xs.length := by omega
    subst hkl
    rw [List.take_length] at hn
    repeat' (first | (refine lw_pure rfl (pv_move rfl) ?_) | (refine lw_pure rfl (pv_assign rfl) ?_) | (refine is_cw ?_; first | (refine cw_seq ?_) | (refine cw_region ?_) | (refine cw_true rfl rfl ?_) | (refine cw_false rfl rfl ?_) | (refine is_cd ?_; refine cw_true rfl (by first | assumption | exact decide_eq_true (by omega) | exact dec_notT (by omega)) ?_) | (refine is_cd ?_; refine cw_false rfl (by first | assumption | exact decide_eq_false (by omega) | exact dec_notF (by omega)) ?_) | (refine cw_skip ?_) | (refine cw_block ?_) | (refine cw_exit ?_) | (refine cw_ret ?_)) | (refine is_qw ?_; first | (with_reducible refine qw_then ?_) | (with_reducible refine qw_in ?_) | (with_reducible refine qw_in_hit ?_) | (refine qw_in_miss rfl ?_) | (with_reducible refine qw_then_exit ?_) | (with_reducible refine qw_then_ret ?_) | (with_reducible refine qw_in_ret ?_)) | (refine lw_nil ?_) | ((refine is_bin ?_; first | (refine lw_pure rfl (pv_lss rfl rfl) ?_) | (refine lw_pure rfl (pv_inc rfl rfl (by omega)) ?_) | (refine lw_pure rfl (pv_add rfl rfl (by omega)) ?_))) | ((refine is_load ?_; first | (refine lw_pure rfl (pv_load (t1 rfl) rfl (by first | fail)) ?_) | (refine lw_pure rfl (pv_loada (tA rfl) rfl (by first | fail) (by rfl)) ?_))) | ((refine is_ia ?_; first | (refine lw_pure rfl (pv_ian (tS rfl) rfl rfl (by omega)) ?_) | (refine lw_pure rfl (pv_ia (tS rfl) rfl rfl (by omega)) ?_))) | ((refine is_bi ?_; first | (refine lw_pure rfl (pv_lenl (tS rfl) rfl) ?_) | (refine lw_pure rfl (pv_lens (tStr rfl) rfl) ?_))))
    exact qw_ret1 rfl rfl ⟨⟨_, rfl, Or.inl ⟨rfl, hn⟩⟩, hw⟩






end Go.Proofs.YtnffmbfdfhokeaaDoor
namespace Go.Proofs
open Go.Shelf
def Tryd.sortI_ren : Go.Shelf.Ren := ⟨fun | 53 => 38 | 64 => 60 | 63 => 59 | 78 => 80 | 79 => 81 | 70 => 71 | 71 => 72 | 72 => 73 | 73 => 74 | 74 => 75 | 75 => 76 | 59 => 77 | 76 => 78 | 77 => 79 | 88 => 87 | 89 => 88 | 90 => 89 | 91 => 90 | 92 => 91 | 68 => 70 | 96 => 92 | n => n, fun | 22 => 32 | 23 => 2 | 3 => 3 | 51 => 109 | 0 => 0 | 67 => 135 | 69 => 120 | 4 => 4 | 61 => 128 | 60 => 127 | 44 => 132 | 5 => 5 | 9 => 9 | 75 => 143 | 79 => 147 | 83 => 149 | 84 => 150 | n => n, fun | n => n⟩
theorem Tryd.sortI : Go.Proofs.SlLaysN.n53 Tryd.prog Tryd.sortI_ren := {
  mixed := by kernel_rfl
  f53 := ⟨Tryd.f38.name, by decide, Tryd.func38.trans (congrArg some (by kernel_rfl))⟩
  f59 := ⟨Tryd.f77.name, by decide, Tryd.func77.trans (congrArg some (by kernel_rfl))⟩
  f63 := ⟨Tryd.f59.name, by decide, Tryd.func59.trans (congrArg some (by kernel_rfl))⟩
  f64 := Tryd.func60.trans (congrArg some (by kernel_rfl))
  f68 := ⟨Tryd.f70.name, by decide, Tryd.func70.trans (congrArg some (by kernel_rfl))⟩
  f70 := ⟨Tryd.f71.name, by decide, Tryd.func71.trans (congrArg some (by kernel_rfl))⟩
  f71 := ⟨Tryd.f72.name, by decide, Tryd.func72.trans (congrArg some (by kernel_rfl))⟩
  f72 := ⟨Tryd.f73.name, by decide, Tryd.func73.trans (congrArg some (by kernel_rfl))⟩
  f73 := ⟨Tryd.f74.name, by decide, Tryd.func74.trans (congrArg some (by kernel_rfl))⟩
  f74 := ⟨Tryd.f75.name, by decide, Tryd.func75.trans (congrArg some (by kernel_rfl))⟩
  f75 := ⟨Tryd.f76.name, by decide, Tryd.func76.trans (congrArg some (by kernel_rfl))⟩
  f76 := ⟨Tryd.f78.name, by decide, Tryd.func78.trans (congrArg some (by kernel_rfl))⟩
  f77 := ⟨Tryd.f79.name, by decide, Tryd.func79.trans (congrArg some (by kernel_rfl))⟩
  f78 := Tryd.func80.trans (congrArg some (by kernel_rfl))
  f79 := Tryd.func81.trans (congrArg some (by kernel_rfl))
  f88 := ⟨Tryd.f87.name, by decide, Tryd.func87.trans (congrArg some (by kernel_rfl))⟩
  f89 := Tryd.func88.trans (congrArg some (by kernel_rfl))
  f90 := Tryd.func89.trans (congrArg some (by kernel_rfl))
  f91 := ⟨Tryd.f90.name, by decide, Tryd.func90.trans (congrArg some (by kernel_rfl))⟩
  f92 := ⟨Tryd.f91.name, by decide, Tryd.func91.trans (congrArg some (by kernel_rfl))⟩
  f96 := ⟨Tryd.f92.name, by decide, Tryd.func92.trans (congrArg some (by kernel_rfl))⟩
  t0 := Tryd.underlying0
  a0 := Tryd.isAgg0
  z0 := Tryd.sizeOf0
  v0 := Tryd.zeroValue0
  t3 := Tryd.underlying3
  a3 := Tryd.isAgg3
  z3 := Tryd.sizeOf3
  v3 := Tryd.zeroValue3
  t4 := Tryd.underlying4
  a4 := Tryd.isAgg4
  z4 := Tryd.sizeOf4
  v4 := Tryd.zeroValue4
  t5 := Tryd.underlying5
  a5 := Tryd.isAgg5
  z5 := Tryd.sizeOf5
  v5 := Tryd.zeroValue5
  t9 := Tryd.underlying9
  a9 := Tryd.isAgg9
  z9 := Tryd.sizeOf9
  v9 := Tryd.zeroValue9
  t22 := Tryd.underlying32
  a22 := Tryd.isAgg32
  z22 := Tryd.sizeOf32
  v22 := Tryd.zeroValue32
  t23 := Tryd.underlying2
  a23 := Tryd.isAgg2
  z23 := Tryd.sizeOf2
  v23 := Tryd.zeroValue2
  t44 := Tryd.underlying132
  a44 := Tryd.isAgg132
  z44 := Tryd.sizeOf132
  v44 := Tryd.zeroValue132
  t51 := Tryd.underlying109
  a51 := Tryd.isAgg109
  z51 := Tryd.sizeOf109
  v51 := Tryd.zeroValue109
  t60 := Tryd.underlying127
  a60 := Tryd.isAgg127
  z60 := Tryd.sizeOf127
  v60 := Tryd.zeroValue127
  t61 := Tryd.underlying128
  a61 := Tryd.isAgg128
  z61 := Tryd.sizeOf128
  v61 := Tryd.zeroValue128
  t67 := Tryd.underlying135
  a67 := Tryd.isAgg135
  z67 := Tryd.sizeOf135
  v67 := Tryd.zeroValue135
  t69 := Tryd.underlying120
  a69 := Tryd.isAgg120
  z69 := Tryd.sizeOf120
  v69 := Tryd.zeroValue120
  t75 := Tryd.underlying143
  a75 := Tryd.isAgg143
  z75 := Tryd.sizeOf143
  v75 := Tryd.zeroValue143
  t79 := Tryd.underlying147
  a79 := Tryd.isAgg147
  z79 := Tryd.sizeOf147
  v79 := Tryd.zeroValue147
  t83 := Tryd.underlying149
  a83 := Tryd.isAgg149
  z83 := Tryd.sizeOf149
  v83 := Tryd.zeroValue149
  t84 := Tryd.underlying150
  a84 := Tryd.isAgg150
  z84 := Tryd.sizeOf150
  v84 := Tryd.zeroValue150 }
def Tryd.compI_ren : Go.Shelf.Ren := ⟨fun | 43 => 39 | n => n, fun | 22 => 32 | 23 => 2 | 3 => 3 | 4 => 4 | 0 => 0 | n => n, fun | n => n⟩
theorem Tryd.compI : Go.Proofs.SlLaysN.n43 Tryd.prog Tryd.compI_ren := {
  mixed := by kernel_rfl
  f43 := ⟨Tryd.f39.name, by decide, Tryd.func39.trans (congrArg some (by kernel_rfl))⟩
  t0 := Tryd.underlying0
  a0 := Tryd.isAgg0
  z0 := Tryd.sizeOf0
  v0 := Tryd.zeroValue0
  t3 := Tryd.underlying3
  a3 := Tryd.isAgg3
  z3 := Tryd.sizeOf3
  v3 := Tryd.zeroValue3
  t4 := Tryd.underlying4
  a4 := Tryd.isAgg4
  z4 := Tryd.sizeOf4
  v4 := Tryd.zeroValue4
  t22 := Tryd.underlying32
  a22 := Tryd.isAgg32
  z22 := Tryd.sizeOf32
  v22 := Tryd.zeroValue32
  t23 := Tryd.underlying2
  a23 := Tryd.isAgg2
  z23 := Tryd.sizeOf2
  v23 := Tryd.zeroValue2
  i23 := by kernel_rfl }
end Go.Proofs
namespace Go.Proofs.YtnffmbfdfhokeaaDoor
open Go.RowKit Go.Sort
variable {α : Type}

theorem Own.heapK {enc : α → List Value} {k : Nat} {T : TypeId} {base : Nat} {w : World} {g cap : Nat} {xs : List α} (h : Own enc k T base w (.slice (some ⟨g, 0, none⟩) xs.length cap) xs) : ∃ cur, base ≤ g ∧ w.heap[g]? = some (.cells cur T (0, 0)) ∧ xs.length ≤ cap ∧ cap ≤ maxLen ∧ cur.size = cap * k ∧ cur.toList.take (xs.length * k) = xs.flatMap enc := by
  obtain ⟨h1, h2⟩ := h
  rcases h2 with ⟨h2, _⟩ | ⟨g', cap', cur, e1, hb, hg, hle, hmax, hsz, htk⟩
  · cases h2
  · injection e1 with e1 _ e3
    injection e1 with e1; injection e1 with e1
    subst e1; subst e3
    exact ⟨cur, hb, hg, hle, hmax, hsz, htk⟩
variable [Inhabited α]

theorem flatK_get (enc : α → List Value) (k : Nat) (hk : ∀ x, (enc x).length = k) (d : Array α) (t : Nat) (ht : t < d.size * k) : (d.toList.flatMap enc)[t]? = some (flatK enc k d)[t]! := by
  have k0 : 0 < k := by rcases Nat.eq_zero_or_pos k with h | h; · subst h; simp at ht
                        · exact h
  have hq : t / k < d.size := Nat.div_lt_of_lt_mul (by rwa [Nat.mul_comm])
  have hr : t % k < k := Nat.mod_lt _ k0
  have hx : d.toList[t / k]? = some d[t / k]! := by rw [getElem!_pos d (t / k) hq]; simp [hq]
  have hv : (enc d[t / k]!)[t % k]? = some (enc d[t / k]!)[t % k]! := by rw [getElem!_pos (enc d[t / k]!) (t % k) (by rw [hk]; exact hr)]; exact List.getElem?_eq_getElem _
  have := flat_get enc k hk d.toList (t / k) _ (t % k) _ hx hv
  rw [Nat.div_add_mod' t k] at this
  rw [get_flatK enc k d t ht]; exact this

theorem Own.holdsK {enc : α → List Value} {k : Nat} (hk : ∀ x, (enc x).length = k) {T : TypeId} {base : Nat} {w : World} {g cap : Nat} {d : Array α} (h : Own enc k T base w (.slice (some ⟨g, 0, none⟩) d.toList.length cap) d.toList) : HoldsK enc k w g 0 d := by
  obtain ⟨cur, _, hg, hle, _, hsz, htk⟩ := Own.heapK h
  intro t ht
  rw [size_flatK] at ht
  have hf := flatK_get enc k hk d t ht
  rw [← htk, List.getElem?_take, if_pos (by simpa using ht)] at hf
  refine ⟨?_, by simp [World.frozen?, hg]⟩
  rw [Nat.zero_add, cell_of_row w g t cur T (0, 0) hg]
  simpa using hf
theorem Own.sorted {enc : α → List Value} {k : Nat} (hk : ∀ x, (enc x).length = k) {T : TypeId} {base : Nat} {w : World} {g cap : Nat} {xs : List α} (h : Own enc k T base w (.slice (some ⟨g, 0, none⟩) xs.length cap) xs) (d' : Array α) (hd : d'.size = xs.length) (n : Nat) (os : Array Obj) :
    Own enc k T base (sortWorldK enc k w g 0 n d' os) (.slice (some ⟨g, 0, none⟩) xs.length cap) d'.toList ∧ w.grownBy (sortWorldK enc k w g 0 n d' os) (some g) := by
  obtain ⟨cur, hb, hg, hle, hmax, hsz, htk⟩ := Own.heapK h
  have hgl : g < w.heap.size := (Array.getElem?_eq_some_iff.1 hg).1
  have hm := Nat.mul_le_mul_right k hle
  have e : (sortWorldK enc k w g 0 n d' os).heap = (w.heap.modify g (onCells (putCells id 0 (flatK enc k d')))) ++ os := rfl
  refine ⟨⟨by rw [flat_len enc k hk], Or.inr ⟨g, cap, putCells id 0 (flatK enc k d') cur, by simp [hd], hb, ?_, by simpa [hd] using hle, hmax, by simp [putCells, hsz], ?_⟩⟩, ⟨rfl, rfl, rfl, ?_, fun q hq hne => ?_⟩⟩
  · rw [e, Array.getElem?_append_left (by simpa using hgl), Array.getElem?_modify, if_pos rfl, hg]; rfl
  · refine List.ext_getElem? fun t => ?_
    rw [List.getElem?_take]
    by_cases ht : t < d'.toList.length * k
    · rw [if_pos ht]
      have ht' : t < d'.size * k := by simpa using ht
      have htc : t < cur.size := by rw [hsz]; rw [hd] at ht'; omega
      rw [flatK_get enc k hk d' t ht']
      simp only [putCells, Array.toList_mapIdx, List.getElem?_mapIdx, Array.getElem?_toList, Array.getElem?_eq_getElem htc, Option.map_some, size_flatK, Nat.zero_le, true_and, Nat.zero_add, Nat.sub_zero, id]
      rw [if_pos ht']
    · rw [if_neg ht, List.getElem?_eq_none (by rw [flat_len enc k hk]; omega)]
  · rw [e]; simp
  · rw [e, Array.getElem?_append_left (by simpa using hq), Array.getElem?_modify, if_neg (fun h => hne (by rw [h]))]
theorem perm_of {d d' : Array α} (h : PermIn 0 d.size d d') : d'.toList.Perm d.toList ∧ d'.size = d.size := by
  obtain ⟨hsz, _, hp⟩ := h
  have e1 : d'.extract 0 d.size = d' := by rw [← hsz]; exact Array.extract_size
  rw [e1, Array.extract_size] at hp
  exact ⟨hp, hsz⟩
theorem sortedList_of {lt : α → α → Bool} {d' : Array α} {n : Nat} (hn : d'.size = n) (h : SortedIn lt 0 n d') : d'.toList.Pairwise (fun x y => lt y x = false) := by
  rw [List.pairwise_iff_getElem]
  intro i j hi hj hij
  have hi' : i < d'.size := by simpa using hi
  have hj' : j < d'.size := by simpa using hj
  have := h i j (Nat.zero_le _) hij (by omega)
  rw [getElem!_pos d' j hj', getElem!_pos d' i hi'] at this
  simpa using this
end Go.Proofs.YtnffmbfdfhokeaaDoor
namespace Go.Proofs.YtnffmbfdfhokeaaDoor
open Go.RowKit Go.Sort Go.PlainAid

theorem cmpw_P {x y : Opn} : ltOf rowI x y = true ↔ keyO x y := by
  unfold ltOf; rw [decide_eq_true_eq, rowI_lt]
theorem cmpn_P {x y : Opn} : ltOf rowI x y = false ↔ ¬ keyO x y := by rw [← cmpw_P]; simp
theorem swo_P : SWO (ltOf rowI) where
  irrefl x := by rw [cmpn_P]; unfold keyO; omega
  trans x y z h1 h2 := by rw [cmpw_P] at *; unfold keyO at *; omega
  ntrans x y z h1 h2 := by rw [cmpn_P] at *; unfold keyO at *; omega

theorem cmpw_L {x y : Lt} : ltOf byI x y = true ↔ keyT x y := by
  unfold ltOf; rw [decide_eq_true_eq, byI_lt]
theorem cmpn_L {x y : Lt} : ltOf byI x y = false ↔ ¬ keyT x y := by rw [← cmpw_L]; simp
theorem swo_L : SWO (ltOf byI) where
  irrefl x := by rw [cmpn_L]; unfold keyT; omega
  trans x y z h1 h2 := by rw [cmpw_L] at *; unfold keyT at *; omega
  ntrans x y z h1 h2 := by rw [cmpn_L] at *; unfold keyT at *; omega

theorem encI_flat (S : List Int) : S.flatMap encI = S.map (Value.int .i64) := by
  induction S with
  | nil => rfl
  | cons x S ih => rw [List.flatMap_cons, ih]; rfl
theorem sort_I (base g cap : Nat) (ys : List Int) (w : World) (hown : Own encI 1 2 base w (.slice (some ⟨g, 0, none⟩) ys.length cap) ys) (hlen : ys.length ≤ 1000000) :
    Calls Tryd.prog 38 #[.slice (some ⟨g, 0, none⟩) ys.length cap] w fun e w' =>
      e = .returned (.tuple #[]) ∧ Own encI 1 2 base w' (.slice (some ⟨g, 0, none⟩) (ys.mergeSort fun x y => decide (x ≤ y)).length cap) (ys.mergeSort fun x y => decide (x ≤ y)) ∧ w.grownBy w' (some g) := by
  obtain ⟨cur, hb, hg, hle, hmax, hsz, htk⟩ := Own.heap' hown
  have hgl : g < w.heap.size := (Array.getElem?_eq_some_iff.1 hg).1
  have hH := holds_of_blockI (ss := ys) hg (by rw [← encI_flat, ← htk, Nat.mul_one])
  refine Calls.mono (R := _) (Go.Proofs.AnyG.slices_Sort_int Tryd.sortI g 0 cap ys w hH hgl (by omega)) ?_
  rintro e w' ⟨he, n, os, rfl⟩
  have hl : (ys.mergeSort fun x y => decide (x ≤ y)).length = ys.length := List.length_mergeSort _
  refine ⟨he, ?_, grownBy_sortedI _⟩
  have := ownsRow_sortedI (n := n) (os := os) (base := base) (cap := cap) (ts := ys.mergeSort fun x y => decide (x ≤ y)) hl hb hg hle hmax hsz
  unfold Own
  rw [encI_flat, hl]; exact this
theorem comp_I (base g cap : Nat) (ys : List Int) (w : World) (hown : Own encI 1 2 base w (.slice (some ⟨g, 0, none⟩) ys.length cap) ys) :
    Calls Tryd.prog 39 #[.slice (some ⟨g, 0, none⟩) ys.length cap] w fun e w' =>
      e = .returned (.slice (some ⟨g, 0, none⟩) (Lib.compact ys).length cap) ∧ w.grownBy w' (some g) := by
  obtain ⟨cur, hb, hg, hle, hmax, hsz, htk⟩ := Own.heap' hown
  have hH := holds_of_blockI (ss := ys) hg (by rw [← encI_flat, ← htk, Nat.mul_one])
  refine Calls.mono (R := _) (Go.Proofs.AnyG.slices_Compact_int Tryd.compI g 0 cap ys w hH (by unfold maxLen at hmax; omega) hle) ?_
  rintro e w' ⟨he, q, rfl⟩
  refine ⟨he, ?_⟩
  have := grownBy_sortedI (w := w) (g := g) (n := q) (os := #[]) (Lib.compact ys ++ List.replicate (ys.length - (Lib.compact ys).length) 0).toArray
  have e0 : ∀ W : World, grow W #[] = W := fun W => by unfold grow; simp
  rw [e0] at this
  exact this
theorem compact_len {ys : List Int} : (Lib.compact (ys.mergeSort fun x y => decide (x ≤ y))).length = ys.length ↔ ys.Nodup := by
  have hp := List.mergeSort_perm ys (fun x y => decide (x ≤ y))
  have hs : (ys.mergeSort fun x y => decide (x ≤ y)).Pairwise (fun x y => decide (x ≤ y) = true) := List.pairwise_mergeSort (fun a b c h1 h2 => by simp at *; omega) (fun a b => by simp; omega) ys
  generalize ys.mergeSort (fun x y => decide (x ≤ y)) = zs at hp hs
  rw [← hp.length_eq, ← hp.nodup_iff]
  unfold Lib.compact Lib.compactUpTo
  rw [List.length_map]
  have hl : (List.range zs.length).length = zs.length := List.length_range
  have key : ∀ j, j < zs.length → (Lib.keeps zs.toArray j = true ↔ j = 0 ∨ ∀ x y, zs[j]? = some x → zs[j - 1]? = some y → x ≠ y) := by
    intro j hj
    unfold Lib.keeps
    have h1 : zs.toArray[j]! = zs[j] := by simp [hj]
    have h2 : zs.toArray[j - 1]! = zs[j - 1]'(by omega) := by rw [getElem!_pos zs.toArray (j - 1) (by simp; omega)]; simp
    rw [h1, h2, decide_eq_true_eq, List.getElem?_eq_getElem hj, List.getElem?_eq_getElem (by omega : j - 1 < zs.length)]
    simp
  constructor
  · intro h
    have hall : ∀ j ∈ List.range zs.length, Lib.keeps zs.toArray j = true := by
      exact List.filter_eq_self.1 (List.Sublist.eq_of_length (List.filter_sublist (p := Lib.keeps zs.toArray)) (by rw [h, hl]))
    rw [List.nodup_iff_pairwise_ne]
    have hstrict : zs.Pairwise (· < ·) := by
      have step : ∀ k, (zs.take k).Pairwise (· < ·) := by
        intro k
        induction k with
        | zero => simp
        | succ k ih =>
          by_cases hk : k < zs.length
          · refine pwg_snoc (fun a b c h1 h2 => by omega) ih (List.getElem?_eq_getElem hk) ?_
            by_cases hk0 : k = 0
            · exact Or.inl hk0
            · right
              have hk1 : k - 1 < zs.length := by omega
              refine ⟨zs[k - 1], List.getElem?_eq_getElem hk1, ?_⟩
              have h1 := (key k hk).1 (hall k (List.mem_range.2 hk))
              rcases h1 with h1 | h1
              · exact absurd h1 hk0
              · have h2 := h1 _ _ (List.getElem?_eq_getElem hk) (List.getElem?_eq_getElem hk1)
                have h3 := pwg_get hs (show k - 1 < k by omega) (List.getElem?_eq_getElem hk1) (List.getElem?_eq_getElem hk)
                simp at h3
                omega
          · rw [List.take_of_length_le (by omega)] at ih ⊢; exact ih
      have := step zs.length
      rwa [List.take_length] at this
    exact hstrict.imp (fun h => by omega)
  · intro h
    rw [List.filter_eq_self.2, hl]
    intro j hj
    have hj' := List.mem_range.1 hj
    refine (key j hj').2 ?_
    by_cases hj0 : j = 0
    · exact Or.inl hj0
    · right
      intro x y hx hy e
      subst e
      exact pwg_get (List.nodup_iff_pairwise_ne.1 h) (show j - 1 < j by omega) hy hx rfl
set_option maxRecDepth 20000 in
theorem contains_L {xs : List Lt} {m : Nat} {ad : Option Addr} {cap : Nat} {w : World} (base : Nat) (p : Lt → Bool) (F : FuncId) (caps : Array Value) (he : entersB Tryd.prog F = true) (hbw : base ≤ w.heap.size) (hF : ∀ x, x ∈ xs → ∀ w', Below base w w' → Calls Tryd.prog F (#[] ++ [Value.agg (encL x).toArray].toArray ++ caps) w' fun e w'' => e = .returned (.bool (p x)) ∧ Below w'.heap.size w' w'') (hm : xs.length = m) (HS : SlR encL 4 w ad cap xs) : Calls Tryd.prog 40 #[.slice ad m cap, .func (.func F) #[] caps] w fun e w' => e = .returned (.bool (xs.any p)) ∧ Below w.heap.size w w' := by
  have hw := Below.refl w.heap.size w
  refine fn_enter 9 Tryd.func40 rfl rfl rfl ?_
  repeat' (first | (refine lw_pure rfl (pv_move rfl) ?_) | (refine lw_pure rfl (pv_assign rfl) ?_) | (refine is_cw ?_; first | (refine cw_seq ?_) | (refine cw_region ?_)) | (refine is_qw ?_; first | (with_reducible refine qw_then ?_)) | (refine lw_nil ?_))
  refine lw_call (f := 61) (by kernel_rfl) rfl rfl (indexf_L base p F caps he hbw hF hm HS) ?_; rintro e w1 ⟨⟨i, rfl, hi⟩, hb⟩; refine ⟨_, rfl, ?_⟩; replace hw := grow_trans hw hb; clear hb
  rcases hi with ⟨rfl, hn⟩ | ⟨i, r, rfl, hxi, hr, hn⟩
  · repeat' (first | (refine lw_pure rfl (pv_assign rfl) ?_) | (refine is_cw ?_; first | (refine cw_ret ?_)) | (refine is_qw ?_; first | (with_reducible refine qw_then ?_)) | (refine lw_nil ?_) | ((refine is_bin ?_; first | (refine lw_pure rfl (pv_geq rfl rfl) ?_))))
    refine qw_ret1 rfl rfl ⟨ret_bool ?_, hw⟩
    have : xs.any p = false := by rw [List.any_eq_false]; intro x hx; simp [hn x hx]
    rw [this]; rfl
  · repeat' (first | (refine lw_pure rfl (pv_assign rfl) ?_) | (refine is_cw ?_; first | (refine cw_ret ?_)) | (refine is_qw ?_; first | (with_reducible refine qw_then ?_)) | (refine lw_nil ?_) | ((refine is_bin ?_; first | (refine lw_pure rfl (pv_geq rfl rfl) ?_))))
    refine qw_ret1 rfl rfl ⟨ret_bool ?_, hw⟩
    have : xs.any p = true := by rw [List.any_eq_true]; exact ⟨r, List.mem_of_getElem? hxi, hr⟩
    rw [this]; simp

abbrev leI (x y : Int) : Bool := decide (x ≤ y)
theorem sort_any {base : Nat} {v : Value} {ys : List Int} {w : World} (hbw : base ≤ w.heap.size) (hown : Own encI 1 2 base w v ys) (hlen : ys.length ≤ 1000000) :
    Calls Tryd.prog 38 #[v] w fun e w' => e = .returned (.tuple #[]) ∧ Own encI 1 2 base w' v (ys.mergeSort leI) ∧ Below base w w' := by
  obtain ⟨a, cap, rfl, hs, hb⟩ := Own.slR encI_len hown
  cases ys with
  | nil =>
    refine Calls.mono (R := _) (Go.Proofs.AnyG.slices_Sort_int_none Tryd.sortI a cap w) ?_
    rintro e w' ⟨he, hw⟩
    subst hw
    exact ⟨he, by simpa using hown, Below.refl _ _⟩
  | cons y l =>
    obtain ⟨b, off, h1, _, _⟩ := hs.at (by simp)
    subst h1
    obtain ⟨hb1, hb2⟩ := hb _ rfl
    simp only at hb1 hb2; subst hb2
    refine (sort_I base b cap (y :: l) w hown hlen).mono fun e w' ⟨he, ho, hg⟩ => ⟨he, ?_, (Below.refl base w).grown hg hbw (fun k hk => by injection hk with hk; omega)⟩
    rw [List.length_mergeSort] at ho; exact ho
theorem comp_any {base : Nat} {v : Value} {ys : List Int} {w : World} (hbw : base ≤ w.heap.size) (hown : Own encI 1 2 base w v ys) :
    Calls Tryd.prog 39 #[v] w fun e w' => (∃ a c, e = .returned (.slice a (Lib.compact ys).length c)) ∧ Below base w w' := by
  obtain ⟨a, cap, rfl, hs, hb⟩ := Own.slR encI_len hown
  cases ys with
  | nil =>
    refine Calls.mono (R := _) (Go.Proofs.AnyG.slices_Compact_int_empty Tryd.compI a cap w) ?_
    rintro e w' ⟨he, hw⟩
    subst hw
    exact ⟨⟨a, cap, he⟩, Below.refl _ _⟩
  | cons y l =>
    obtain ⟨b, off, h1, _, _⟩ := hs.at (by simp)
    subst h1
    obtain ⟨hb1, hb2⟩ := hb _ rfl
    simp only at hb1 hb2; subst hb2
    exact (comp_I base b cap (y :: l) w hown).mono fun e w' ⟨he, hg⟩ => ⟨⟨_, _, he⟩, (Below.refl base w).grown hg hbw (fun k hk => by injection hk with hk; omega)⟩
theorem may_not {p : List Opn} {t : List Lt} (h : ¬ MayV p t) : Ending.returned (.bool false) = .returned (.bool (mayV p t)) := by rw [mayV_no.2 h]
set_option maxRecDepth 20000 in
set_option maxHeartbeats 4000000 in
theorem mayV_c {p : List Opn} {t : List Lt} {m n : Nat} {a b : Option Addr} {ca cb : Nat} {w : World} (hm : p.length = m) (hn : t.length = n) (HP : SlR encP 6 w a ca p) (HL : SlR encL 4 w b cb t) : Calls Tryd.prog 21 #[.slice a m ca, .slice b n cb] w fun e w' => e = .returned (.bool (mayV p t)) ∧ Below w.heap.size w w' := by
  subst hm hn
  have hw := Below.refl w.heap.size w
  have hca := HP.le
  have hcm := HP.max
  refine fn_enter 54 Tryd.func21 rfl rfl rfl ?_
  repeat' ((fail_if_success (refine is_seqb ?_)); (fail_if_success (refine is_blk ?_)); first | (refine lw_pure rfl (pv_move rfl) ?_) | (refine lw_pure rfl (pv_assign rfl) ?_) | (refine lw_call (f := 33) (by kernel_rfl) rfl rfl (rise_P rfl (HP.mono hw)) ?_; rintro e w1 ⟨rfl, hb⟩; refine ⟨_, rfl, ?_⟩; replace hw := grow_trans hw hb; clear hb) | (refine lw_call (f := 35) (by kernel_rfl) rfl rfl (rise_L rfl (HL.mono hw)) ?_; rintro e w1 ⟨rfl, hb⟩; refine ⟨_, rfl, ?_⟩; replace hw := grow_trans hw hb; clear hb) | (refine is_cw ?_; first | (refine cw_seq ?_) | (refine cw_region ?_) | (refine cw_true rfl rfl ?_) | (refine cw_skip ?_) | (refine cw_ret ?_)) | (refine is_qw ?_; first | (with_reducible refine qw_then ?_) | (with_reducible refine qw_then_ret ?_)) | (refine lw_nil ?_) | (refine is_guarded ?_; first | (refine lw_not rfl rfl rfl rfl ?_) | (refine lw_on rfl rfl (by first | assumption | exact decide_eq_true (by omega) | exact decide_eq_false (by omega) | exact dec_notT (by omega) | exact dec_notF (by omega)) ?_) | (refine lw_not rfl rfl rfl (by first | assumption | exact decide_eq_true (by omega) | exact decide_eq_false (by omega) | exact dec_notT (by omega) | exact dec_notF (by omega)) ?_) | (refine lw_gs_f rfl rfl rfl (fun hc => ?_) (fun hc => ?_) <;> (first | replace hc := of_decide_eq_true hc | replace hc := of_decide_eq_false hc | replace hc := dec_nT hc | replace hc := dec_nF hc | skip) <;> (try (exfalso; omega)))) | ((refine is_bin ?_; first | (refine lw_pure rfl (pv_gtr rfl rfl) ?_))) | ((refine is_un ?_; first | (refine lw_pure rfl (pv_not rfl) ?_))) | ((refine is_bi ?_; first | (refine lw_pure rfl (pv_lenl (tS rfl) rfl) ?_))) | (refine is_pk ?_; refine lw_pure rfl (pv_pick_t rfl rfl rfl) ?_) | (refine is_pk ?_; refine lw_pure rfl (pv_pick_t rfl (by first | assumption | exact decide_eq_true (by omega) | exact dec_notT (by omega)) rfl) ?_) | (refine is_pk ?_; refine lw_pure rfl (pv_pick_f rfl (by first | assumption | exact decide_eq_false (by omega) | exact dec_notF (by omega)) rfl) ?_) | (refine is_cw ?_; refine cw_split rfl (fun hc => ?_) (fun hc => ?_) <;> (first | replace hc := of_decide_eq_true hc | replace hc := of_decide_eq_false hc | replace hc := dec_nT hc | replace hc := dec_nF hc | skip) <;> (try (exfalso; omega))))
  all_goals first | (refine qw_ret1 rfl rfl ⟨may_not ?_, hw⟩; rintro ⟨h1, h2, h3, -⟩; first | omega | (exact absurd h2 (by assumption)) | (exact absurd h3 (by assumption))) | skip
  have hl : p.length ≤ 128 := by omega
  have h32 : t.length ≤ 32 := by omega
  have hp1 : p.Pairwise keyO := by assumption
  have ht1 : t.Pairwise keyT := by assumption
  repeat' (first | (refine is_cw ?_; first | (refine cw_block ?_)))
  refine cw_loop (σ := Nat × Value) (fun s => [(0, .slice a p.length ca), (1, .slice b t.length cb), (5, s.2), (26, .slice a p.length ca), (27, .int .i64 (p.length : Nat)), (28, .int .i64 (s.1 : Nat))]) (fun s wr => s.1 ≤ p.length ∧ Below w.heap.size w wr ∧ Own encI 1 2 w.heap.size wr s.2 ((p.take s.1).map (·.id)) ∧ ∀ j, j < s.1 → ∀ x, p[j]? = some x → MayO x) (fun s => p.length - s.1) (0, .slice none 0 0) (by repeat' (first | exact trivial | refine ⟨rfl, ?_⟩)) ⟨Nat.zero_le _, hw, Own.nil _, by omega⟩ ?_
  clear hw
  rintro ⟨k, v⟩ wr ⟨hk, hW, hO, hn⟩
  dsimp only at hk hO hn
  change CW _ _ _ _ [(0, .slice a p.length ca), (1, .slice b t.length cb), (5, v), (26, .slice a p.length ca), (27, .int .i64 (p.length : Nat)), (28, .int .i64 (k : Nat))] wr
  by_cases hlt : k < p.length
  · have hxk : p[k]? = some p[k] := List.getElem?_eq_getElem hlt
    obtain ⟨ab, ao, rfl, -, -⟩ := HP.at (by intro h; rw [h] at hlt; simp at hlt)
    generalize p[k] = x at hxk
    have HS := HP.mono hW
    have hw := Below.refl wr.heap.size wr
    repeat' (first | (refine is_cw ?_; first | (refine cw_seq ?_) | (refine cw_region ?_) | (refine is_cd ?_; refine cw_true rfl (by first | assumption | exact decide_eq_true (by omega) | exact dec_notT (by omega)) ?_) | (refine cw_skip ?_) | (refine cw_block ?_)) | (refine is_qw ?_; first | (with_reducible refine qw_then ?_)) | (refine lw_nil ?_) | ((refine is_bin ?_; first | (refine lw_pure rfl (pv_lss rfl rfl) ?_))) | ((refine is_load ?_; first | (refine lw_pure rfl (pv_loada (tA rfl) rfl (by first | exact SlR.lda (HS.mono hw) hxk) (by rfl)) ?_))) | ((refine is_ia ?_; first | (refine lw_pure rfl (pv_ian (tS rfl) rfl rfl (by omega)) ?_))))
    refine lw_varN rfl (by first | exact tyv_29 | exact tyv_30 | exact tyv_34 | exact tyv_35 | exact tyv_37 | exact tyv_43 | exact tyv_53 | exact tyv_54 | exact tyv_55 | exact tyv_56 | exact tyv_112 | exact tyv_113 | exact tyv_121 | exact tyv_122) rfl (tZ rfl) (fun _ => rfl) rfl rfl ?_; intro N wn hN HX hb; replace hN := Nat.le_trans hw.size hN; replace hw := grow_trans hw hb; clear hb
    replace hO := hO.mono hw
    have hW2 := grow_trans hW hw
    clear HS hW
    ; clear hw; have hw := Below.refl wn.heap.size wn
    repeat' (first | (refine lw_call (f := 37) (by kernel_rfl) rfl rfl (may_o x _) ?_; rintro e w1 ⟨rfl, hb⟩; refine ⟨_, rfl, ?_⟩; replace hw := grow_trans hw hb; clear hb) | (refine is_cw ?_; first | (refine cw_seq ?_) | (refine cw_region ?_)) | (refine is_qw ?_; first | (with_reducible refine qw_then ?_)) | (refine lw_nil ?_) | ((refine is_load ?_; first | (refine lw_pure rfl (pv_loada (tA rfl) rfl (by first | exact PT.lda (HX.mono hw)) (by rfl)) ?_))) | ((refine is_un ?_; first | (refine lw_pure rfl (pv_not rfl) ?_))))
    by_cases hx : MayO x
    · rw [decide_eq_true hx]
      have htl : ((p.take k).map (·.id)).length ≤ 128 := by rw [List.length_map, List.length_take]; omega
      have hWs := grow_trans hW2 hw
      repeat' (first | (refine lw_pure rfl (pv_move rfl) ?_) | (refine is_cw ?_; first | (refine cw_region ?_) | (refine cw_false rfl rfl ?_) | (refine cw_skip ?_)) | (refine is_qw ?_; first | (with_reducible refine qw_then ?_)) | ((refine is_load ?_; first | (refine lw_pure rfl (pv_load (t1 rfl) rfl (by first | exact PT.ld0 (HX.mono hw) rfl | exact PT.ld (HX.mono hw) rfl)) ?_))) | ((refine is_fa ?_; first | (refine lw_pure rfl (pv_fa (tF rfl) rfl) ?_))))
      refine lw_bs (vs := [.int .i64 x.id]) (cs := [.int .i64 x.id]) elemI rfl rfl rfl (by omega) (by omega) rfl (by simp [Value.cells]) ?_; intro w4 HB hb hz
      refine lw_app elemI encI_len encI_one rfl rfl rfl ((hO.mono hw).mono hb) (HB.slR (xs := [x.id]) encI_len rfl (by omega)) rfl (Nat.le_trans hWs.size hb.size) (by simp; omega) (by simp [maxLen]; omega) ?_; intro v5 w5 hO5 hg5 hb5
      repeat' (first | (refine lw_pure rfl (pv_move rfl) ?_) | (refine lw_pure rfl (pv_assign rfl) ?_) | (refine is_cw ?_; first | (refine cw_region ?_)) | (refine is_qw ?_; first | (with_reducible refine qw_then ?_) | (with_reducible refine qw_in ?_)) | (refine lw_nil ?_) | ((refine is_bin ?_; first | (refine lw_pure rfl (pv_inc rfl rfl (by omega)) ?_))))
      refine qw_round (k + 1, v5) (by repeat' (first | exact trivial | refine ⟨rfl, ?_⟩)) ⟨by show k + 1 ≤ _; omega, (grow_trans hWs hb).trans hb5, ?_, ?_⟩ (by show p.length - (k + 1) < p.length - k; omega)
      · show Own _ _ _ _ _ _ ((p.take (k + 1)).map (·.id))
        rw [List.take_add_one, hxk]; simpa using hO5
      · intro j hj y hy
        by_cases hjk : j = k
        · subst hjk; rw [hxk] at hy; injection hy with hy; subst hy; exact hx
        · exact hn j (by show j < k; have : j < k + 1 := hj; omega) y hy
    · rw [decide_eq_false hx]
      repeat' (first | (refine lw_pure rfl (pv_assign rfl) ?_) | (refine is_cw ?_; first | (refine cw_seq ?_) | (refine cw_region ?_) | (refine cw_true rfl rfl ?_) | (refine cw_ret ?_)) | (refine is_qw ?_; first | (with_reducible refine qw_then ?_) | (with_reducible refine qw_then_ret ?_) | (with_reducible refine qw_in_ret ?_)) | (refine lw_nil ?_))
      exact qw_ret1 rfl rfl ⟨may_not (fun hM => hx (hM.2.2.2.1 x (List.mem_of_getElem? hxk))), grow_trans hW2 hw⟩
  · have hkl : k = p.length := by omega
    subst hkl
    rw [List.take_length] at hO
    have hml : (p.map (·.id)).length = p.length := List.length_map ..
    have hw := Below.refl wr.heap.size wr
    repeat' (first | (refine lw_pure rfl (pv_move rfl) ?_) | (refine is_cw ?_; first | (refine cw_seq ?_) | (refine cw_region ?_) | (refine is_cd ?_; refine cw_false rfl (by first | assumption | exact decide_eq_false (by omega) | exact dec_notF (by omega)) ?_) | (refine cw_exit ?_)) | (refine is_qw ?_; first | (with_reducible refine qw_then ?_) | (with_reducible refine qw_in_hit ?_) | (with_reducible refine qw_then_exit ?_)) | (refine lw_nil ?_) | ((refine is_bin ?_; first | (refine lw_pure rfl (pv_lss rfl rfl) ?_))))
    refine lw_call (f := 38) (by kernel_rfl) rfl rfl (sort_any hW.size hO (by omega)) ?_; rintro e w1 ⟨rfl, hO1, hb1⟩; refine ⟨_, rfl, ?_⟩
    replace hW := hW.trans hb1
    repeat' (first | (refine lw_pure rfl (pv_move rfl) ?_) | (refine is_cw ?_; first | (refine cw_seq ?_) | (refine cw_region ?_)) | (refine is_qw ?_; first | (with_reducible refine qw_then ?_)) | (refine lw_nil ?_))
    refine lw_call (f := 39) (by kernel_rfl) rfl rfl (comp_any hW.size hO1) ?_; rintro e w2 ⟨⟨a2, c2, rfl⟩, hb2⟩; refine ⟨_, rfl, ?_⟩
    replace hW := hW.trans hb2
    have hcl := compact_len (ys := p.map (·.id))
    rw [hml] at hcl
    generalize hq : (Lib.compact ((p.map (·.id)).mergeSort leI)).length = q at hcl ⊢
    clear hw hb1 hb2
    have hw := Below.refl w2.heap.size w2
    by_cases hqe : q = p.length
    · have hnd := hcl.1 hqe
      subst hqe
      have hFc : ∀ x, x ∈ t → ∀ w', Below w2.heap.size w2 w' → Calls Tryd.prog 41 (#[] ++ [Value.agg (encL x).toArray].toArray ++ #[]) w' fun e w'' => e = .returned (.bool (!decide (MayL x))) ∧ Below w'.heap.size w' w'' := fun x _ w' _ => by
        have := mayF_c x w'
        simpa using this
      repeat' (first | (refine lw_pure rfl (pv_move rfl) ?_) | (refine lw_pure rfl (pv_assign rfl) ?_) | (refine lw_call (f := 40) (by kernel_rfl) rfl rfl (contains_L w2.heap.size (fun x => !decide (MayL x)) 41 #[] (by kernel_rfl) (Nat.le_refl _) hFc rfl ((HL.mono hW).mono hw)) ?_; rintro e w1 ⟨rfl, hb⟩; refine ⟨_, rfl, ?_⟩; replace hw := grow_trans hw hb; clear hb) | (refine is_cw ?_; first | (refine cw_ret ?_)) | (refine is_qw ?_; first | (with_reducible refine qw_then ?_)) | (refine lw_nil ?_) | (refine is_guarded ?_; first | (refine lw_on rfl rfl (by first | assumption | exact decide_eq_true (by omega) | exact decide_eq_false (by omega) | exact dec_notT (by omega) | exact dec_notF (by omega)) ?_)) | ((refine is_bin ?_; first | (refine lw_pure rfl (pv_eql rfl rfl) ?_))) | ((refine is_un ?_; first | (refine lw_pure rfl (pv_not rfl) ?_))) | ((refine is_bi ?_; first | (refine lw_pure rfl (pv_lenl (tS rfl) rfl) ?_))) | (refine is_pk ?_; refine lw_pure rfl (pv_pick_t rfl (by first | assumption | exact decide_eq_true (by omega) | exact dec_notT (by omega)) rfl) ?_))
      refine qw_ret1 rfl rfl ⟨?_, grow_trans hW hw⟩
      have hiff : mayV p t = !(t.any fun x => !decide (MayL x)) := by
        rw [Bool.eq_iff_iff, mayV_iff]
        simp only [Bool.not_eq_true', List.any_eq_false]
        exact ⟨fun h x hx => by simp [h.2.2.2.2.2 x hx], fun h => ⟨⟨hl, h32⟩, hp1, ht1, all_of_get hn, hnd, fun x hx => by simpa using h x hx⟩⟩
      rw [hiff]
    · have hnd : ¬ (p.map (·.id)).Nodup := fun h => hqe (hcl.2 h)
      repeat' (first | (refine lw_pure rfl (pv_move rfl) ?_) | (refine lw_pure rfl (pv_assign rfl) ?_) | (refine is_cw ?_; first | (refine cw_ret ?_)) | (refine is_qw ?_; first | (with_reducible refine qw_then ?_)) | (refine lw_nil ?_) | (refine is_guarded ?_; first | (refine lw_not rfl rfl rfl (by first | assumption | exact decide_eq_true (by omega) | exact decide_eq_false (by omega) | exact dec_notT (by omega) | exact dec_notF (by omega)) ?_)) | ((refine is_bin ?_; first | (refine lw_pure rfl (pv_eql rfl rfl) ?_))) | ((refine is_bi ?_; first | (refine lw_pure rfl (pv_lenl (tS rfl) rfl) ?_))) | (refine is_pk ?_; refine lw_pure rfl (pv_pick_f rfl (by first | assumption | exact decide_eq_false (by omega) | exact dec_notF (by omega)) rfl) ?_))
      exact qw_ret1 rfl rfl ⟨may_not (fun hM => hnd hM.2.2.2.2.1), grow_trans hW hw⟩
end Go.Proofs.YtnffmbfdfhokeaaDoor
namespace Go.Proofs.YtnffmbfdfhokeaaDoor
open Go.RowKit Go.PlainAid

structure EvC where
  v : Int
  kind : Int
  an : Option Addr
  mn : Nat
  cn : Nat
  ax : Option Addr
  mx : Nat
  cx : Nat
abbrev encV (x : EvC) : List Value := [.int .u8 x.v, .int .u8 x.kind, .slice x.an x.mn x.cn, .slice x.ax x.mx x.cx]
theorem encV_len (x : EvC) : (encV x).length = 4 := rfl
theorem encV_one (x : EvC) : ∀ v ∈ encV x, v.oneCell' = true := by intro v hv; simp at hv; rcases hv with rfl | rfl | rfl | rfl <;> rfl
structure EvR (w : World) (x : EvC) (e : Evt) : Prop where
  v : x.v = e.v
  kind : x.kind = e.kind
  mn : e.nums.length = x.mn
  mx : e.texts.length = x.mx
  nums : SlR encI 1 w x.an x.cn e.nums
  texts : SlR encT 1 w x.ax x.cx e.texts
  h8 : 0 ≤ e.kind ∧ e.kind ≤ 255
  tx : TxtIn e.texts
theorem EvR.mono {w w' : World} {x : EvC} {e : Evt} (h : EvR w x e) (hb : Below w.heap.size w w') : EvR w' x e := ⟨h.v, h.kind, h.mn, h.mx, h.nums.mono hb, h.texts.mono hb, h.h8, h.tx⟩
theorem is_seqr {P : Program} {n : Nat} {l : Fr} {w : World} {Q : Exit → Act → World → Prop} (i : Nat) {ops : Array Oper} {d : Bool} {y : Code} (h : CW P n (.seq (.region i ops d) y) Q l w) : CW P n (.seq (.region i ops d) y) Q l w := h
section
variable {k nb : Nat} {P : Program} {n : Nat} {l : Fr} {w : World} {Q : Exit → Act → World → Prop} {ops : Array Oper} {os : List Oper} {d : Nat} {ty : TypeId} {pos : String} {af : Array Edge} {S T : TypeId}
theorem lw_bsN (E : ElemT P S T k nb) {m : Nat} {ps : List (Nat × Operand)} {vs cs : List Value} (hd : Nat.blt d n = true) (hps : ps.map (·.1) = List.range m) (hvs : evs l (ps.map (·.2)) = some vs) (hp : 0 < m) (hs : m * k ≤ 16777216) (hcs : (vs.flatMap fun v => v.cells.toList) = cs) (h1 : ∀ v ∈ vs, v.cells.size = k)
    (h : ∀ N w', w.heap.size ≤ N → PT w' N T cs → Below w.heap.size w w' → LW P n ops Q os ((d, .slice (some ⟨N, 0, none⟩) m m) :: l) w') :
    LW P n ops Q (⟨some d, .buildSlice S m ps.toArray, ty, pos, af, none⟩ :: os) l w :=
  lw_bs E hd hps hvs hp hs hcs h1 fun w' hp hb _ => h _ w' (Nat.le_refl _) hp hb
end
theorem tx_nil : TxtIn [] := fun x hx => by cases hx
end Go.Proofs.YtnffmbfdfhokeaaDoor
namespace Go.Proofs.YtnffmbfdfhokeaaDoor
open Go.ChangeShapes Go.WideShapes Go.ChangeAt Go.RowKit Go.Deep Go.WideElems Go.Joins
section
variable {H : Type} {enc : TypeId × Value → H} {W : World} {base : Nat} {sp : Nat → Bool} {held : Bool} {b0 : Nat} {v : Value} {d : DataW H} {p : List MemPlace}
theorem trod_u8 {P : Program} {w : World} {spare : Nat → Bool} {fuel : Nat} {t : TypeId} {c : Value} {x : DataW H × List MemPlace} (ht : P.underlying t = some (.int .u8)) (h : DataW.trod enc P w base spare held fuel t [c] = some x) : ∃ n : Int, c = .int .u8 n ∧ 0 ≤ n ∧ n ≤ 255 := by
  obtain ⟨n, e, _, hw⟩ := DataW.trod_int (k := .u8) ht h
  simp only [List.cons.injEq, and_true] at e
  simp only [Lit.wf, Bool.and_eq_true, decide_eq_true_eq] at hw
  exact ⟨n, e, hw⟩
theorem lot_dec (n : Nat) (cs : List Value) (y : DataW H × List MemPlace) (h : DataW.trod enc Tryd.prog W base sp held n 56 cs = some y) : ∃ r : Lt, cs = encL r ∧ True := by
  obtain ⟨c0, c1, c2, c3, y0, y1, y2, y3, n', rfl, h0, h1, h2, h3⟩ := trod_struct4 Tryd.underlying56 ⟨rfl, rfl, rfl, rfl⟩ ⟨by kernel_rfl, by kernel_rfl, by kernel_rfl, by kernel_rfl⟩ (by kernel_rfl) h
  obtain ⟨a, rfl, _⟩ := trod_i64 Tryd.underlying2 h0
  obtain ⟨s, rfl, _⟩ := trod_i64 Tryd.underlying3 h1
  obtain ⟨f, rfl, _⟩ := trod_i64 Tryd.underlying3 h2
  obtain ⟨g, rfl, _⟩ := trod_i64 Tryd.underlying2 h3
  exact ⟨⟨a, s, f, g⟩, rfl, trivial⟩
set_option maxRecDepth 20000 in
theorem open_dec (n : Nat) (cs : List Value) (y : DataW H × List MemPlace) (h : DataW.trod enc Tryd.prog W base sp held n 54 cs = some y) : ∃ r : Opn, cs = encP r ∧ True := by
  obtain ⟨xs, m, _, rfl, hl, hlen, hf⟩ := DataW.trod_struct Tryd.underlying54 h
  rw [show Tryd.prog.cellsOf 54 = 6 by kernel_rfl] at hl
  match xs, hlen, cs, hl with
  | [y0, y1, y2, y3, y4, y5], _, [c0, c1, c2, c3, c4, c5], _ =>
    obtain ⟨a, rfl, _⟩ := trod_i64 (c := c0) Tryd.underlying3 (hf 0 _ rfl)
    obtain ⟨b, rfl, _⟩ := trod_i64 (c := c1) Tryd.underlying2 (hf 1 _ rfl)
    obtain ⟨i, rfl, _⟩ := trod_i64 (c := c2) Tryd.underlying3 (hf 2 _ rfl)
    obtain ⟨s, rfl, _⟩ := trod_u8 (c := c3) Tryd.underlying5 (hf 3 _ rfl)
    obtain ⟨q, rfl, _⟩ := trod_i64 (c := c4) Tryd.underlying2 (hf 4 _ rfl)
    obtain ⟨l, rfl, _⟩ := trod_i64 (c := c5) Tryd.underlying2 (hf 5 _ rfl)
    exact ⟨⟨a, b, i, s, q, l⟩, rfl, trivial⟩
theorem int_dec (n : Nat) (cs : List Value) (y : DataW H × List MemPlace) (h : DataW.trod enc Tryd.prog W base sp held n 2 cs = some y) : ∃ r : Int, cs = encI r ∧ True := by
  obtain ⟨a, e, _⟩ := DataW.trod_int (k := .i64) Tryd.underlying2 h
  exact ⟨a, e, trivial⟩
theorem txt_dec (n : Nat) (cs : List Value) (y : DataW H × List MemPlace) (h : DataW.trod enc Tryd.prog W base sp held n 9 cs = some y) : ∃ r : ByteArray, cs = encT r ∧ y.1 = .lit (.string r.data.toList) := by
  obtain ⟨s, e, x, _⟩ := DataW.trod_string Tryd.underlying9 h
  exact ⟨s, e, by rw [x]⟩
set_option maxRecDepth 20000 in
theorem lots_open (hv : Value.okWide Tryd.prog W .any b0 24 v) (h : DataW.Trod enc Tryd.prog W base sp held 24 v d p) : ∃ a cap, ∃ xs : List Lt, v = .slice a xs.length cap ∧ SlR encL 4 W a cap xs ∧ ∀ x ∈ xs, True :=
  open_slP encL 4 (fun _ => True) encL_len Tryd.underlying24 (by kernel_rfl) lot_dec hv h
set_option maxRecDepth 20000 in
theorem opens_open (hv : Value.okWide Tryd.prog W .any b0 23 v) (h : DataW.Trod enc Tryd.prog W base sp held 23 v d p) : ∃ a cap, ∃ xs : List Opn, v = .slice a xs.length cap ∧ SlR encP 6 W a cap xs ∧ ∀ x ∈ xs, True :=
  open_slP encP 6 (fun _ => True) encP_len Tryd.underlying23 (by kernel_rfl) open_dec hv h
end
section
variable {H : Type} {enc : TypeId × Value → H} {P : Program} {w : World} {base : Nat} {spare : Nat → Bool} {held : Bool}
theorem open_slQ {α : Type} (encE : α → List Value) (k : Nat) (Pr : α → DataW H → Prop) {r : Reach} {b0 : Nat} {t e : TypeId} {v : Value} {d : DataW H} {p : List MemPlace} (hk : ∀ x, (encE x).length = k) (ht : P.underlying t = some (.slice e)) (hC : P.cellsOf e = k)
    (hdec : ∀ n cs y, DataW.trod enc P w base spare held n e cs = some y → ∃ x : α, cs = encE x ∧ Pr x y.1)
    (hv : Value.okWide P w r b0 t v) (h : DataW.Trod enc P w base spare held t v d p) : ∃ a cap, ∃ xs : List α, v = .slice a xs.length cap ∧ SlR encE k w a cap xs ∧ ∀ x ∈ xs, ∃ ds rest, d = .slice ds rest ∧ ∃ y ∈ ds, Pr x y := by
  rcases okWide_slice_ok ht hv with rfl | ⟨a, len, cap, rfl, hlc, hmax, hsp, hlt⟩
  · exact ⟨none, 0, [], rfl, SlR.nil w, by simp⟩
  · obtain ⟨fuel, hf⟩ := h
    rcases open_slice ht hf with ⟨h0, _⟩ | ⟨a', len', cap', m, n, D, Pl, hcs, hb, hl, hm, hmm, hx, hi⟩
    · simp [Value.cells] at h0
    · simp only [Value.cells, List.cons.injEq, Value.slice.injEq, Option.some.injEq, and_true] at hcs
      obtain ⟨rfl, rfl, rfl⟩ := hcs
      have hlm : len ≤ m := by rw [hmm]; split <;> omega
      have hE : ∀ i, i < len → ∃ x : α, w.cells? base (a.add (i * P.cellsOf e)) (P.cellsOf e) = some (encE x) ∧ Pr x (D i) := fun i h => by
        obtain ⟨cs', h1, h2⟩ := hi i (by omega)
        obtain ⟨x, rfl, hp⟩ := hdec _ _ _ h2
        exact ⟨x, h1, hp⟩
      have hL : ∀ m, m ≤ len → ∃ xs : List α, xs.length = m ∧ (∀ j x, xs[j]? = some x → w.cells? base (a.add (j * P.cellsOf e)) (P.cellsOf e) = some (encE x)) ∧ ∀ x ∈ xs, ∃ i, i < len ∧ Pr x (D i) := by
        intro m hm
        induction m with
        | zero => exact ⟨[], rfl, fun j x hx => by simp at hx, by simp⟩
        | succ m ih =>
          obtain ⟨xs, h1, h2, h3⟩ := ih (by omega)
          obtain ⟨x, hx, hp⟩ := hE m (by omega)
          refine ⟨xs ++ [x], by simp [h1], fun j y hy => ?_, fun y hy => ?_⟩
          · by_cases hj : j < xs.length
            · rw [List.getElem?_append_left hj] at hy; exact h2 j y hy
            · rw [List.getElem?_append_right (by omega)] at hy
              have : j - xs.length = 0 := by
                have := (List.getElem?_eq_some_iff.1 hy).1; simp at this; omega
              rw [this] at hy; simp at hy; subst hy
              have : j = m := by omega
              subst this; exact hx
          · rcases List.mem_append.1 hy with hy | hy
            · exact h3 y hy
            · simp at hy; subst hy; exact ⟨m, by omega, hp⟩
      obtain ⟨xs, hlen, hxs, hpr⟩ := hL len (Nat.le_refl _)
      refine ⟨some a, cap, xs, by rw [hlen], ⟨by omega, hmax, (fun h => by cases h), fun ad had _ => ?_⟩, fun x hx2 => ?_⟩
      · cases had
        refine ⟨hsp, hlt, fun j x hx i v hv => ?_⟩
        obtain ⟨_, h1, h2⟩ := World.cells?_some (hxs j x hx)
        have hik : i < k := by have := (List.getElem?_eq_some_iff.1 hv).1; rwa [hk] at this
        have h3 := h2 i (by rw [hC]; exact hik)
        rw [hv] at h3
        obtain ⟨b, off, sp⟩ := a
        simp only at hsp; subst hsp
        rw [hC] at h3
        rwa [Addr.add_lit, Addr.add_lit] at h3
      · obtain ⟨i, hi2, hp⟩ := hpr x hx2
        simp only [Prod.mk.injEq] at hx
        exact ⟨_, _, hx.1, D i, List.mem_map.2 ⟨i, List.mem_range.2 hi2, rfl⟩, hp⟩
theorem mem_weightsAll {e : TypeId} {n : Nat} {y : DataW H} (hn : n ∈ DataW.weights P e y) : ∀ {ds : List (DataW H)}, y ∈ ds → n ∈ DataW.weightsAll P e ds
  | [], h => by cases h
  | d :: r, h => by
    rw [DataW.weightsAll]
    rcases List.mem_cons.1 h with rfl | h
    · exact List.mem_append_left _ hn
    · exact List.mem_append_right _ (mem_weightsAll hn h)
end
section
variable {H : Type} {enc : TypeId × Value → H} {W : World} {base : Nat} {sp : Nat → Bool} {held : Bool} {b0 : Nat} {v : Value} {d : DataW H} {p : List MemPlace}
set_option maxRecDepth 20000 in
theorem nums_open (hv : Value.okWide Tryd.prog W .any b0 32 v) (h : DataW.Trod enc Tryd.prog W base sp held 32 v d p) : ∃ a cap, ∃ xs : List Int, v = .slice a xs.length cap ∧ SlR encI 1 W a cap xs ∧ ∀ x ∈ xs, True :=
  open_slP encI 1 (fun _ => True) encI_len Tryd.underlying32 (by kernel_rfl) int_dec hv h
set_option maxRecDepth 20000 in
theorem texts_open (hv : Value.okWide Tryd.prog W .any b0 33 v) (h : DataW.Trod enc Tryd.prog W base sp held 33 v d p) : ∃ a cap, ∃ xs : List ByteArray, v = .slice a xs.length cap ∧ SlR encT 1 W a cap xs ∧ ∀ x ∈ xs, x.size ∈ DataW.weights Tryd.prog 33 d := by
  obtain ⟨a, cap, xs, h1, h2, h3⟩ := open_slQ encT 1 (fun x y => y = .lit (.string x.data.toList)) (fun _ => rfl) Tryd.underlying33 (by kernel_rfl) txt_dec hv h
  refine ⟨a, cap, xs, h1, h2, fun x hx => ?_⟩
  obtain ⟨ds, rest, rfl, y, hy, rfl⟩ := h3 x hx
  rw [DataW.weights, Tryd.underlying33]
  refine List.mem_cons_of_mem _ (List.mem_append_left _ (mem_weightsAll ?_ hy))
  rw [DataW.weights]
  exact List.mem_singleton.2 Array.length_toList.symm
set_option maxRecDepth 20000 in
theorem ev_open (hv : Value.okWide Tryd.prog W .any b0 35 v) (h : DataW.Trod enc Tryd.prog W base sp held 35 v d p) (hwt : ∀ n ∈ DataW.weights Tryd.prog 35 d, n ≤ reachBytes) : ∃ x e, v = .agg (encV x).toArray ∧ EvR W x e := by
  obtain ⟨⟨cs⟩, rfl, hsz⟩ := okWide_struct Tryd.underlying35 hv
  have hrow : Row.okWide Tryd.prog W .any b0 35 ⟨cs⟩ := by
    have hv2 := hv
    simp only [Value.okWide, Tryd.underlying35] at hv2
    obtain ⟨cs2, h1, _, h3⟩ := hv2
    injection h1 with h1
    rw [h1]; exact h3
  obtain ⟨ts, hts, -, hcell⟩ := hrow
  obtain rfl := Option.some.inj ((show Tryd.prog.cellTypes Tryd.prog.depth 35 = some [5, 5, 32, 33] by kernel_rfl).symm.trans hts)
  obtain ⟨fuel, hf⟩ := h
  obtain ⟨xs, m, _, hx, hl, hlen, hfi⟩ := DataW.trod_struct Tryd.underlying35 hf
  rw [show Tryd.prog.cellsOf 35 = 4 by kernel_rfl] at hl
  have hl2 : cs.length = 4 := hl
  match xs, hlen, cs, hl2 with
  | [y0, y1, y2, y3], _, [c0, c1, c2, c3], _ =>
    obtain ⟨a, rfl, _⟩ := trod_u8 (c := c0) Tryd.underlying5 (hfi 0 _ rfl)
    obtain ⟨b, rfl, hb1, hb2⟩ := trod_u8 (c := c1) Tryd.underlying5 (hfi 1 _ rfl)
    simp only [Prod.mk.injEq] at hx
    obtain ⟨rfl, -⟩ := hx
    have k2 : Value.okWide Tryd.prog W .any b0 32 c2 := by
      obtain ⟨u, hu, hc⟩ := hcell 2 c2 rfl
      obtain rfl := Option.some.inj (show some 32 = some u from hu)
      simp only [Value.okWide, Tryd.underlying32]; exact hc
    have k3 : Value.okWide Tryd.prog W .any b0 33 c3 := by
      obtain ⟨u, hu, hc⟩ := hcell 3 c3 rfl
      obtain rfl := Option.some.inj (show some 33 = some u from hu)
      simp only [Value.okWide, Tryd.underlying33]; exact hc
    have g2 : DataW.trod enc Tryd.prog W base sp held m 32 [c2] = some y2 := hfi 2 _ rfl
    have g3 : DataW.trod enc Tryd.prog W base sp held m 33 [c3] = some y3 := hfi 3 _ rfl
    obtain ⟨i2, j2, m2, rfl⟩ := okWide_slice Tryd.underlying32 k2
    obtain ⟨i3, j3, m3, rfl⟩ := okWide_slice Tryd.underlying33 k3
    obtain ⟨a2, q2, ns, e2, S2, -⟩ := nums_open (d := y2.1) (p := y2.2) k2 ⟨m, g2⟩
    obtain ⟨a3, q3, tx, e3, S3, w3⟩ := texts_open (d := y3.1) (p := y3.2) k3 ⟨m, g3⟩
    injection e2 with e4 e5 e6
    injection e3 with e7 e8 e9
    subst e4 e5 e6 e7 e8 e9
    refine ⟨⟨a, b, _, _, _, _, _, _⟩, ⟨a, b, ns, tx⟩, rfl, ⟨rfl, rfl, rfl, rfl, S2, S3, ⟨hb1, hb2⟩, fun s hs => ?_⟩⟩
    have h5 := hwt s.size (by
      rw [DataW.weights, Tryd.underlying35]
      have h6 := w3 s hs
      simp only [List.map_cons, List.map_nil, DataW.weightsEach]
      exact List.mem_append_right _ (List.mem_append_right _ (List.mem_append_right _ (List.mem_append_left _ h6))))
    have h7 : reachBytes ≤ 140737488355328 := by decide
    exact Nat.le_trans h5 h7
end
end Go.Proofs.YtnffmbfdfhokeaaDoor
namespace Go.Proofs.YtnffmbfdfhokeaaDoor
open Go.RowKit Go.PlainAid

structure Ln where
  acct : Int
  seq : Int
  kind : Int
  delta : Int
  bal : Int
deriving DecidableEq, Inhabited
def encN (x : Ln) : List Value := [.int .i64 x.acct, .int .i64 x.seq, .int .u8 x.kind, .int .i64 x.delta, .int .i64 x.bal]
theorem encN_len (x : Ln) : (encN x).length = 5 := rfl
theorem encN_one (x : Ln) : ∀ v ∈ encN x, v.oneCell' = true := by intro v hv; simp [encN] at hv; rcases hv with rfl | rfl | rfl | rfl | rfl <;> rfl
def balL (l : List Ln) (a : Int) : Int := l.foldl (fun b x => if x.acct = a then x.bal else b) 0
theorem balL_nil (a : Int) : balL [] a = 0 := rfl
theorem balL_snoc (l : List Ln) (x : Ln) (a : Int) : balL (l ++ [x]) a = if x.acct = a then x.bal else balL l a := by unfold balL; rw [List.foldl_append]; rfl
def seqL (l : List Ln) : Int := (l.getLast?.map (·.seq)).getD 0
theorem seqL_snoc (l : List Ln) (x : Ln) : seqL (l ++ [x]) = x.seq := by unfold seqL; simp
def kindB (k : Int) : Bool := decide (k = 6 ∨ k = 7 ∨ k = 13 ∨ k = 18 ∨ k = 21)
def OkLn (l : List Ln) (x : Ln) : Prop := (1 ≤ x.acct ∧ x.acct ≤ 64) ∧ (0 ≤ x.seq ∧ x.seq < 1048576) ∧ seqL l ≤ x.seq ∧ kindB x.kind = true ∧ x.delta ≠ 0 ∧ (0 ≤ x.bal ∧ x.bal ≤ 1125899906842624) ∧ balL l x.acct + x.delta = x.bal
instance (l : List Ln) (x : Ln) : Decidable (OkLn l x) := inferInstanceAs (Decidable (_ ∧ _))
def mayLn (l : List Ln) : Bool := (List.range l.length).all fun i => match l[i]? with
  | some x => decide (OkLn (l.take i) x)
  | none => true
theorem mayLn_iff {l : List Ln} : mayLn l = true ↔ ∀ (i : Nat) x, l[i]? = some x → OkLn (l.take i) x := by
  unfold mayLn
  rw [List.all_eq_true]
  constructor
  · intro h i x hx
    have := h i (List.mem_range.2 (List.getElem?_eq_some_iff.1 hx).1)
    rw [hx] at this
    exact of_decide_eq_true this
  · intro h i hi
    have hi := List.mem_range.1 hi
    rw [List.getElem?_eq_getElem hi]
    exact decide_eq_true (h i _ (List.getElem?_eq_getElem hi))
theorem mayLn_no {l : List Ln} {i : Nat} {x : Ln} (hx : l[i]? = some x) (h : ¬ OkLn (l.take i) x) : mayLn l = false := by
  rw [Bool.eq_false_iff]
  exact fun e => h (mayLn_iff.1 e i x hx)
theorem mayLn_nil : mayLn [] = true := rfl
theorem mayLn_snoc {l : List Ln} {x : Ln} (h : mayLn l = true) (hx : OkLn l x) : mayLn (l ++ [x]) = true := by
  rw [mayLn_iff] at h ⊢
  intro i y hy
  by_cases hi : i < l.length
  · rw [List.getElem?_append_left hi] at hy
    rw [List.take_append_of_le_length (by omega)]
    exact h i y hy
  · have hi2 := (List.getElem?_eq_some_iff.1 hy).1
    rw [List.length_append, List.length_singleton] at hi2
    have e : i = l.length := by omega
    subst e
    rw [List.getElem?_append_right (Nat.le_refl _)] at hy
    simp at hy
    subst hy
    rw [List.take_append_of_le_length (Nat.le_refl _), List.take_length]
    exact hx
theorem mayLn_take {l : List Ln} (h : mayLn l = true) (k : Nat) : mayLn (l.take k) = true := by
  rw [mayLn_iff] at h ⊢
  intro i x hx
  rw [List.getElem?_take] at hx
  split at hx
  · rename_i hi
    rw [List.take_take, Nat.min_eq_left (by omega)]
    exact h i x hx
  · cases hx
theorem bal_in {l : List Ln} (h : mayLn l = true) (a : Int) : 0 ≤ balL l a ∧ balL l a ≤ 1125899906842624 := by
  have key : ∀ k, k ≤ l.length → 0 ≤ balL (l.take k) a ∧ balL (l.take k) a ≤ 1125899906842624 := by
    intro k
    induction k with
    | zero => intro _; rw [List.take_zero, balL_nil]; omega
    | succ k ih =>
      intro hk
      have hx : l[k]? = some (l[k]'(by omega)) := List.getElem?_eq_getElem (by omega)
      rw [List.take_add_one, hx]
      show 0 ≤ balL (l.take k ++ [_]) a ∧ balL (l.take k ++ [_]) a ≤ _
      rw [balL_snoc]
      split
      · exact (mayLn_iff.1 h k _ hx).2.2.2.2.2.1
      · exact ih (by omega)
  have := key l.length (Nat.le_refl _)
  rwa [List.take_length] at this
def ofL (l : List Ln) (a : Int) : List Ln := l.filter fun x => decide (x.acct = a)
theorem ofL_snoc (l : List Ln) (x : Ln) (a : Int) : ofL (l ++ [x]) a = ofL l a ++ (if x.acct = a then [x] else []) := by
  unfold ofL
  rw [List.filter_append]
  congr 1
  by_cases h : x.acct = a
  · rw [if_pos h]; simp [h]
  · rw [if_neg h]; simp [h]
def pageL (l : List Ln) (a from_ n : Int) : List Ln := if from_ < 0 ∨ n < 0 ∨ ((ofL l a).length : Int) ≤ from_ then [] else ((ofL l a).drop from_.toNat).take n.toNat
def sumD (l : List Ln) : Int := (l.map (·.delta)).sum
theorem sumD_snoc (l : List Ln) (x : Ln) : sumD (l ++ [x]) = sumD l + x.delta := by unfold sumD; simp
theorem bal_sum {l : List Ln} (h : mayLn l = true) (a : Int) : balL l a = sumD (ofL l a) := by
  have key : ∀ k, k ≤ l.length → balL (l.take k) a = sumD (ofL (l.take k) a) := by
    intro k
    induction k with
    | zero => intro _; rfl
    | succ k ih =>
      intro hk
      have hx : l[k]? = some (l[k]'(by omega)) := List.getElem?_eq_getElem (by omega)
      have hk := ih (by omega)
      have hok := mayLn_iff.1 h k _ hx
      generalize l[k]'_ = x at hx hok
      rw [List.take_add_one, hx]
      show balL (l.take k ++ [x]) a = sumD (ofL (l.take k ++ [x]) a)
      rw [balL_snoc, ofL_snoc]
      by_cases hxa : x.acct = a
      · rw [if_pos hxa, if_pos hxa, sumD_snoc, ← hk]
        have := hok.2.2.2.2.2.2
        rw [hxa] at this
        omega
      · rw [if_neg hxa, if_neg hxa, List.append_nil, hk]
  have := key l.length (Nat.le_refl _)
  rwa [List.take_length] at this
def addL (l : List Ln) (seq kind a by_ : Int) : Option (List Ln) := if by_ = 0 then some l else if 0 ≤ balL l a + by_ ∧ balL l a + by_ ≤ 1125899906842624 then some (l ++ [⟨a, seq, kind, by_, balL l a + by_⟩]) else none
def addsL (seq kind : Int) : List Ln → List (Int × Int) → Option (List Ln)
  | l, [] => some l
  | l, r :: rs => (addL l seq kind r.1 r.2).bind fun l' => addsL seq kind l' rs
def nthI (e : Evt) (i : Nat) : Int := e.nums.getD i 0
def lotP (t : List Lt) (id : Int) : Option Lt := t.find? fun o => decide (o.id = id)
def rowsL (p : List Opn) (t : List Lt) (e : Evt) : Int × List (Int × Int) :=
  if e.kind = 6 then (0, [(nthI e 0, nthI e 1)])
  else if e.kind = 7 then (0, [(nthI e 0, -nthI e 1)])
  else if e.kind = 21 then (0, [(nthI e 0, -nthI e 2), (nthI e 1, nthI e 2)])
  else if e.kind = 13 then match findP p (nthI e 0), findP p (nthI e 1) with
    | some a, some b => if a.side = b.side then (1, []) else if a.side = 2 then (0, [(b.acct, -(nthI e 2 * nthI e 3)), (a.acct, nthI e 2 * nthI e 3 - nthI e 4)]) else (0, [(a.acct, -(nthI e 2 * nthI e 3)), (b.acct, nthI e 2 * nthI e 3 - nthI e 4)])
    | _, _ => (5, [])
  else if e.kind = 18 then match lotP t (nthI e 0) with
    | some x => (0, [(nthI e 1, -nthI e 2), (x.seller, nthI e 2 - nthI e 3)])
    | none => (5, [])
  else (0, [])
def formL (l : List Ln) (p : List Opn) (t : List Lt) (seq : Int) (e : Evt) : Bool := mayLn l && mayV p t && decide (e.v = 3) && mayE e && decide (0 ≤ seq ∧ seq < 1048576) && decide (seqL l ≤ seq)
def stmtL (l : List Ln) (p : List Opn) (t : List Lt) (seq : Int) (e : Evt) : Int × List Ln :=
  if formL l p t seq e = false then (4, []) else if (rowsL p t e).1 ≠ 0 then ((rowsL p t e).1, []) else match addsL seq e.kind l (rowsL p t e).2 with
    | some l' => (0, l')
    | none => (41, [])
/-! ### laws -/
theorem addL_ok {l l' : List Ln} {seq kind a by_ : Int} (h : mayLn l = true) (ha : 1 ≤ a ∧ a ≤ 64) (hs : 0 ≤ seq ∧ seq < 1048576) (hl : seqL l ≤ seq) (hk : kindB kind = true) (e : addL l seq kind a by_ = some l') : mayLn l' = true ∧ seqL l' ≤ seq ∧ ∃ r, l' = l ++ r ∧ sumD r = by_ ∧ ∀ x ∈ r, x.seq = seq ∧ x.kind = kind := by
  unfold addL at e
  split at e
  · rename_i h0
    injection e with e; subst e
    exact ⟨h, hl, [], by simp, h0.symm ▸ rfl, by simp⟩
  · rename_i h0
    split at e
    · rename_i h1
      injection e with e; subst e
      exact ⟨mayLn_snoc h ⟨ha, hs, hl, hk, h0, h1, rfl⟩, by rw [seqL_snoc]; exact Int.le_refl _, _, rfl, by unfold sumD; simp, by simp⟩
    · cases e
theorem addsL_ok {seq kind : Int} (hs : 0 ≤ seq ∧ seq < 1048576) (hk : kindB kind = true) : ∀ {rs : List (Int × Int)} {l l' : List Ln}, mayLn l = true → (∀ r ∈ rs, 1 ≤ r.1 ∧ r.1 ≤ 64) → seqL l ≤ seq → addsL seq kind l rs = some l' → mayLn l' = true ∧ ∃ r, l' = l ++ r ∧ sumD r = (rs.map (·.2)).sum ∧ ∀ x ∈ r, x.seq = seq ∧ x.kind = kind
  | [], l, l', h, _, _, e => by
    injection e with e; subst e
    exact ⟨h, [], by simp, rfl, by simp⟩
  | r :: rs, l, l', h, hr, hl, e => by
    unfold addsL at e
    cases h1 : addL l seq kind r.1 r.2 with
    | none => rw [h1] at e; cases e
    | some l1 =>
      rw [h1] at e
      obtain ⟨m1, s1, q, rfl, hq, hx⟩ := addL_ok h (hr r List.mem_cons_self) hs hl hk h1
      obtain ⟨m2, q2, rfl, hq2, hx2⟩ := addsL_ok hs hk m1 (fun r' hr' => hr r' (List.mem_cons_of_mem _ hr')) s1 e
      refine ⟨m2, q ++ q2, by simp, ?_, fun x hm => ?_⟩
      · unfold sumD at *; rw [List.map_append, List.sum_append, hq, hq2, List.map_cons, List.sum_cons]
      · rcases List.mem_append.1 hm with hm | hm
        · exact hx x hm
        · exact hx2 x hm
end Go.Proofs.YtnffmbfdfhokeaaDoor
namespace Go.Proofs.YtnffmbfdfhokeaaDoor
open Go.RowKit

set_option maxRecDepth 20000 in
theorem run_add64P (x y : Int) (w : World) (hx : 0 ≤ x) (hy : 0 ≤ y) : (callFunc 86 #[.int .u64 x, .int .u64 y, .int .u64 0]).run Tryd.prog w = .ok (.value (.tuple #[.int .u64 ((x + y) % 18446744073709551616), .int .u64 ((x + y) / 18446744073709551616)])) w := by
  rw [run_callFunc_extern (fn := Tryd.f86) rfl (by kernel_rfl) (by kernel_rfl) (by kernel_rfl) (e := add64Entry) (by kernel_rfl), run_add64 x y 0 hx hy (by omega) (by omega)]
  simp [Result.andThen]
abbrev wideV (z : Int) : Value := .agg #[.int .i64 (z / 18446744073709551616), .int .u64 (z % 18446744073709551616)]
set_option maxRecDepth 20000 in
theorem plus_c (z m : Int) (w : World) (hz : -1329227995784915872903807060280344576 ≤ z ∧ z ≤ 1329227995784915872903807060280344576) (hm : -9223372036854775808 ≤ m ∧ m ≤ 9223372036854775807) : Calls Tryd.prog 67 #[wideV z, .int .i64 m] w fun e w' => e = .returned (wideV (z + m)) ∧ Below w.heap.size w w' := by
  have hE := Ext.refl w
  have hw := Below.refl w.heap.size w
  refine fn_enter 25 Tryd.func67 rfl rfl rfl ?_
  refine cw_seq (cw_region ?_)
  refine lw_boxN rfl rfl rfl ?_; intro N1 wn hN1 HA hb
  replace hw := grow_trans hw hb
  replace hE := hE.mono hw; clear hw; have hw := Below.refl wn.heap.size wn
  repeat' (first | (refine lw_pure rfl (pv_move rfl) ?_) | (refine lw_pure rfl (pv_assign rfl) ?_) | (refine is_cw ?_; first | (refine cw_seq ?_) | (refine cw_region ?_) | (refine cw_ret ?_)) | (refine is_qw ?_; first | (with_reducible refine qw_then ?_) | (with_reducible refine qw_then_ret ?_)) | (refine lw_nil ?_) | ((refine is_bin ?_; first | (refine lw_pure rfl (pv_inc rfl rfl (by omega)) ?_) | (refine lw_pure rfl (pv_add rfl rfl (by omega)) ?_) | (refine lw_pure rfl (pv_shr rfl rfl (by omega)) ?_))) | ((refine is_load ?_; first | (refine lw_pure rfl (pv_load (t1 rfl) rfl (by first | exact PT.ld0 (HA.mono hw) rfl | exact PT.ld (HA.mono hw) rfl)) ?_) | (refine lw_pure rfl (pv_loada (tA rfl) rfl (by first | exact PT.lda (HA.mono hw)) (by rfl)) ?_))) | ((refine is_fa ?_; first | (refine lw_pure rfl (pv_fa (tF rfl) rfl) ?_))) | ((refine is_bd ?_; first | (refine lw_pure rfl (tyB_122 rfl rfl rfl) ?_))) | (refine lw_pure rfl (pv_extract rfl rfl) ?_) | (refine is_cv ?_; refine lw_pure rfl (pv_conv (tCv rfl rfl) rfl (by omega)) ?_))
  refine lw_allocN rfl (by first | exact tyv_29 | exact tyv_30 | exact tyv_34 | exact tyv_35 | exact tyv_37 | exact tyv_43 | exact tyv_53 | exact tyv_54 | exact tyv_55 | exact tyv_56 | exact tyv_112 | exact tyv_113 | exact tyv_121 | exact tyv_122) rfl ?_; intro N2 wm hN2 HB hb
  replace hw := grow_trans hw hb
  clear hb
  have hu : IntKind.u64.wrap m = m % 18446744073709551616 := rfl
  have h63 : m.fdiv (2 ^ (min (63 : Int).toNat IntKind.i64.bits)) = m / 9223372036854775808 := by
    show m.fdiv 9223372036854775808 = _
    rw [Int.fdiv_eq_ediv_of_nonneg _ (by omega)]
  repeat' (first | (refine lw_pure rfl (pv_move rfl) ?_) | (refine lw_pure rfl (pv_assign rfl) ?_) | (refine lw_pure rfl (pv_conv_w (tCv rfl rfl) rfl) ?_) | (refine is_cw ?_; first | (refine cw_seq ?_) | (refine cw_region ?_) | (refine cw_ret ?_)) | (refine is_qw ?_; first | (with_reducible refine qw_then ?_) | (with_reducible refine qw_then_ret ?_)) | (refine lw_nil ?_) | ((refine is_bin ?_; first | (refine lw_pure rfl (pv_inc rfl rfl (by omega)) ?_) | (refine lw_pure rfl (pv_add rfl rfl (by omega)) ?_) | (refine lw_pure rfl (pv_shr rfl rfl (by omega)) ?_))) | ((refine is_load ?_; first | (refine lw_pure rfl (pv_load (t1 rfl) rfl (by first | exact PT.ld0 (HA.mono hw) rfl | exact PT.ld (HA.mono hw) rfl)) ?_) | (refine lw_pure rfl (pv_loada (tA rfl) rfl (by first | exact PT.lda (HA.mono hw)) (by rfl)) ?_))) | ((refine is_fa ?_; first | (refine lw_pure rfl (pv_fa (tF rfl) rfl) ?_))) | ((refine is_bd ?_; first | (refine lw_pure rfl (tyB_122 rfl rfl rfl) ?_))) | (refine lw_pure rfl (pv_extract rfl rfl) ?_) | (refine is_cv ?_; refine lw_pure rfl (pv_conv (tCv rfl rfl) rfl (by omega)) ?_))
  refine lw_pure rfl (pv_ext (vs := [.int .u64 (z % 18446744073709551616), .int .u64 (IntKind.u64.wrap m), .int .u64 0]) rfl (run_add64P _ _ _ (by omega) (by omega))) ?_
  repeat' (first | (refine lw_pure rfl (pv_move rfl) ?_) | (refine lw_pure rfl (pv_assign rfl) ?_) | (refine is_cw ?_; first | (refine cw_seq ?_) | (refine cw_region ?_) | (refine cw_ret ?_)) | (refine is_qw ?_; first | (with_reducible refine qw_then ?_) | (with_reducible refine qw_then_ret ?_)) | (refine lw_nil ?_) | ((refine is_bin ?_; first | (refine lw_pure rfl (pv_inc rfl rfl (by omega)) ?_) | (refine lw_pure rfl (pv_add rfl rfl (by omega)) ?_) | (refine lw_pure rfl (pv_shr rfl rfl (by omega)) ?_))) | ((refine is_load ?_; first | (refine lw_pure rfl (pv_load (t1 rfl) rfl (by first | exact PT.ld0 (HA.mono hw) rfl | exact PT.ld (HA.mono hw) rfl)) ?_) | (refine lw_pure rfl (pv_loada (tA rfl) rfl (by first | exact PT.lda (HA.mono hw)) (by rfl)) ?_))) | ((refine is_fa ?_; first | (refine lw_pure rfl (pv_fa (tF rfl) rfl) ?_))) | ((refine is_bd ?_; first | (refine lw_pure rfl (tyB_122 rfl rfl rfl) ?_))) | (refine lw_pure rfl (pv_extract rfl rfl) ?_) | (refine is_cv ?_; refine lw_pure rfl (pv_conv (tCv rfl rfl) rfl (by omega)) ?_))
  refine lw_storea (vs := [.int .i64 (z / 18446744073709551616 + m.fdiv (2 ^ (min (63 : Int).toNat IntKind.i64.bits)) + (z % 18446744073709551616 + IntKind.u64.wrap m) / 18446744073709551616), .int .u64 ((z % 18446744073709551616 + IntKind.u64.wrap m) % 18446744073709551616)]) HB (tZ rfl) rfl rfl rfl rfl (by simp [Value.oneCell']) ?_; intro wk HB hg hz9; replace hw := st_hw hw hg hN2; clear hg hz9
  repeat' (first | (refine lw_pure rfl (pv_move rfl) ?_) | (refine lw_pure rfl (pv_assign rfl) ?_) | (refine is_cw ?_; first | (refine cw_seq ?_) | (refine cw_region ?_) | (refine cw_ret ?_)) | (refine is_qw ?_; first | (with_reducible refine qw_then ?_) | (with_reducible refine qw_then_ret ?_)) | (refine lw_nil ?_) | ((refine is_bin ?_; first | (refine lw_pure rfl (pv_inc rfl rfl (by omega)) ?_) | (refine lw_pure rfl (pv_add rfl rfl (by omega)) ?_) | (refine lw_pure rfl (pv_shr rfl rfl (by omega)) ?_))) | ((refine is_load ?_; first | (refine lw_pure rfl (pv_load (t1 rfl) rfl (by first | exact PT.ld0 (HA.mono hw) rfl | exact PT.ld (HA.mono hw) rfl)) ?_) | (refine lw_pure rfl (pv_loada (tA rfl) rfl (by first | exact PT.lda (HA.mono hw)) (by rfl)) ?_))) | ((refine is_fa ?_; first | (refine lw_pure rfl (pv_fa (tF rfl) rfl) ?_))) | ((refine is_bd ?_; first | (refine lw_pure rfl (tyB_122 rfl rfl rfl) ?_))) | (refine lw_pure rfl (pv_extract rfl rfl) ?_) | (refine is_cv ?_; refine lw_pure rfl (pv_conv (tCv rfl rfl) rfl (by omega)) ?_))
  refine qw_retc rfl rfl (agg_ld (tA rfl) rfl HB.lda) ⟨?_, (hE.mono hw).b⟩
  have e1 : z / 18446744073709551616 + m.fdiv (2 ^ (min (63 : Int).toNat IntKind.i64.bits)) + (z % 18446744073709551616 + IntKind.u64.wrap m) / 18446744073709551616 = (z + m) / 18446744073709551616 := by rw [h63, hu]; omega
  have e2 : (z % 18446744073709551616 + IntKind.u64.wrap m) % 18446744073709551616 = (z + m) % 18446744073709551616 := by rw [hu]; omega
  rw [e1, e2]
theorem wrapU (a : Int) (h : 0 ≤ a) (h2 : a < 18446744073709551616) : IntKind.i64.wrap a = a - (if a < 9223372036854775808 then 0 else 18446744073709551616) := by
  have h3 : a % 18446744073709551616 = a := by omega
  show (if (true && decide (a % 18446744073709551616 ≥ 9223372036854775808)) = true then a % 18446744073709551616 - 18446744073709551616 else a % 18446744073709551616) = _
  rw [h3]
  by_cases hc : a < 9223372036854775808
  · rw [if_pos hc, if_neg (by simp; omega)]; omega
  · rw [if_neg hc, if_pos (by simp; omega)]
def farS (z : Int) : Bool := decide (z > 4611686018427387904) || decide (z < -4611686018427387904)
def toldN (z : Int) : Int := if farS z then 0 else z
def toldE (z : Int) : Int := if farS z then 41 else 0
set_option maxRecDepth 20000 in
theorem wtold_c (z : Int) (w : World) (hz : -1329227995784915872903807060280344576 ≤ z ∧ z ≤ 1329227995784915872903807060280344576) : Calls Tryd.prog 68 #[wideV z] w fun e w' => e = .returned (.tuple #[.int .i64 (toldN z), .int .i64 (toldE z)]) ∧ Below w.heap.size w w' := by
  have hE := Ext.refl w
  have hw := Below.refl w.heap.size w
  refine fn_enter 22 Tryd.func68 rfl rfl rfl ?_
  refine cw_seq (cw_region ?_)
  refine lw_boxN rfl rfl rfl ?_; intro N1 wn hN1 HA hb
  replace hw := grow_trans hw hb
  replace hE := hE.mono hw; clear hw; have hw := Below.refl wn.heap.size wn
  have hn : IntKind.i64.wrap (z % 18446744073709551616) = z % 18446744073709551616 - (if z % 18446744073709551616 < 9223372036854775808 then 0 else 18446744073709551616) := wrapU _ (by omega) (by omega)
  have h63 : (IntKind.i64.wrap (z % 18446744073709551616)).fdiv (2 ^ (min (63 : Int).toNat IntKind.i64.bits)) = IntKind.i64.wrap (z % 18446744073709551616) / 9223372036854775808 := by
    show Int.fdiv _ 9223372036854775808 = _
    rw [Int.fdiv_eq_ediv_of_nonneg _ (by omega)]
  by_cases hf : z > 4611686018427387904 ∨ z < -4611686018427387904
  · have e1 : toldN z = 0 := by simp [toldN, farS]; omega
    have e2 : toldE z = 41 := by simp [toldE, farS]; omega
    rw [e1, e2]
    repeat' (first | (refine lw_pure rfl (pv_move rfl) ?_) | (refine lw_pure rfl (pv_assign rfl) ?_) | (refine lw_pure rfl (pv_conv_w (tCv rfl rfl) rfl) ?_) | (refine is_cw ?_; first | (refine cw_seq ?_) | (refine cw_region ?_) | (refine cw_true rfl rfl ?_) | (refine cw_false rfl rfl ?_) | (refine is_cd ?_; refine cw_true rfl (by first | assumption | exact decide_eq_true (by omega) | exact dec_notT (by omega)) ?_) | (refine is_cd ?_; refine cw_false rfl (by first | assumption | exact decide_eq_false (by omega) | exact dec_notF (by omega)) ?_) | (refine cw_skip ?_) | (refine cw_ret ?_)) | (refine is_qw ?_; first | (with_reducible refine qw_then ?_) | (with_reducible refine qw_then_ret ?_)) | (refine lw_nil ?_) | (refine is_guarded ?_; first | (refine lw_not rfl rfl rfl rfl ?_) | (refine lw_not_u rfl rfl rfl ?_) | (refine lw_on rfl rfl rfl ?_) | (refine lw_on rfl rfl (by first | assumption | exact decide_eq_true (by omega) | exact decide_eq_false (by omega) | exact dec_notT (by omega) | exact dec_notF (by omega)) ?_) | (refine lw_not rfl rfl rfl (by first | assumption | exact decide_eq_true (by omega) | exact decide_eq_false (by omega) | exact dec_notT (by omega) | exact dec_notF (by omega)) ?_) | (refine lw_gs_t rfl rfl rfl (fun hc => ?_) (fun hc => ?_) <;> (first | replace hc := of_decide_eq_true hc | replace hc := of_decide_eq_false hc | replace hc := dec_nT hc | replace hc := dec_nF hc | skip) <;> (try (exfalso; omega))) | (refine lw_gs_f rfl rfl rfl (fun hc => ?_) (fun hc => ?_) <;> (first | replace hc := of_decide_eq_true hc | replace hc := of_decide_eq_false hc | replace hc := dec_nT hc | replace hc := dec_nF hc | skip) <;> (try (exfalso; omega)))) | ((refine is_bin ?_; first | (refine lw_pure rfl (pv_lss rfl rfl) ?_) | (refine lw_pure rfl (pv_neq rfl rfl) ?_) | (refine lw_pure rfl (pv_gtr rfl rfl) ?_) | (refine lw_pure rfl (pv_shr rfl rfl (by omega)) ?_))) | ((refine is_load ?_; first | (refine lw_pure rfl (pv_load (t1 rfl) rfl (by first | exact PT.ld0 (HA.mono hw) rfl | exact PT.ld (HA.mono hw) rfl)) ?_) | (refine lw_pure rfl (pv_loada (tA rfl) rfl (by first | exact PT.lda (HA.mono hw)) (by rfl)) ?_))) | ((refine is_fa ?_; first | (refine lw_pure rfl (pv_fa (tF rfl) rfl) ?_))) | (refine is_pk ?_; refine lw_pure rfl (pv_pick_t rfl rfl rfl) ?_) | (refine is_pk ?_; refine lw_pure rfl (pv_pick_f rfl rfl rfl) ?_) | (refine is_pk ?_; refine lw_pure rfl (pv_pick_t rfl (by first | assumption | exact decide_eq_true (by omega) | exact dec_notT (by omega)) rfl) ?_) | (refine is_pk ?_; refine lw_pure rfl (pv_pick_f rfl (by first | assumption | exact decide_eq_false (by omega) | exact dec_notF (by omega)) rfl) ?_) | (refine is_pk ?_; refine lw_pure rfl (pv_pick rfl rfl rfl) ?_) | (refine is_cv ?_; refine lw_pure rfl (pv_conv (tCv rfl rfl) rfl (by omega)) ?_) | (refine is_cw ?_; refine cw_split rfl (fun hc => ?_) (fun hc => ?_) <;> (first | replace hc := of_decide_eq_true hc | replace hc := of_decide_eq_false hc | replace hc := dec_nT hc | replace hc := dec_nF hc | skip) <;> (try (exfalso; omega))))
    all_goals first | exact qw_ret2 rfl rfl rfl ⟨rfl, (hE.mono hw).b⟩ | (exfalso; (split at hn) <;> omega)
  · have e1 : toldN z = z := by simp [toldN, farS]; omega
    have e2 : toldE z = 0 := by simp [toldE, farS]; omega
    have h1 : IntKind.i64.wrap (z % 18446744073709551616) = z := by rw [hn]; split <;> omega
    rw [e1, e2]
    repeat' (first | (refine lw_pure rfl (pv_move rfl) ?_) | (refine lw_pure rfl (pv_assign rfl) ?_) | (refine lw_pure rfl (pv_conv_w (tCv rfl rfl) rfl) ?_) | (refine is_cw ?_; first | (refine cw_seq ?_) | (refine cw_region ?_) | (refine cw_true rfl rfl ?_) | (refine cw_false rfl rfl ?_) | (refine is_cd ?_; refine cw_true rfl (by first | assumption | exact decide_eq_true (by omega) | exact dec_notT (by omega)) ?_) | (refine is_cd ?_; refine cw_false rfl (by first | assumption | exact decide_eq_false (by omega) | exact dec_notF (by omega)) ?_) | (refine cw_skip ?_) | (refine cw_ret ?_)) | (refine is_qw ?_; first | (with_reducible refine qw_then ?_) | (with_reducible refine qw_then_ret ?_)) | (refine lw_nil ?_) | (refine is_guarded ?_; first | (refine lw_not rfl rfl rfl rfl ?_) | (refine lw_not_u rfl rfl rfl ?_) | (refine lw_on rfl rfl rfl ?_) | (refine lw_on rfl rfl (by first | assumption | exact decide_eq_true (by omega) | exact decide_eq_false (by omega) | exact dec_notT (by omega) | exact dec_notF (by omega)) ?_) | (refine lw_not rfl rfl rfl (by first | assumption | exact decide_eq_true (by omega) | exact decide_eq_false (by omega) | exact dec_notT (by omega) | exact dec_notF (by omega)) ?_) | (refine lw_gs_t rfl rfl rfl (fun hc => ?_) (fun hc => ?_) <;> (first | replace hc := of_decide_eq_true hc | replace hc := of_decide_eq_false hc | replace hc := dec_nT hc | replace hc := dec_nF hc | skip) <;> (try (exfalso; omega))) | (refine lw_gs_f rfl rfl rfl (fun hc => ?_) (fun hc => ?_) <;> (first | replace hc := of_decide_eq_true hc | replace hc := of_decide_eq_false hc | replace hc := dec_nT hc | replace hc := dec_nF hc | skip) <;> (try (exfalso; omega)))) | ((refine is_bin ?_; first | (refine lw_pure rfl (pv_lss rfl rfl) ?_) | (refine lw_pure rfl (pv_neq rfl rfl) ?_) | (refine lw_pure rfl (pv_gtr rfl rfl) ?_) | (refine lw_pure rfl (pv_shr rfl rfl (by omega)) ?_))) | ((refine is_load ?_; first | (refine lw_pure rfl (pv_load (t1 rfl) rfl (by first | exact PT.ld0 (HA.mono hw) rfl | exact PT.ld (HA.mono hw) rfl)) ?_) | (refine lw_pure rfl (pv_loada (tA rfl) rfl (by first | exact PT.lda (HA.mono hw)) (by rfl)) ?_))) | ((refine is_fa ?_; first | (refine lw_pure rfl (pv_fa (tF rfl) rfl) ?_))) | (refine is_pk ?_; refine lw_pure rfl (pv_pick_t rfl rfl rfl) ?_) | (refine is_pk ?_; refine lw_pure rfl (pv_pick_f rfl rfl rfl) ?_) | (refine is_pk ?_; refine lw_pure rfl (pv_pick_t rfl (by first | assumption | exact decide_eq_true (by omega) | exact dec_notT (by omega)) rfl) ?_) | (refine is_pk ?_; refine lw_pure rfl (pv_pick_f rfl (by first | assumption | exact decide_eq_false (by omega) | exact dec_notF (by omega)) rfl) ?_) | (refine is_pk ?_; refine lw_pure rfl (pv_pick rfl rfl rfl) ?_) | (refine is_cv ?_; refine lw_pure rfl (pv_conv (tCv rfl rfl) rfl (by omega)) ?_) | (refine is_cw ?_; refine cw_split rfl (fun hc => ?_) (fun hc => ?_) <;> (first | replace hc := of_decide_eq_true hc | replace hc := of_decide_eq_false hc | replace hc := dec_nT hc | replace hc := dec_nF hc | skip) <;> (try (exfalso; omega))))
    all_goals first | exact qw_ret2 rfl rfl rfl ⟨by rw [h1], (hE.mono hw).b⟩ | (exfalso; omega)
def In64 (xs : List Int) : Prop := ∀ x ∈ xs, -9223372036854775808 ≤ x ∧ x ≤ 9223372036854775807
theorem sum_near : ∀ (xs : List Int), In64 xs → -9223372036854775808 * xs.length ≤ xs.sum ∧ xs.sum ≤ 9223372036854775808 * xs.length
  | [], _ => by simp
  | x :: xs, h => by
    have h1 := h x (by simp)
    have h2 := sum_near xs (fun y hy => h y (by simp [hy]))
    simp only [List.sum_cons, List.length_cons]
    omega
theorem take_near {xs : List Int} (h : In64 xs) (hl : xs.length ≤ 1048576) (k : Nat) : -1329227995784915872903807060280344576 ≤ (xs.take k).sum ∧ (xs.take k).sum ≤ 1329227995784915872903807060280344576 := by
  have h1 := sum_near (xs.take k) (fun y hy => h y (List.mem_of_mem_take hy))
  have h2 : (xs.take k).length ≤ 1048576 := by rw [List.length_take]; omega
  omega
theorem take_sum {xs : List Int} {k : Nat} {x : Int} (h : xs[k]? = some x) : (xs.take (k + 1)).sum = (xs.take k).sum + x := by
  rw [List.take_add_one, h]; simp
abbrev SlN (w : World) (a : Option Addr) (cap : Nat) (xs : List Int) : Prop := SlR encI 1 w a cap xs
set_option maxRecDepth 20000 in
theorem sum_c {xs : List Int} {m : Nat} {a : Option Addr} {cap : Nat} {w : World} (hm : xs.length = m) (HS : SlN w a cap xs) (hl : xs.length ≤ 1048576) (hx : In64 xs) : Calls Tryd.prog 50 #[.slice a m cap] w fun e w' => e = .returned (.tuple #[.int .i64 (toldN xs.sum), .int .i64 (toldE xs.sum)]) ∧ Below w.heap.size w w' := by
  subst hm
  have hE := Ext.refl w
  have hw := Below.refl w.heap.size w
  refine fn_enter 21 Tryd.func50 rfl rfl rfl ?_
  repeat' (first | (refine lw_pure rfl (pv_move rfl) ?_) | (refine lw_pure rfl (pv_assign rfl) ?_) | (refine is_cw ?_; first | (refine cw_seq ?_) | (refine cw_region ?_) | (refine cw_true rfl rfl ?_) | (refine cw_false rfl rfl ?_) | (refine is_cd ?_; refine cw_true rfl (by first | assumption | exact decide_eq_true (by omega) | exact dec_notT (by omega)) ?_) | (refine is_cd ?_; refine cw_false rfl (by first | assumption | exact decide_eq_false (by omega) | exact dec_notF (by omega)) ?_) | (refine cw_skip ?_) | (refine cw_block ?_) | (refine cw_exit ?_) | (refine cw_ret ?_)) | (refine is_qw ?_; first | (with_reducible refine qw_then ?_) | (with_reducible refine qw_in ?_) | (with_reducible refine qw_in_hit ?_) | (refine qw_in_miss rfl ?_) | (with_reducible refine qw_then_exit ?_) | (with_reducible refine qw_then_ret ?_) | (with_reducible refine qw_in_ret ?_)) | (refine lw_nil ?_) | ((refine is_bin ?_; first | (refine lw_pure rfl (pv_lss rfl rfl) ?_) | (refine lw_pure rfl (pv_inc rfl rfl (by omega)) ?_) | (refine lw_pure rfl (pv_add rfl rfl (by omega)) ?_))) | ((refine is_load ?_; first | (refine lw_pure rfl (pv_load (t1 rfl) rfl (by first | fail)) ?_) | (refine lw_pure rfl (pv_loada (tA rfl) rfl (by first | fail) (by rfl)) ?_))) | ((refine is_ia ?_; first | (refine lw_pure rfl (pv_ian (tS rfl) rfl rfl (by omega)) ?_) | (refine lw_pure rfl (pv_ia (tS rfl) rfl rfl (by omega)) ?_))) | ((refine is_bi ?_; first | (refine lw_pure rfl (pv_lenl (tS rfl) rfl) ?_) | (refine lw_pure rfl (pv_lens (tStr rfl) rfl) ?_))) | (refine lw_pure rfl (pv_extract rfl rfl) ?_))
  refine lw_allocN rfl (by first | exact tyv_29 | exact tyv_30 | exact tyv_34 | exact tyv_35 | exact tyv_37 | exact tyv_43 | exact tyv_53 | exact tyv_54 | exact tyv_55 | exact tyv_56 | exact tyv_112 | exact tyv_113 | exact tyv_121 | exact tyv_122) rfl ?_; intro N wm hN HB hb
  replace hw := grow_trans hw hb
  clear hb
  repeat' (first | (refine lw_pure rfl (pv_move rfl) ?_) | (refine lw_pure rfl (pv_assign rfl) ?_) | (refine is_cw ?_; first | (refine cw_seq ?_) | (refine cw_region ?_) | (refine cw_true rfl rfl ?_) | (refine cw_false rfl rfl ?_) | (refine is_cd ?_; refine cw_true rfl (by first | assumption | exact decide_eq_true (by omega) | exact dec_notT (by omega)) ?_) | (refine is_cd ?_; refine cw_false rfl (by first | assumption | exact decide_eq_false (by omega) | exact dec_notF (by omega)) ?_) | (refine cw_skip ?_) | (refine cw_block ?_) | (refine cw_exit ?_) | (refine cw_ret ?_)) | (refine is_qw ?_; first | (with_reducible refine qw_then ?_) | (with_reducible refine qw_in ?_) | (with_reducible refine qw_in_hit ?_) | (refine qw_in_miss rfl ?_) | (with_reducible refine qw_then_exit ?_) | (with_reducible refine qw_then_ret ?_) | (with_reducible refine qw_in_ret ?_)) | (refine lw_nil ?_) | ((refine is_bin ?_; first | (refine lw_pure rfl (pv_lss rfl rfl) ?_) | (refine lw_pure rfl (pv_inc rfl rfl (by omega)) ?_) | (refine lw_pure rfl (pv_add rfl rfl (by omega)) ?_))) | ((refine is_load ?_; first | (refine lw_pure rfl (pv_load (t1 rfl) rfl (by first | fail)) ?_) | (refine lw_pure rfl (pv_loada (tA rfl) rfl (by first | fail) (by rfl)) ?_))) | ((refine is_ia ?_; first | (refine lw_pure rfl (pv_ian (tS rfl) rfl rfl (by omega)) ?_) | (refine lw_pure rfl (pv_ia (tS rfl) rfl rfl (by omega)) ?_))) | ((refine is_bi ?_; first | (refine lw_pure rfl (pv_lenl (tS rfl) rfl) ?_) | (refine lw_pure rfl (pv_lens (tStr rfl) rfl) ?_))) | (refine lw_pure rfl (pv_extract rfl rfl) ?_))
  refine cw_loop (σ := Nat) (fun k => [(4, .pointer (some ⟨N, 0, none⟩)), (7, .slice a xs.length cap), (8, .int .i64 (xs.length : Nat)), (9, .int .i64 (k : Nat))]) (fun k wr => k ≤ xs.length ∧ PT wr N 122 [.int .i64 ((xs.take k).sum / 18446744073709551616), .int .u64 ((xs.take k).sum % 18446744073709551616)] ∧ Below w.heap.size w wr) (fun k => xs.length - k) 0 ⟨rfl, rfl, rfl, rfl, trivial⟩ ⟨Nat.zero_le _, HB, hw⟩ ?_
  clear HB hw
  rintro k wr ⟨hk, HB, hw⟩
  by_cases hlt : k < xs.length
  · have hxk : xs[k]? = some xs[k] := List.getElem?_eq_getElem hlt
    have hr := hx xs[k] (List.getElem_mem hlt)
    have hn := take_near hx hl k
    obtain ⟨ab, ao, rfl, -, -⟩ := HS.at (by intro h; rw [h] at hlt; simp at hlt)
    repeat' (first | (refine lw_pure rfl (pv_move rfl) ?_) | (refine lw_pure rfl (pv_assign rfl) ?_) | (refine is_cw ?_; first | (refine cw_seq ?_) | (refine cw_region ?_) | (refine cw_true rfl rfl ?_) | (refine cw_false rfl rfl ?_) | (refine is_cd ?_; refine cw_true rfl (by first | assumption | exact decide_eq_true (by omega) | exact dec_notT (by omega)) ?_) | (refine is_cd ?_; refine cw_false rfl (by first | assumption | exact decide_eq_false (by omega) | exact dec_notF (by omega)) ?_) | (refine cw_skip ?_) | (refine cw_block ?_) | (refine cw_exit ?_) | (refine cw_ret ?_)) | (refine is_qw ?_; first | (with_reducible refine qw_then ?_) | (with_reducible refine qw_in ?_) | (with_reducible refine qw_in_hit ?_) | (refine qw_in_miss rfl ?_) | (with_reducible refine qw_then_exit ?_) | (with_reducible refine qw_then_ret ?_) | (with_reducible refine qw_in_ret ?_)) | (refine lw_nil ?_) | ((refine is_bin ?_; first | (refine lw_pure rfl (pv_lss rfl rfl) ?_) | (refine lw_pure rfl (pv_inc rfl rfl (by omega)) ?_) | (refine lw_pure rfl (pv_add rfl rfl (by omega)) ?_))) | ((refine is_load ?_; first | (refine lw_pure rfl (pv_load (t1 rfl) rfl (by first | exact SlR.ld (HS.mono hw) hxk rfl | exact SlR.ld1 (HS.mono hw) hxk rfl | exact PT.ld0 HB rfl | exact PT.ld HB rfl)) ?_) | (refine lw_pure rfl (pv_loada (tA rfl) rfl (by first | exact SlR.lda (HS.mono hw) hxk | exact PT.lda HB) (by rfl)) ?_))) | ((refine is_ia ?_; first | (refine lw_pure rfl (pv_ian (tS rfl) rfl rfl (by omega)) ?_) | (refine lw_pure rfl (pv_ia (tS rfl) rfl rfl (by omega)) ?_))) | ((refine is_bi ?_; first | (refine lw_pure rfl (pv_lenl (tS rfl) rfl) ?_) | (refine lw_pure rfl (pv_lens (tStr rfl) rfl) ?_))) | (refine lw_pure rfl (pv_extract rfl rfl) ?_))
    refine lw_call (f := 67) (by kernel_rfl) rfl rfl (plus_c _ _ _ hn hr) ?_; rintro e w1 ⟨rfl, hb⟩; refine ⟨_, rfl, ?_⟩; replace HB := HB.mono hb; replace hw := grow_trans hw hb; clear hb
    refine lw_storea (vs := [.int .i64 (((xs.take k).sum + xs[k]) / 18446744073709551616), .int .u64 (((xs.take k).sum + xs[k]) % 18446744073709551616)]) HB (tZ rfl) rfl rfl rfl rfl (by simp [Value.oneCell']) ?_; intro wk HB hg hz9; replace hw := st_hw hw hg hN; clear hg hz9
    repeat' (first | (refine lw_pure rfl (pv_move rfl) ?_) | (refine lw_pure rfl (pv_assign rfl) ?_) | (refine is_cw ?_; first | (refine cw_seq ?_) | (refine cw_region ?_) | (refine cw_true rfl rfl ?_) | (refine cw_false rfl rfl ?_) | (refine is_cd ?_; refine cw_true rfl (by first | assumption | exact decide_eq_true (by omega) | exact dec_notT (by omega)) ?_) | (refine is_cd ?_; refine cw_false rfl (by first | assumption | exact decide_eq_false (by omega) | exact dec_notF (by omega)) ?_) | (refine cw_skip ?_) | (refine cw_block ?_) | (refine cw_exit ?_) | (refine cw_ret ?_)) | (refine is_qw ?_; first | (with_reducible refine qw_then ?_) | (with_reducible refine qw_in ?_) | (with_reducible refine qw_in_hit ?_) | (refine qw_in_miss rfl ?_) | (with_reducible refine qw_then_exit ?_) | (with_reducible refine qw_then_ret ?_) | (with_reducible refine qw_in_ret ?_)) | (refine lw_nil ?_) | ((refine is_bin ?_; first | (refine lw_pure rfl (pv_lss rfl rfl) ?_) | (refine lw_pure rfl (pv_inc rfl rfl (by omega)) ?_) | (refine lw_pure rfl (pv_add rfl rfl (by omega)) ?_))) | ((refine is_load ?_; first | (refine lw_pure rfl (pv_load (t1 rfl) rfl (by first | fail)) ?_) | (refine lw_pure rfl (pv_loada (tA rfl) rfl (by first | fail) (by rfl)) ?_))) | ((refine is_ia ?_; first | (refine lw_pure rfl (pv_ian (tS rfl) rfl rfl (by omega)) ?_) | (refine lw_pure rfl (pv_ia (tS rfl) rfl rfl (by omega)) ?_))) | ((refine is_bi ?_; first | (refine lw_pure rfl (pv_lenl (tS rfl) rfl) ?_) | (refine lw_pure rfl (pv_lens (tStr rfl) rfl) ?_))) | (refine lw_pure rfl (pv_extract rfl rfl) ?_))
    refine qw_round (k + 1) ⟨rfl, rfl, rfl, rfl, trivial⟩ ⟨by omega, by rw [take_sum hxk]; exact HB, hw⟩ (by omega)
  · have hkl : k = xs.length := by omega
    subst hkl
    have hn := take_near hx hl xs.length
    rw [List.take_length] at HB hn
    repeat' (first | (refine lw_pure rfl (pv_move rfl) ?_) | (refine lw_pure rfl (pv_assign rfl) ?_) | (refine is_cw ?_; first | (refine cw_seq ?_) | (refine cw_region ?_) | (refine cw_true rfl rfl ?_) | (refine cw_false rfl rfl ?_) | (refine is_cd ?_; refine cw_true rfl (by first | assumption | exact decide_eq_true (by omega) | exact dec_notT (by omega)) ?_) | (refine is_cd ?_; refine cw_false rfl (by first | assumption | exact decide_eq_false (by omega) | exact dec_notF (by omega)) ?_) | (refine cw_skip ?_) | (refine cw_block ?_) | (refine cw_exit ?_) | (refine cw_ret ?_)) | (refine is_qw ?_; first | (with_reducible refine qw_then ?_) | (with_reducible refine qw_in ?_) | (with_reducible refine qw_in_hit ?_) | (refine qw_in_miss rfl ?_) | (with_reducible refine qw_then_exit ?_) | (with_reducible refine qw_then_ret ?_) | (with_reducible refine qw_in_ret ?_)) | (refine lw_nil ?_) | ((refine is_bin ?_; first | (refine lw_pure rfl (pv_lss rfl rfl) ?_) | (refine lw_pure rfl (pv_inc rfl rfl (by omega)) ?_) | (refine lw_pure rfl (pv_add rfl rfl (by omega)) ?_))) | ((refine is_load ?_; first | (refine lw_pure rfl (pv_load (t1 rfl) rfl (by first | exact PT.ld0 HB rfl | exact PT.ld HB rfl)) ?_) | (refine lw_pure rfl (pv_loada (tA rfl) rfl (by first | exact PT.lda HB) (by rfl)) ?_))) | ((refine is_ia ?_; first | (refine lw_pure rfl (pv_ian (tS rfl) rfl rfl (by omega)) ?_) | (refine lw_pure rfl (pv_ia (tS rfl) rfl rfl (by omega)) ?_))) | ((refine is_bi ?_; first | (refine lw_pure rfl (pv_lenl (tS rfl) rfl) ?_) | (refine lw_pure rfl (pv_lens (tStr rfl) rfl) ?_))) | (refine lw_pure rfl (pv_extract rfl rfl) ?_))
    refine lw_call (f := 68) (by kernel_rfl) rfl rfl (wtold_c _ _ hn) ?_; rintro e w1 ⟨rfl, hb⟩; refine ⟨_, rfl, ?_⟩; replace hw := grow_trans hw hb; clear hb
    repeat' (first | (refine lw_pure rfl (pv_move rfl) ?_) | (refine lw_pure rfl (pv_assign rfl) ?_) | (refine is_cw ?_; first | (refine cw_seq ?_) | (refine cw_region ?_) | (refine cw_true rfl rfl ?_) | (refine cw_false rfl rfl ?_) | (refine is_cd ?_; refine cw_true rfl (by first | assumption | exact decide_eq_true (by omega) | exact dec_notT (by omega)) ?_) | (refine is_cd ?_; refine cw_false rfl (by first | assumption | exact decide_eq_false (by omega) | exact dec_notF (by omega)) ?_) | (refine cw_skip ?_) | (refine cw_block ?_) | (refine cw_exit ?_) | (refine cw_ret ?_)) | (refine is_qw ?_; first | (with_reducible refine qw_then ?_) | (with_reducible refine qw_in ?_) | (with_reducible refine qw_in_hit ?_) | (refine qw_in_miss rfl ?_) | (with_reducible refine qw_then_exit ?_) | (with_reducible refine qw_then_ret ?_) | (with_reducible refine qw_in_ret ?_)) | (refine lw_nil ?_) | ((refine is_bin ?_; first | (refine lw_pure rfl (pv_lss rfl rfl) ?_) | (refine lw_pure rfl (pv_inc rfl rfl (by omega)) ?_) | (refine lw_pure rfl (pv_add rfl rfl (by omega)) ?_))) | ((refine is_load ?_; first | (refine lw_pure rfl (pv_load (t1 rfl) rfl (by first | fail)) ?_) | (refine lw_pure rfl (pv_loada (tA rfl) rfl (by first | fail) (by rfl)) ?_))) | ((refine is_ia ?_; first | (refine lw_pure rfl (pv_ian (tS rfl) rfl rfl (by omega)) ?_) | (refine lw_pure rfl (pv_ia (tS rfl) rfl rfl (by omega)) ?_))) | ((refine is_bi ?_; first | (refine lw_pure rfl (pv_lenl (tS rfl) rfl) ?_) | (refine lw_pure rfl (pv_lens (tStr rfl) rfl) ?_))) | (refine lw_pure rfl (pv_extract rfl rfl) ?_))
    exact qw_ret2 rfl rfl rfl ⟨rfl, (hE.mono hw).b⟩
set_option maxRecDepth 20000 in
theorem madd_c (a b : Int) (w : World) (ha : -9223372036854775808 ≤ a ∧ a ≤ 9223372036854775807) (hb0 : -9223372036854775808 ≤ b ∧ b ≤ 9223372036854775807) : Calls Tryd.prog 26 #[.int .i64 a, .int .i64 b] w fun e w' => e = .returned (.tuple #[.int .i64 (toldN (a + b)), .int .i64 (toldE (a + b))]) ∧ Below w.heap.size w w' := by
  have hE := Ext.refl w
  have hw := Below.refl w.heap.size w
  have hs : [a, b].sum = a + b := by simp
  refine fn_enter 12 Tryd.func26 rfl rfl rfl ?_
  repeat' (first | (refine lw_pure rfl (pv_move rfl) ?_) | (refine lw_pure rfl (pv_assign rfl) ?_) | (refine is_cw ?_; first | (refine cw_seq ?_) | (refine cw_region ?_) | (refine cw_ret ?_)) | (refine is_qw ?_; first | (with_reducible refine qw_then ?_) | (with_reducible refine qw_then_ret ?_)) | (refine lw_nil ?_) | (refine lw_pure rfl (pv_extract rfl rfl) ?_))
  refine lw_bs (vs := [.int .i64 a, .int .i64 b]) (cs := [.int .i64 a, .int .i64 b]) elemI rfl rfl rfl (by omega) (by omega) rfl (by simp [Value.cells]) ?_; intro wb HB hb hz
  replace hw := grow_trans hw hb
  clear hb hz
  repeat' (first | (refine lw_pure rfl (pv_move rfl) ?_) | (refine lw_pure rfl (pv_assign rfl) ?_) | (refine is_cw ?_; first | (refine cw_seq ?_) | (refine cw_region ?_) | (refine cw_ret ?_)) | (refine is_qw ?_; first | (with_reducible refine qw_then ?_) | (with_reducible refine qw_then_ret ?_)) | (refine lw_nil ?_) | (refine lw_pure rfl (pv_extract rfl rfl) ?_))
  refine lw_call (f := 50) (by kernel_rfl) rfl rfl (sum_c (xs := [a, b]) rfl (HB.slR encI_len rfl (by omega)) (by simp) (by intro x hx; simp at hx; rcases hx with rfl | rfl <;> assumption)) ?_; rintro e w1 ⟨rfl, hb⟩; refine ⟨_, rfl, ?_⟩; replace hw := grow_trans hw hb; clear hb
  rw [hs]
  repeat' (first | (refine lw_pure rfl (pv_move rfl) ?_) | (refine lw_pure rfl (pv_assign rfl) ?_) | (refine is_cw ?_; first | (refine cw_seq ?_) | (refine cw_region ?_) | (refine cw_ret ?_)) | (refine is_qw ?_; first | (with_reducible refine qw_then ?_) | (with_reducible refine qw_then_ret ?_)) | (refine lw_nil ?_) | (refine lw_pure rfl (pv_extract rfl rfl) ?_))
  exact qw_ret2 rfl rfl rfl ⟨rfl, (hE.mono hw).b⟩
end Go.Proofs.YtnffmbfdfhokeaaDoor
namespace Go.Proofs.YtnffmbfdfhokeaaDoor
open Go.RowKit Go.PlainAid Go.Maps Go.WideMaps

set_option maxRecDepth 20000 in
theorem batch_c (n : Int) (w : World) : Calls Tryd.prog 23 #[.int .i64 n] w fun e w' => e = .returned (.bool (decide (0 ≤ n ∧ n < 1048576))) ∧ Below w.heap.size w w' := by
  have hw := Below.refl w.heap.size w
  refine fn_enter 9 Tryd.func23 rfl rfl rfl ?_
  by_cases h1 : 0 ≤ n
  · by_cases h2 : n < 1048576
    · rw [decide_eq_true ⟨h1, h2⟩]
      repeat' (first | (refine lw_pure rfl (pv_move rfl) ?_) | (refine lw_pure rfl (pv_assign rfl) ?_) | (refine is_cw ?_; first | (refine cw_seq ?_) | (refine cw_region ?_) | (refine cw_ret ?_)) | (refine is_qw ?_; first | (with_reducible refine qw_then ?_) | (with_reducible refine qw_then_ret ?_)) | (refine lw_nil ?_) | (refine is_guarded ?_; first | (refine lw_not rfl rfl rfl rfl ?_) | (refine lw_not_u rfl rfl rfl ?_) | (refine lw_on rfl rfl rfl ?_) | (refine lw_on rfl rfl (by first | assumption | exact decide_eq_true (by omega) | exact decide_eq_false (by omega) | exact dec_notT (by omega) | exact dec_notF (by omega)) ?_) | (refine lw_not rfl rfl rfl (by first | assumption | exact decide_eq_true (by omega) | exact decide_eq_false (by omega) | exact dec_notT (by omega) | exact dec_notF (by omega)) ?_) | (refine lw_gs_t rfl rfl rfl (fun hc => ?_) (fun hc => ?_) <;> (first | replace hc := of_decide_eq_true hc | replace hc := of_decide_eq_false hc | replace hc := dec_nT hc | replace hc := dec_nF hc | skip) <;> (try (exfalso; omega))) | (refine lw_gs_f rfl rfl rfl (fun hc => ?_) (fun hc => ?_) <;> (first | replace hc := of_decide_eq_true hc | replace hc := of_decide_eq_false hc | replace hc := dec_nT hc | replace hc := dec_nF hc | skip) <;> (try (exfalso; omega)))) | ((refine is_bin ?_; first | (refine lw_pure rfl (pv_lss rfl rfl) ?_) | (refine lw_pure rfl (pv_geq rfl rfl) ?_))) | (refine is_pk ?_; refine lw_pure rfl (pv_pick_t rfl rfl rfl) ?_) | (refine is_pk ?_; refine lw_pure rfl (pv_pick_f rfl rfl rfl) ?_) | (refine is_pk ?_; refine lw_pure rfl (pv_pick_t rfl (by first | assumption | exact decide_eq_true (by omega) | exact dec_notT (by omega)) rfl) ?_) | (refine is_pk ?_; refine lw_pure rfl (pv_pick_f rfl (by first | assumption | exact decide_eq_false (by omega) | exact dec_notF (by omega)) rfl) ?_) | (refine is_pk ?_; refine lw_pure rfl (pv_pick rfl rfl rfl) ?_) | (refine is_cw ?_; refine cw_split rfl (fun hc => ?_) (fun hc => ?_) <;> (first | replace hc := of_decide_eq_true hc | replace hc := of_decide_eq_false hc | replace hc := dec_nT hc | replace hc := dec_nF hc | skip) <;> (try (exfalso; omega))))
      exact qw_ret1 rfl rfl ⟨by rw [decide_eq_true h2], hw⟩
    · rw [decide_eq_false (by omega)]
      repeat' (first | (refine lw_pure rfl (pv_move rfl) ?_) | (refine lw_pure rfl (pv_assign rfl) ?_) | (refine is_cw ?_; first | (refine cw_seq ?_) | (refine cw_region ?_) | (refine cw_ret ?_)) | (refine is_qw ?_; first | (with_reducible refine qw_then ?_) | (with_reducible refine qw_then_ret ?_)) | (refine lw_nil ?_) | (refine is_guarded ?_; first | (refine lw_not rfl rfl rfl rfl ?_) | (refine lw_not_u rfl rfl rfl ?_) | (refine lw_on rfl rfl rfl ?_) | (refine lw_on rfl rfl (by first | assumption | exact decide_eq_true (by omega) | exact decide_eq_false (by omega) | exact dec_notT (by omega) | exact dec_notF (by omega)) ?_) | (refine lw_not rfl rfl rfl (by first | assumption | exact decide_eq_true (by omega) | exact decide_eq_false (by omega) | exact dec_notT (by omega) | exact dec_notF (by omega)) ?_) | (refine lw_gs_t rfl rfl rfl (fun hc => ?_) (fun hc => ?_) <;> (first | replace hc := of_decide_eq_true hc | replace hc := of_decide_eq_false hc | replace hc := dec_nT hc | replace hc := dec_nF hc | skip) <;> (try (exfalso; omega))) | (refine lw_gs_f rfl rfl rfl (fun hc => ?_) (fun hc => ?_) <;> (first | replace hc := of_decide_eq_true hc | replace hc := of_decide_eq_false hc | replace hc := dec_nT hc | replace hc := dec_nF hc | skip) <;> (try (exfalso; omega)))) | ((refine is_bin ?_; first | (refine lw_pure rfl (pv_lss rfl rfl) ?_) | (refine lw_pure rfl (pv_geq rfl rfl) ?_))) | (refine is_pk ?_; refine lw_pure rfl (pv_pick_t rfl rfl rfl) ?_) | (refine is_pk ?_; refine lw_pure rfl (pv_pick_f rfl rfl rfl) ?_) | (refine is_pk ?_; refine lw_pure rfl (pv_pick_t rfl (by first | assumption | exact decide_eq_true (by omega) | exact dec_notT (by omega)) rfl) ?_) | (refine is_pk ?_; refine lw_pure rfl (pv_pick_f rfl (by first | assumption | exact decide_eq_false (by omega) | exact dec_notF (by omega)) rfl) ?_) | (refine is_pk ?_; refine lw_pure rfl (pv_pick rfl rfl rfl) ?_) | (refine is_cw ?_; refine cw_split rfl (fun hc => ?_) (fun hc => ?_) <;> (first | replace hc := of_decide_eq_true hc | replace hc := of_decide_eq_false hc | replace hc := dec_nT hc | replace hc := dec_nF hc | skip) <;> (try (exfalso; omega))))
      exact qw_ret1 rfl rfl ⟨by rw [decide_eq_false h2], hw⟩
  · rw [decide_eq_false (by omega)]
    repeat' (first | (refine lw_pure rfl (pv_move rfl) ?_) | (refine lw_pure rfl (pv_assign rfl) ?_) | (refine is_cw ?_; first | (refine cw_seq ?_) | (refine cw_region ?_) | (refine cw_ret ?_)) | (refine is_qw ?_; first | (with_reducible refine qw_then ?_) | (with_reducible refine qw_then_ret ?_)) | (refine lw_nil ?_) | (refine is_guarded ?_; first | (refine lw_not rfl rfl rfl rfl ?_) | (refine lw_not_u rfl rfl rfl ?_) | (refine lw_on rfl rfl rfl ?_) | (refine lw_on rfl rfl (by first | assumption | exact decide_eq_true (by omega) | exact decide_eq_false (by omega) | exact dec_notT (by omega) | exact dec_notF (by omega)) ?_) | (refine lw_not rfl rfl rfl (by first | assumption | exact decide_eq_true (by omega) | exact decide_eq_false (by omega) | exact dec_notT (by omega) | exact dec_notF (by omega)) ?_) | (refine lw_gs_t rfl rfl rfl (fun hc => ?_) (fun hc => ?_) <;> (first | replace hc := of_decide_eq_true hc | replace hc := of_decide_eq_false hc | replace hc := dec_nT hc | replace hc := dec_nF hc | skip) <;> (try (exfalso; omega))) | (refine lw_gs_f rfl rfl rfl (fun hc => ?_) (fun hc => ?_) <;> (first | replace hc := of_decide_eq_true hc | replace hc := of_decide_eq_false hc | replace hc := dec_nT hc | replace hc := dec_nF hc | skip) <;> (try (exfalso; omega)))) | ((refine is_bin ?_; first | (refine lw_pure rfl (pv_lss rfl rfl) ?_) | (refine lw_pure rfl (pv_geq rfl rfl) ?_))) | (refine is_pk ?_; refine lw_pure rfl (pv_pick_t rfl rfl rfl) ?_) | (refine is_pk ?_; refine lw_pure rfl (pv_pick_f rfl rfl rfl) ?_) | (refine is_pk ?_; refine lw_pure rfl (pv_pick_t rfl (by first | assumption | exact decide_eq_true (by omega) | exact dec_notT (by omega)) rfl) ?_) | (refine is_pk ?_; refine lw_pure rfl (pv_pick_f rfl (by first | assumption | exact decide_eq_false (by omega) | exact dec_notF (by omega)) rfl) ?_) | (refine is_pk ?_; refine lw_pure rfl (pv_pick rfl rfl rfl) ?_) | (refine is_cw ?_; refine cw_split rfl (fun hc => ?_) (fun hc => ?_) <;> (first | replace hc := of_decide_eq_true hc | replace hc := of_decide_eq_false hc | replace hc := dec_nT hc | replace hc := dec_nF hc | skip) <;> (try (exfalso; omega))))
    exact qw_ret1 rfl rfl ⟨rfl, hw⟩
set_option maxRecDepth 20000 in
theorem fitsL_c (n : Int) (w : World) : Calls Tryd.prog 27 #[.int .i64 n] w fun e w' => e = .returned (.bool (decide (0 ≤ n ∧ n ≤ 1125899906842624))) ∧ Below w.heap.size w w' := by
  have hw := Below.refl w.heap.size w
  refine fn_enter 9 Tryd.func27 rfl rfl rfl ?_
  by_cases h1 : 0 ≤ n
  · by_cases h2 : n ≤ 1125899906842624
    · rw [decide_eq_true ⟨h1, h2⟩]
      repeat' (first | (refine lw_pure rfl (pv_move rfl) ?_) | (refine lw_pure rfl (pv_assign rfl) ?_) | (refine is_cw ?_; first | (refine cw_seq ?_) | (refine cw_region ?_) | (refine cw_ret ?_)) | (refine is_qw ?_; first | (with_reducible refine qw_then ?_) | (with_reducible refine qw_then_ret ?_)) | (refine lw_nil ?_) | (refine is_guarded ?_; first | (refine lw_not rfl rfl rfl rfl ?_) | (refine lw_not_u rfl rfl rfl ?_) | (refine lw_on rfl rfl rfl ?_) | (refine lw_on rfl rfl (by first | assumption | exact decide_eq_true (by omega) | exact decide_eq_false (by omega) | exact dec_notT (by omega) | exact dec_notF (by omega)) ?_) | (refine lw_not rfl rfl rfl (by first | assumption | exact decide_eq_true (by omega) | exact decide_eq_false (by omega) | exact dec_notT (by omega) | exact dec_notF (by omega)) ?_) | (refine lw_gs_t rfl rfl rfl (fun hc => ?_) (fun hc => ?_) <;> (first | replace hc := of_decide_eq_true hc | replace hc := of_decide_eq_false hc | replace hc := dec_nT hc | replace hc := dec_nF hc | skip) <;> (try (exfalso; omega))) | (refine lw_gs_f rfl rfl rfl (fun hc => ?_) (fun hc => ?_) <;> (first | replace hc := of_decide_eq_true hc | replace hc := of_decide_eq_false hc | replace hc := dec_nT hc | replace hc := dec_nF hc | skip) <;> (try (exfalso; omega)))) | ((refine is_bin ?_; first | (refine lw_pure rfl (pv_leq rfl rfl) ?_) | (refine lw_pure rfl (pv_geq rfl rfl) ?_))) | (refine is_pk ?_; refine lw_pure rfl (pv_pick_t rfl rfl rfl) ?_) | (refine is_pk ?_; refine lw_pure rfl (pv_pick_f rfl rfl rfl) ?_) | (refine is_pk ?_; refine lw_pure rfl (pv_pick_t rfl (by first | assumption | exact decide_eq_true (by omega) | exact dec_notT (by omega)) rfl) ?_) | (refine is_pk ?_; refine lw_pure rfl (pv_pick_f rfl (by first | assumption | exact decide_eq_false (by omega) | exact dec_notF (by omega)) rfl) ?_) | (refine is_pk ?_; refine lw_pure rfl (pv_pick rfl rfl rfl) ?_) | (refine is_cw ?_; refine cw_split rfl (fun hc => ?_) (fun hc => ?_) <;> (first | replace hc := of_decide_eq_true hc | replace hc := of_decide_eq_false hc | replace hc := dec_nT hc | replace hc := dec_nF hc | skip) <;> (try (exfalso; omega))))
      exact qw_ret1 rfl rfl ⟨by rw [decide_eq_true h2], hw⟩
    · rw [decide_eq_false (by omega)]
      repeat' (first | (refine lw_pure rfl (pv_move rfl) ?_) | (refine lw_pure rfl (pv_assign rfl) ?_) | (refine is_cw ?_; first | (refine cw_seq ?_) | (refine cw_region ?_) | (refine cw_ret ?_)) | (refine is_qw ?_; first | (with_reducible refine qw_then ?_) | (with_reducible refine qw_then_ret ?_)) | (refine lw_nil ?_) | (refine is_guarded ?_; first | (refine lw_not rfl rfl rfl rfl ?_) | (refine lw_not_u rfl rfl rfl ?_) | (refine lw_on rfl rfl rfl ?_) | (refine lw_on rfl rfl (by first | assumption | exact decide_eq_true (by omega) | exact decide_eq_false (by omega) | exact dec_notT (by omega) | exact dec_notF (by omega)) ?_) | (refine lw_not rfl rfl rfl (by first | assumption | exact decide_eq_true (by omega) | exact decide_eq_false (by omega) | exact dec_notT (by omega) | exact dec_notF (by omega)) ?_) | (refine lw_gs_t rfl rfl rfl (fun hc => ?_) (fun hc => ?_) <;> (first | replace hc := of_decide_eq_true hc | replace hc := of_decide_eq_false hc | replace hc := dec_nT hc | replace hc := dec_nF hc | skip) <;> (try (exfalso; omega))) | (refine lw_gs_f rfl rfl rfl (fun hc => ?_) (fun hc => ?_) <;> (first | replace hc := of_decide_eq_true hc | replace hc := of_decide_eq_false hc | replace hc := dec_nT hc | replace hc := dec_nF hc | skip) <;> (try (exfalso; omega)))) | ((refine is_bin ?_; first | (refine lw_pure rfl (pv_leq rfl rfl) ?_) | (refine lw_pure rfl (pv_geq rfl rfl) ?_))) | (refine is_pk ?_; refine lw_pure rfl (pv_pick_t rfl rfl rfl) ?_) | (refine is_pk ?_; refine lw_pure rfl (pv_pick_f rfl rfl rfl) ?_) | (refine is_pk ?_; refine lw_pure rfl (pv_pick_t rfl (by first | assumption | exact decide_eq_true (by omega) | exact dec_notT (by omega)) rfl) ?_) | (refine is_pk ?_; refine lw_pure rfl (pv_pick_f rfl (by first | assumption | exact decide_eq_false (by omega) | exact dec_notF (by omega)) rfl) ?_) | (refine is_pk ?_; refine lw_pure rfl (pv_pick rfl rfl rfl) ?_) | (refine is_cw ?_; refine cw_split rfl (fun hc => ?_) (fun hc => ?_) <;> (first | replace hc := of_decide_eq_true hc | replace hc := of_decide_eq_false hc | replace hc := dec_nT hc | replace hc := dec_nF hc | skip) <;> (try (exfalso; omega))))
      exact qw_ret1 rfl rfl ⟨by rw [decide_eq_false h2], hw⟩
  · rw [decide_eq_false (by omega)]
    repeat' (first | (refine lw_pure rfl (pv_move rfl) ?_) | (refine lw_pure rfl (pv_assign rfl) ?_) | (refine is_cw ?_; first | (refine cw_seq ?_) | (refine cw_region ?_) | (refine cw_ret ?_)) | (refine is_qw ?_; first | (with_reducible refine qw_then ?_) | (with_reducible refine qw_then_ret ?_)) | (refine lw_nil ?_) | (refine is_guarded ?_; first | (refine lw_not rfl rfl rfl rfl ?_) | (refine lw_not_u rfl rfl rfl ?_) | (refine lw_on rfl rfl rfl ?_) | (refine lw_on rfl rfl (by first | assumption | exact decide_eq_true (by omega) | exact decide_eq_false (by omega) | exact dec_notT (by omega) | exact dec_notF (by omega)) ?_) | (refine lw_not rfl rfl rfl (by first | assumption | exact decide_eq_true (by omega) | exact decide_eq_false (by omega) | exact dec_notT (by omega) | exact dec_notF (by omega)) ?_) | (refine lw_gs_t rfl rfl rfl (fun hc => ?_) (fun hc => ?_) <;> (first | replace hc := of_decide_eq_true hc | replace hc := of_decide_eq_false hc | replace hc := dec_nT hc | replace hc := dec_nF hc | skip) <;> (try (exfalso; omega))) | (refine lw_gs_f rfl rfl rfl (fun hc => ?_) (fun hc => ?_) <;> (first | replace hc := of_decide_eq_true hc | replace hc := of_decide_eq_false hc | replace hc := dec_nT hc | replace hc := dec_nF hc | skip) <;> (try (exfalso; omega)))) | ((refine is_bin ?_; first | (refine lw_pure rfl (pv_leq rfl rfl) ?_) | (refine lw_pure rfl (pv_geq rfl rfl) ?_))) | (refine is_pk ?_; refine lw_pure rfl (pv_pick_t rfl rfl rfl) ?_) | (refine is_pk ?_; refine lw_pure rfl (pv_pick_f rfl rfl rfl) ?_) | (refine is_pk ?_; refine lw_pure rfl (pv_pick_t rfl (by first | assumption | exact decide_eq_true (by omega) | exact dec_notT (by omega)) rfl) ?_) | (refine is_pk ?_; refine lw_pure rfl (pv_pick_f rfl (by first | assumption | exact decide_eq_false (by omega) | exact dec_notF (by omega)) rfl) ?_) | (refine is_pk ?_; refine lw_pure rfl (pv_pick rfl rfl rfl) ?_) | (refine is_cw ?_; refine cw_split rfl (fun hc => ?_) (fun hc => ?_) <;> (first | replace hc := of_decide_eq_true hc | replace hc := of_decide_eq_false hc | replace hc := dec_nT hc | replace hc := dec_nF hc | skip) <;> (try (exfalso; omega))))
    exact qw_ret1 rfl rfl ⟨rfl, hw⟩
theorem elemBk : ElemT Tryd.prog 69 5 1 1 := elem_of Tryd.underlying69 (by kernel_rfl) (by omega)
def kindsK : List Int := [6, 7, 13, 18, 21]
set_option maxRecDepth 20000 in
theorem kinds_c (w : World) : Calls Tryd.prog 29 #[] w fun e w' => (∃ N, e = .returned (.slice (some ⟨N, 0, none⟩) 5 5) ∧ SlR encB 1 w' (some ⟨N, 0, none⟩) 5 kindsK) ∧ Below w.heap.size w w' := by
  have hw := Below.refl w.heap.size w
  refine fn_enter 2 Tryd.func29 rfl rfl rfl ?_
  repeat' (first | (refine lw_pure rfl (pv_move rfl) ?_) | (refine lw_pure rfl (pv_assign rfl) ?_) | (refine is_cw ?_; first | (refine cw_seq ?_) | (refine cw_region ?_) | (refine cw_ret ?_)) | (refine is_qw ?_; first | (with_reducible refine qw_then ?_) | (with_reducible refine qw_then_ret ?_)) | (refine lw_nil ?_))
  refine lw_bs (vs := [.int .u8 6, .int .u8 7, .int .u8 13, .int .u8 18, .int .u8 21]) (cs := [.int .u8 6, .int .u8 7, .int .u8 13, .int .u8 18, .int .u8 21]) elemBk rfl rfl rfl (by omega) (by omega) rfl (by intro v hv; simp at hv; rcases hv with rfl | rfl | rfl | rfl | rfl <;> rfl) ?_; intro wb HB hb hz
  have HS : SlR encB 1 wb (some ⟨w.heap.size, 0, none⟩) 5 kindsK := HB.slR (xs := kindsK) encB_len rfl (by omega)
  replace hw := grow_trans hw hb
  clear hb hz
  repeat' (first | (refine lw_pure rfl (pv_move rfl) ?_) | (refine lw_pure rfl (pv_assign rfl) ?_) | (refine is_cw ?_; first | (refine cw_seq ?_) | (refine cw_region ?_) | (refine cw_ret ?_)) | (refine is_qw ?_; first | (with_reducible refine qw_then ?_) | (with_reducible refine qw_then_ret ?_)) | (refine lw_nil ?_))
  exact qw_ret1 rfl rfl ⟨⟨_, rfl, HS⟩, hw⟩
set_option maxRecDepth 20000 in
theorem indexB_c {xs : List Int} {m : Nat} {ad : Option Addr} {cap : Nat} {w : World} (v : Int) (hm : xs.length = m) (HS : SlR encB 1 w ad cap xs) : Calls Tryd.prog 51 #[.slice ad m cap, .int .u8 v] w fun e w' => (∃ i : Int, e = .returned (.int .i64 i) ∧ (i = -1 ∧ v ∉ xs ∨ 0 ≤ i ∧ v ∈ xs)) ∧ Below w.heap.size w w' := by
  subst hm
  have hw := Below.refl w.heap.size w
  have hla := HS.le
  have hma := HS.max
  refine fn_enter 19 Tryd.func51 rfl rfl rfl ?_
  repeat' (first | (refine lw_pure rfl (pv_move rfl) ?_) | (refine lw_pure rfl (pv_assign rfl) ?_) | (refine is_cw ?_; first | (refine cw_seq ?_) | (refine cw_region ?_) | (refine cw_true rfl rfl ?_) | (refine cw_false rfl rfl ?_) | (refine is_cd ?_; refine cw_true rfl (by first | assumption | exact decide_eq_true (by omega) | exact dec_notT (by omega)) ?_) | (refine is_cd ?_; refine cw_false rfl (by first | assumption | exact decide_eq_false (by omega) | exact dec_notF (by omega)) ?_) | (refine cw_skip ?_) | (refine cw_block ?_) | (refine cw_exit ?_) | (refine cw_ret ?_)) | (refine is_qw ?_; first | (with_reducible refine qw_then ?_) | (with_reducible refine qw_in ?_) | (with_reducible refine qw_in_hit ?_) | (refine qw_in_miss rfl ?_) | (with_reducible refine qw_then_exit ?_) | (with_reducible refine qw_then_ret ?_) | (with_reducible refine qw_in_ret ?_)) | (refine lw_nil ?_) | ((refine is_bin ?_; first | (refine lw_pure rfl (pv_lss rfl rfl) ?_) | (refine lw_pure rfl (pv_eql rfl rfl) ?_) | (refine lw_pure rfl (pv_inc rfl rfl (by omega)) ?_) | (refine lw_pure rfl (pv_add rfl rfl (by omega)) ?_))) | ((refine is_load ?_; first | (refine lw_pure rfl (pv_load (t1 rfl) rfl (by first | fail)) ?_) | (refine lw_pure rfl (pv_loada (tA rfl) rfl (by first | fail) (by rfl)) ?_))) | ((refine is_ia ?_; first | (refine lw_pure rfl (pv_ian (tS rfl) rfl rfl (by omega)) ?_) | (refine lw_pure rfl (pv_ia (tS rfl) rfl rfl (by omega)) ?_))) | ((refine is_bi ?_; first | (refine lw_pure rfl (pv_lenl (tS rfl) rfl) ?_) | (refine lw_pure rfl (pv_lens (tStr rfl) rfl) ?_))))
  refine cw_loop (σ := Nat) (fun k => [(0, .slice ad xs.length cap), (1, .int .u8 v), (7, .int .i64 (xs.length : Nat)), (8, .int .i64 (k : Nat))]) (fun k wr => k ≤ xs.length ∧ Below w.heap.size w wr ∧ v ∉ xs.take k) (fun k => xs.length - k) 0 (by repeat' (first | exact trivial | refine ⟨rfl, ?_⟩)) ⟨Nat.zero_le _, hw, by simp⟩ ?_
  clear hw
  rintro k wr ⟨hk, hw, hn⟩
  by_cases hlt : k < xs.length
  · have hxk : xs[k]? = some xs[k] := List.getElem?_eq_getElem hlt
    have hmem := List.getElem_mem hlt
    obtain ⟨ab, ao, rfl, -, -⟩ := HS.at (by intro h; rw [h] at hlt; simp at hlt)
    generalize xs[k] = x at hxk hmem
    by_cases hv : v = x
    · repeat' (first | (refine lw_pure rfl (pv_move rfl) ?_) | (refine lw_pure rfl (pv_assign rfl) ?_) | (refine is_cw ?_; first | (refine cw_seq ?_) | (refine cw_region ?_) | (refine cw_true rfl rfl ?_) | (refine cw_false rfl rfl ?_) | (refine is_cd ?_; refine cw_true rfl (by first | assumption | exact decide_eq_true (by omega) | exact dec_notT (by omega)) ?_) | (refine is_cd ?_; refine cw_false rfl (by first | assumption | exact decide_eq_false (by omega) | exact dec_notF (by omega)) ?_) | (refine cw_skip ?_) | (refine cw_block ?_) | (refine cw_exit ?_) | (refine cw_ret ?_)) | (refine is_qw ?_; first | (with_reducible refine qw_then ?_) | (with_reducible refine qw_in ?_) | (with_reducible refine qw_in_hit ?_) | (refine qw_in_miss rfl ?_) | (with_reducible refine qw_then_exit ?_) | (with_reducible refine qw_then_ret ?_) | (with_reducible refine qw_in_ret ?_)) | (refine lw_nil ?_) | ((refine is_bin ?_; first | (refine lw_pure rfl (pv_lss rfl rfl) ?_) | (refine lw_pure rfl (pv_eql rfl rfl) ?_) | (refine lw_pure rfl (pv_inc rfl rfl (by omega)) ?_) | (refine lw_pure rfl (pv_add rfl rfl (by omega)) ?_))) | ((refine is_load ?_; first | (refine lw_pure rfl (pv_load (t1 rfl) rfl (by first | exact SlR.ld (HS.mono hw) hxk rfl | exact SlR.ld1 (HS.mono hw) hxk rfl)) ?_) | (refine lw_pure rfl (pv_loada (tA rfl) rfl (by first | exact SlR.lda (HS.mono hw) hxk) (by rfl)) ?_))) | ((refine is_ia ?_; first | (refine lw_pure rfl (pv_ian (tS rfl) rfl rfl (by omega)) ?_) | (refine lw_pure rfl (pv_ia (tS rfl) rfl rfl (by omega)) ?_))) | ((refine is_bi ?_; first | (refine lw_pure rfl (pv_lenl (tS rfl) rfl) ?_) | (refine lw_pure rfl (pv_lens (tStr rfl) rfl) ?_))))
      exact qw_ret1 rfl rfl ⟨⟨_, rfl, Or.inr ⟨by omega, hv ▸ hmem⟩⟩, hw⟩
    · repeat' (first | (refine lw_pure rfl (pv_move rfl) ?_) | (refine lw_pure rfl (pv_assign rfl) ?_) | (refine is_cw ?_; first | (refine cw_seq ?_) | (refine cw_region ?_) | (refine cw_true rfl rfl ?_) | (refine cw_false rfl rfl ?_) | (refine is_cd ?_; refine cw_true rfl (by first | assumption | exact decide_eq_true (by omega) | exact dec_notT (by omega)) ?_) | (refine is_cd ?_; refine cw_false rfl (by first | assumption | exact decide_eq_false (by omega) | exact dec_notF (by omega)) ?_) | (refine cw_skip ?_) | (refine cw_block ?_) | (refine cw_exit ?_) | (refine cw_ret ?_)) | (refine is_qw ?_; first | (with_reducible refine qw_then ?_) | (with_reducible refine qw_in ?_) | (with_reducible refine qw_in_hit ?_) | (refine qw_in_miss rfl ?_) | (with_reducible refine qw_then_exit ?_) | (with_reducible refine qw_then_ret ?_) | (with_reducible refine qw_in_ret ?_)) | (refine lw_nil ?_) | ((refine is_bin ?_; first | (refine lw_pure rfl (pv_lss rfl rfl) ?_) | (refine lw_pure rfl (pv_eql rfl rfl) ?_) | (refine lw_pure rfl (pv_inc rfl rfl (by omega)) ?_) | (refine lw_pure rfl (pv_add rfl rfl (by omega)) ?_))) | ((refine is_load ?_; first | (refine lw_pure rfl (pv_load (t1 rfl) rfl (by first | exact SlR.ld (HS.mono hw) hxk rfl | exact SlR.ld1 (HS.mono hw) hxk rfl)) ?_) | (refine lw_pure rfl (pv_loada (tA rfl) rfl (by first | exact SlR.lda (HS.mono hw) hxk) (by rfl)) ?_))) | ((refine is_ia ?_; first | (refine lw_pure rfl (pv_ian (tS rfl) rfl rfl (by omega)) ?_) | (refine lw_pure rfl (pv_ia (tS rfl) rfl rfl (by omega)) ?_))) | ((refine is_bi ?_; first | (refine lw_pure rfl (pv_lenl (tS rfl) rfl) ?_) | (refine lw_pure rfl (pv_lens (tStr rfl) rfl) ?_))))
      refine qw_round (k + 1) (by repeat' (first | exact trivial | refine ⟨rfl, ?_⟩)) ⟨by omega, hw, ?_⟩ (by omega)
      rw [List.take_add_one, hxk]
      simp only [Option.toList, List.mem_append, List.mem_singleton, not_or]
      exact ⟨hn, hv⟩
  · have hkl : k = xs.length := by omega
    subst hkl
    rw [List.take_length] at hn
    repeat' (first | (refine lw_pure rfl (pv_move rfl) ?_) | (refine lw_pure rfl (pv_assign rfl) ?_) | (refine is_cw ?_; first | (refine cw_seq ?_) | (refine cw_region ?_) | (refine cw_true rfl rfl ?_) | (refine cw_false rfl rfl ?_) | (refine is_cd ?_; refine cw_true rfl (by first | assumption | exact decide_eq_true (by omega) | exact dec_notT (by omega)) ?_) | (refine is_cd ?_; refine cw_false rfl (by first | assumption | exact decide_eq_false (by omega) | exact dec_notF (by omega)) ?_) | (refine cw_skip ?_) | (refine cw_block ?_) | (refine cw_exit ?_) | (refine cw_ret ?_)) | (refine is_qw ?_; first | (with_reducible refine qw_then ?_) | (with_reducible refine qw_in ?_) | (with_reducible refine qw_in_hit ?_) | (refine qw_in_miss rfl ?_) | (with_reducible refine qw_then_exit ?_) | (with_reducible refine qw_then_ret ?_) | (with_reducible refine qw_in_ret ?_)) | (refine lw_nil ?_) | ((refine is_bin ?_; first | (refine lw_pure rfl (pv_lss rfl rfl) ?_) | (refine lw_pure rfl (pv_eql rfl rfl) ?_) | (refine lw_pure rfl (pv_inc rfl rfl (by omega)) ?_) | (refine lw_pure rfl (pv_add rfl rfl (by omega)) ?_))) | ((refine is_load ?_; first | (refine lw_pure rfl (pv_load (t1 rfl) rfl (by first | fail)) ?_) | (refine lw_pure rfl (pv_loada (tA rfl) rfl (by first | fail) (by rfl)) ?_))) | ((refine is_ia ?_; first | (refine lw_pure rfl (pv_ian (tS rfl) rfl rfl (by omega)) ?_) | (refine lw_pure rfl (pv_ia (tS rfl) rfl rfl (by omega)) ?_))) | ((refine is_bi ?_; first | (refine lw_pure rfl (pv_lenl (tS rfl) rfl) ?_) | (refine lw_pure rfl (pv_lens (tStr rfl) rfl) ?_))))
    exact qw_ret1 rfl rfl ⟨⟨_, rfl, Or.inl ⟨rfl, hn⟩⟩, hw⟩
theorem kind_mem (v : Int) : (v ∈ kindsK) ↔ kindB v = true := by unfold kindsK kindB; simp
set_option maxRecDepth 20000 in
theorem containsK_c {N : Nat} {w : World} (v : Int) (HS : SlR encB 1 w (some ⟨N, 0, none⟩) 5 kindsK) : Calls Tryd.prog 28 #[.slice (some ⟨N, 0, none⟩) 5 5, .int .u8 v] w fun e w' => e = .returned (.bool (kindB v)) ∧ Below w.heap.size w w' := by
  have hw := Below.refl w.heap.size w
  refine fn_enter 9 Tryd.func28 rfl rfl rfl ?_
  repeat' (first | (refine lw_pure rfl (pv_move rfl) ?_) | (refine lw_pure rfl (pv_assign rfl) ?_) | (refine is_cw ?_; first | (refine cw_seq ?_) | (refine cw_region ?_) | (refine cw_ret ?_)) | (refine is_qw ?_; first | (with_reducible refine qw_then ?_) | (with_reducible refine qw_then_ret ?_)) | (refine lw_nil ?_) | ((refine is_bin ?_; first | (refine lw_pure rfl (pv_geq rfl rfl) ?_))))
  refine lw_call (f := 51) (by kernel_rfl) rfl rfl (indexB_c v rfl (HS.mono hw)) ?_; rintro e w1 ⟨⟨i, rfl, hi⟩, hb⟩; refine ⟨_, rfl, ?_⟩; replace hw := grow_trans hw hb; clear hb
  rw [kind_mem] at hi
  rcases hi with ⟨rfl, h⟩ | ⟨h0, h⟩
  · rw [show kindB v = false from by simpa using h]
    repeat' (first | (refine lw_pure rfl (pv_move rfl) ?_) | (refine lw_pure rfl (pv_assign rfl) ?_) | (refine is_cw ?_; first | (refine cw_seq ?_) | (refine cw_region ?_) | (refine cw_ret ?_)) | (refine is_qw ?_; first | (with_reducible refine qw_then ?_) | (with_reducible refine qw_then_ret ?_)) | (refine lw_nil ?_) | ((refine is_bin ?_; first | (refine lw_pure rfl (pv_geq rfl rfl) ?_))))
    exact qw_ret1 rfl rfl ⟨rfl, hw⟩
  · rw [h]
    repeat' (first | (refine lw_pure rfl (pv_move rfl) ?_) | (refine lw_pure rfl (pv_assign rfl) ?_) | (refine is_cw ?_; first | (refine cw_seq ?_) | (refine cw_region ?_) | (refine cw_ret ?_)) | (refine is_qw ?_; first | (with_reducible refine qw_then ?_) | (with_reducible refine qw_then_ret ?_)) | (refine lw_nil ?_) | ((refine is_bin ?_; first | (refine lw_pure rfl (pv_geq rfl rfl) ?_))))
    exact qw_ret1 rfl rfl ⟨by rw [decide_eq_true h0], hw⟩
end Go.Proofs.YtnffmbfdfhokeaaDoor
