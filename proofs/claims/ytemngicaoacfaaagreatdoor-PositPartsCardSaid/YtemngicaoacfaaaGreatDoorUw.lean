/-
  Contracts of the laws' helpers (layer 23): event, long, open, lots, full, awake. Conditions: what each names; for awake: the table of kinds lies in memory (KnW).
-/
import Derived.Test.YtemngicaoacfaaaGreatDoorUv
import Derived.Test.YtemngicaoacfaaaGreatDoorEv
namespace Go.Proofs.YtemngicaoacfaaaGreatDoor
open Go.RowKit Go.PlainAid

set_option maxRecDepth 20000 in
set_option maxHeartbeats 4000000 in
theorem evnew_p (k : Int) (a : Option Addr) (m c : Nat) (w : World) :
    Calls Tryz.prog 35 #[.int .u8 k, .slice a m c] w fun e w' => e = .returned (.agg #[.int .u8 3, .int .u8 k, .slice a m c, .slice none 0 0]) ∧ Below w.heap.size w w' := by
  have hE := Ext.refl w
  have hw := Below.refl w.heap.size w
  refine fn_enter 8 Tryz.func35 rfl rfl rfl ?_
  repeat' (first | (refine is_cw ?_; first | (refine cw_seq ?_) | (refine cw_region ?_)))
  refine lw_allocN rfl (by first | exact tyv_27 | exact tyv_28 | exact tyv_38 | exact tyv_39 | exact tyv_48 | exact tyv_49 | exact tyv_52 | exact tyv_53 | exact tyv_68 | exact tyv_69 | exact tyv_79 | exact tyv_80 | exact tyv_94 | exact tyv_95 | exact tyv_131 | exact tyv_132) rfl ?_; intro N w1 hN H hb
  replace hE := hE.mono hb
  clear hb hw
  have hw := Below.refl w1.heap.size w1
  repeat' (first | (refine lw_pure rfl (pv_move rfl) ?_) | (refine is_cw ?_; first | (refine cw_seq ?_) | (refine cw_region ?_)) | (refine is_qw ?_; first | (with_reducible refine qw_then ?_)) | (refine lw_nil ?_) | ((refine is_bd ?_; first | (refine lw_pure rfl (tyB_28 rfl rfl rfl) ?_))))
  refine lw_storea (vs := [.int .u8 3, .int .u8 k, .slice a m c, .slice none 0 0]) (H.mono hw) (tZ rfl) rfl rfl rfl rfl (by intro v hv; simp at hv; rcases hv with rfl | rfl | rfl | rfl <;> rfl) ?_; intro w3 H2 hg hz
  replace hE := (hE.mono hw).grown hg (by intro q hq; injection hq with hq; omega)
  clear hw
  have hw := Below.refl w3.heap.size w3
  repeat' (first | (refine is_cw ?_; first | (refine cw_ret ?_)) | (refine is_qw ?_; first | (with_reducible refine qw_then ?_)) | (refine lw_nil ?_))
  exact qw_retc rfl rfl (agg_ld (tA rfl) rfl (fun i u hu => H2.ld0 hu)) ⟨rfl, hE.b⟩
set_option maxRecDepth 20000 in
set_option maxHeartbeats 4000000 in
theorem long_c {e : Evt} {v k : Int} {al ap at_ an ax : Option Addr} {ml cl mp cp mt ct mn cn mx cx : Nat} {w : World} (hmx : e.texts.length = mx) (HX : SlR encT 1 w ax cx e.texts) :
    Calls Tryz.prog 9 #[.slice al ml cl, .slice ap mp cp, .slice at_ mt ct, .agg #[.int .u8 v, .int .u8 k, .slice an mn cn, .slice ax mx cx]] w fun e1 w' => (∃ r, e1 = .returned (.bool r) ∧ (r = false → ml ≤ 1200 ∧ mp ≤ 200 ∧ mt ≤ 100 ∧ mn ≤ 100 ∧ mx ≤ 100)) ∧ Below w.heap.size w w' := by
  subst hmx
  have hE := Ext.refl w
  have hw := Below.refl w.heap.size w
  have hxm := HX.max
  have hxl := HX.le
  refine fn_enter 49 Tryz.func9 rfl rfl rfl ?_
  repeat' (first | (refine is_cw ?_; first | (refine cw_seq ?_) | (refine cw_region ?_)))
  refine lw_boxN rfl rfl (cs := [.int .u8 v, .int .u8 k, .slice an mn cn, .slice ax e.texts.length cx]) rfl ?_; intro N7 w7 hN7 HV hb
  replace hw := grow_trans hw hb
  clear hb
  replace hE := hE.mono hw; replace HX := HX.mono hw; clear hw; have hw := Below.refl w7.heap.size w7
  by_cases hbig : 1200 < ml ∨ 200 < mp ∨ 100 < mt ∨ 100 < mn ∨ 100 < e.texts.length
  · repeat' (first | (refine lw_pure rfl (pv_move rfl) ?_) | (refine lw_pure rfl (pv_assign rfl) ?_) | (refine is_cw ?_; first | (refine cw_seq ?_) | (refine cw_region ?_) | (refine cw_true rfl rfl ?_) | (refine cw_true rfl (by first | assumption | exact decide_eq_true (by omega) | exact dec_notT (by omega)) ?_) | (refine cw_ret ?_)) | (refine is_qw ?_; first | (with_reducible refine qw_then ?_) | (with_reducible refine qw_then_ret ?_)) | (refine lw_nil ?_) | (refine is_guarded ?_; first | (refine lw_not rfl rfl rfl rfl ?_) | (refine lw_on rfl rfl (by first | assumption | exact decide_eq_true (by omega) | exact decide_eq_false (by omega) | exact dec_notT (by omega) | exact dec_notF (by omega)) ?_) | (refine lw_not rfl rfl rfl (by first | assumption | exact decide_eq_true (by omega) | exact decide_eq_false (by omega) | exact dec_notT (by omega) | exact dec_notF (by omega)) ?_) | (refine lw_gs_f rfl rfl rfl (fun hc => ?_) (fun hc => ?_) <;> (first | replace hc := of_decide_eq_true hc | replace hc := of_decide_eq_false hc | replace hc := dec_nT hc | replace hc := dec_nF hc | skip) <;> (try (exfalso; omega)))) | ((refine is_bin ?_; first | (refine lw_pure rfl (pv_gtr rfl rfl) ?_))) | ((refine is_load ?_; first | (refine lw_pure rfl (pv_load (t1 rfl) rfl (by first | exact PT.ld0 (HV.mono hw) rfl | exact PT.ld (HV.mono hw) rfl)) ?_))) | ((refine is_fa ?_; first | (refine lw_pure rfl (pv_fa (tF rfl) rfl) ?_))) | ((refine is_bi ?_; first | (refine lw_pure rfl (pv_lenl (tS rfl) rfl) ?_))) | (refine lw_pure rfl (pv_pick_t rfl rfl rfl) ?_) | (refine lw_pure rfl (pv_pick_t rfl (by first | assumption | exact decide_eq_true (by omega) | exact dec_notT (by omega)) rfl) ?_) | (refine lw_pure rfl (pv_pick_f rfl (by first | assumption | exact decide_eq_false (by omega) | exact dec_notF (by omega)) rfl) ?_))
    all_goals exact qw_ret1 rfl rfl ⟨⟨_, rfl, fun h => by simp at h⟩, (hE.mono hw).b⟩
  · repeat' ((fail_if_success (refine is_seqb ?_)); (fail_if_success (refine is_blk ?_)); first | (refine lw_pure rfl (pv_move rfl) ?_) | (refine lw_pure rfl (pv_assign rfl) ?_) | (refine is_cw ?_; first | (refine cw_seq ?_) | (refine cw_region ?_) | (refine cw_false rfl (by first | assumption | exact decide_eq_false (by omega) | exact dec_notF (by omega)) ?_) | (refine cw_skip ?_)) | (refine is_qw ?_; first | (with_reducible refine qw_then ?_)) | (refine lw_nil ?_) | (refine is_guarded ?_; first | (refine lw_on rfl rfl (by first | assumption | exact decide_eq_true (by omega) | exact decide_eq_false (by omega) | exact dec_notT (by omega) | exact dec_notF (by omega)) ?_)) | ((refine is_bin ?_; first | (refine lw_pure rfl (pv_gtr rfl rfl) ?_))) | ((refine is_load ?_; first | (refine lw_pure rfl (pv_load (t1 rfl) rfl (by first | exact PT.ld0 (HV.mono hw) rfl | exact PT.ld (HV.mono hw) rfl)) ?_))) | ((refine is_fa ?_; first | (refine lw_pure rfl (pv_fa (tF rfl) rfl) ?_))) | ((refine is_bi ?_; first | (refine lw_pure rfl (pv_lenl (tS rfl) rfl) ?_))) | (refine lw_pure rfl (pv_pick_f rfl (by first | assumption | exact decide_eq_false (by omega) | exact dec_notF (by omega)) rfl) ?_))
    repeat' (first | (refine is_cw ?_; first | (refine cw_block ?_)))
    refine cw_loop (σ := Nat) (fun k => [(7, .pointer (some ⟨N7, 0, none⟩)), (9, .int .i64 (k : Nat))]) (fun k wr => k ≤ e.texts.length ∧ Below w7.heap.size w7 wr) (fun k => e.texts.length - k) 0 (by repeat' (first | exact trivial | refine ⟨rfl, ?_⟩)) ⟨Nat.zero_le _, hw⟩ ?_
    clear hw
    rintro k wr ⟨hk, hw⟩
    by_cases hlt : k < e.texts.length
    · have hxk : e.texts[k]? = some e.texts[k] := List.getElem?_eq_getElem hlt
      obtain ⟨ab, ao, rfl, -, -⟩ := HX.at (by intro h; rw [h] at hlt; simp at hlt)
      generalize e.texts[k] = s at hxk
      by_cases hs : 300 < s.size
      · repeat' (first | (refine lw_pure rfl (pv_move rfl) ?_) | (refine lw_pure rfl (pv_assign rfl) ?_) | (refine is_cw ?_; first | (refine cw_seq ?_) | (refine cw_region ?_) | (refine cw_true rfl (by first | assumption | exact decide_eq_true (by omega) | exact dec_notT (by omega)) ?_) | (refine cw_skip ?_) | (refine cw_block ?_) | (refine cw_ret ?_)) | (refine is_qw ?_; first | (with_reducible refine qw_then ?_) | (with_reducible refine qw_then_ret ?_) | (with_reducible refine qw_in_ret ?_)) | (refine lw_nil ?_) | ((refine is_bin ?_; first | (refine lw_pure rfl (pv_lss rfl rfl) ?_) | (refine lw_pure rfl (pv_gtr rfl rfl) ?_))) | ((refine is_load ?_; first | (refine lw_pure rfl (pv_load (t1 rfl) rfl (by first | exact PT.ld0 (HV.mono hw) rfl | exact PT.ld (HV.mono hw) rfl | exact SlR.ld (HX.mono hw) hxk rfl | exact SlR.ld1 (HX.mono hw) hxk rfl)) ?_))) | ((refine is_fa ?_; first | (refine lw_pure rfl (pv_fa (tF rfl) rfl) ?_))) | ((refine is_ia ?_; first | (refine lw_pure rfl (pv_ian (tS rfl) rfl rfl (by omega)) ?_))) | ((refine is_bi ?_; first | (refine lw_pure rfl (pv_lenl (tS rfl) rfl) ?_) | (refine lw_pure rfl (pv_lens (tStr rfl) rfl) ?_))))
        exact qw_ret1 rfl rfl ⟨⟨_, rfl, fun h => by simp at h⟩, (hE.mono hw).b⟩
      · repeat' (first | (refine lw_pure rfl (pv_move rfl) ?_) | (refine lw_pure rfl (pv_assign rfl) ?_) | (refine is_cw ?_; first | (refine cw_seq ?_) | (refine cw_region ?_) | (refine cw_true rfl (by first | assumption | exact decide_eq_true (by omega) | exact dec_notT (by omega)) ?_) | (refine cw_false rfl (by first | assumption | exact decide_eq_false (by omega) | exact dec_notF (by omega)) ?_) | (refine cw_skip ?_) | (refine cw_block ?_)) | (refine is_qw ?_; first | (with_reducible refine qw_then ?_) | (with_reducible refine qw_in ?_)) | (refine lw_nil ?_) | ((refine is_bin ?_; first | (refine lw_pure rfl (pv_lss rfl rfl) ?_) | (refine lw_pure rfl (pv_gtr rfl rfl) ?_) | (refine lw_pure rfl (pv_inc rfl rfl (by omega)) ?_))) | ((refine is_load ?_; first | (refine lw_pure rfl (pv_load (t1 rfl) rfl (by first | exact PT.ld0 (HV.mono hw) rfl | exact PT.ld (HV.mono hw) rfl | exact SlR.ld (HX.mono hw) hxk rfl | exact SlR.ld1 (HX.mono hw) hxk rfl)) ?_))) | ((refine is_fa ?_; first | (refine lw_pure rfl (pv_fa (tF rfl) rfl) ?_))) | ((refine is_ia ?_; first | (refine lw_pure rfl (pv_ian (tS rfl) rfl rfl (by omega)) ?_))) | ((refine is_bi ?_; first | (refine lw_pure rfl (pv_lenl (tS rfl) rfl) ?_) | (refine lw_pure rfl (pv_lens (tStr rfl) rfl) ?_))))
        exact qw_round (k + 1) (by repeat' (first | exact trivial | refine ⟨rfl, ?_⟩)) ⟨by omega, hw⟩ (by omega)
    · repeat' (first | (refine lw_pure rfl (pv_move rfl) ?_) | (refine lw_pure rfl (pv_assign rfl) ?_) | (refine is_cw ?_; first | (refine cw_seq ?_) | (refine cw_region ?_) | (refine cw_false rfl (by first | assumption | exact decide_eq_false (by omega) | exact dec_notF (by omega)) ?_) | (refine cw_exit ?_) | (refine cw_ret ?_)) | (refine is_qw ?_; first | (with_reducible refine qw_then ?_) | (with_reducible refine qw_in_hit ?_) | (with_reducible refine qw_then_exit ?_)) | (refine lw_nil ?_) | ((refine is_bin ?_; first | (refine lw_pure rfl (pv_lss rfl rfl) ?_))) | ((refine is_load ?_; first | (refine lw_pure rfl (pv_load (t1 rfl) rfl (by first | exact PT.ld0 (HV.mono hw) rfl | exact PT.ld (HV.mono hw) rfl)) ?_))) | ((refine is_fa ?_; first | (refine lw_pure rfl (pv_fa (tF rfl) rfl) ?_))) | ((refine is_bi ?_; first | (refine lw_pure rfl (pv_lenl (tS rfl) rfl) ?_))))
      exact qw_ret1 rfl rfl ⟨⟨_, rfl, fun _ => by omega⟩, (hE.mono hw).b⟩
def openL : List Opn := [⟨1, 2, 1, 2, 10, 3⟩, ⟨1, 3, 1, 1, 9, 3⟩, ⟨2, 1, 1, 1, 12, 5⟩, ⟨2, 4, 2, 2, 12, 5⟩, ⟨2, 5, 1, 2, 12, 5⟩]
def lotsL : List Lt := [⟨7, 1, 2, 5⟩]
set_option maxRecDepth 20000 in
theorem open_c (w : World) : Calls Tryz.prog 36 #[] w fun e w' => (∃ a, e = .returned (.slice a 5 5) ∧ SlR encP 6 w' a 5 openL) ∧ Below w.heap.size w w' := by
  have hw := Below.refl w.heap.size w
  refine fn_enter 7 Tryz.func36 rfl rfl rfl ?_
  repeat' (first | (refine lw_pure rfl (pv_assign rfl) ?_) | (refine is_cw ?_; first | (refine cw_seq ?_) | (refine cw_region ?_)) | (refine is_qw ?_; first | (with_reducible refine qw_then ?_)) | (refine lw_nil ?_) | ((refine is_bd ?_; first | (refine lw_pure rfl (tyB_49 rfl rfl rfl) ?_))))
  refine lw_bsN (vs := openL.map fun o => .agg (encP o).toArray) (cs := openL.flatMap encP) elemP rfl rfl rfl (by omega) (by omega) rfl (by intro v hv; simp [openL] at hv; rcases hv with rfl | rfl | rfl | rfl | rfl <;> rfl) ?_; intro N w1 hN HX hb
  replace hw := grow_trans hw hb
  repeat' (first | (refine lw_pure rfl (pv_assign rfl) ?_) | (refine is_cw ?_; first | (refine cw_ret ?_)) | (refine is_qw ?_; first | (with_reducible refine qw_then ?_)) | (refine lw_nil ?_))
  exact qw_ret1 rfl rfl ⟨⟨_, rfl, HX.slR (xs := openL) encP_len rfl (by omega)⟩, hw⟩
set_option maxRecDepth 20000 in
theorem lots_c (w : World) : Calls Tryz.prog 37 #[] w fun e w' => (∃ a, e = .returned (.slice a 1 1) ∧ SlR encL 4 w' a 1 lotsL) ∧ Below w.heap.size w w' := by
  have hw := Below.refl w.heap.size w
  refine fn_enter 3 Tryz.func37 rfl rfl rfl ?_
  repeat' (first | (refine lw_pure rfl (pv_assign rfl) ?_) | (refine is_cw ?_; first | (refine cw_seq ?_) | (refine cw_region ?_)) | (refine is_qw ?_; first | (with_reducible refine qw_then ?_)) | (refine lw_nil ?_) | ((refine is_bd ?_; first | (refine lw_pure rfl (tyB_53 rfl rfl rfl) ?_))))
  refine lw_bsN (vs := lotsL.map fun o => .agg (encL o).toArray) (cs := lotsL.flatMap encL) elemL rfl rfl rfl (by omega) (by omega) rfl (by intro v hv; simp [lotsL] at hv; subst hv; rfl) ?_; intro N w1 hN HX hb
  replace hw := grow_trans hw hb
  repeat' (first | (refine lw_pure rfl (pv_assign rfl) ?_) | (refine is_cw ?_; first | (refine cw_ret ?_)) | (refine is_qw ?_; first | (with_reducible refine qw_then ?_)) | (refine lw_nil ?_))
  exact qw_ret1 rfl rfl ⟨⟨_, rfl, HX.slR (xs := lotsL) encL_len rfl (by omega)⟩, hw⟩
set_option maxRecDepth 20000 in
theorem full_c (x : Pos) (w : World) : Calls Tryz.prog 17 #[.agg (encS x).toArray] w fun e w' => e = .returned (.bool (fullS x)) ∧ Below w.heap.size w w' := by
  have hE := Ext.refl w
  have hw := Below.refl w.heap.size w
  refine fn_enter 21 Tryz.func17 rfl rfl rfl ?_
  repeat' (first | (refine is_cw ?_; first | (refine cw_seq ?_) | (refine cw_region ?_)))
  refine lw_boxN rfl rfl (cs := encS x) rfl ?_; intro N w1 hN H hb
  replace hw := grow_trans hw hb
  clear hb
  replace hE := hE.mono hw; clear hw; have hw := Below.refl w1.heap.size w1
  repeat' (first | (refine lw_pure rfl (pv_move rfl) ?_) | (refine lw_pure rfl (pv_assign rfl) ?_) | (refine is_cw ?_; first | (refine cw_seq ?_) | (refine cw_region ?_) | (refine cw_ret ?_)) | (refine is_qw ?_; first | (with_reducible refine qw_then ?_)) | (refine lw_nil ?_) | (refine is_guarded ?_; first | (refine lw_not rfl rfl rfl rfl ?_) | (refine lw_on rfl rfl (by first | assumption | exact decide_eq_true (by omega) | exact decide_eq_false (by omega) | exact dec_notT (by omega) | exact dec_notF (by omega)) ?_) | (refine lw_not rfl rfl rfl (by first | assumption | exact decide_eq_true (by omega) | exact decide_eq_false (by omega) | exact dec_notT (by omega) | exact dec_notF (by omega)) ?_) | (refine lw_gs_f rfl rfl rfl (fun hc => ?_) (fun hc => ?_) <;> (first | replace hc := of_decide_eq_true hc | replace hc := of_decide_eq_false hc | replace hc := dec_nT hc | replace hc := dec_nF hc | skip) <;> (try (exfalso; omega)))) | ((refine is_bin ?_; first | (refine lw_pure rfl (pv_eql rfl rfl) ?_))) | ((refine is_load ?_; first | (refine lw_pure rfl (pv_load (t1 rfl) rfl (by first | exact PT.ld0 (H.mono hw) rfl | exact PT.ld (H.mono hw) rfl)) ?_))) | ((refine is_fa ?_; first | (refine lw_pure rfl (pv_fa (tF rfl) rfl) ?_))) | (refine lw_pure rfl (pv_pick_t rfl rfl rfl) ?_) | (refine lw_pure rfl (pv_pick_t rfl (by first | assumption | exact decide_eq_true (by omega) | exact dec_notT (by omega)) rfl) ?_) | (refine lw_pure rfl (pv_pick_f rfl (by first | assumption | exact decide_eq_false (by omega) | exact dec_notF (by omega)) rfl) ?_))
  all_goals (refine qw_ret1 rfl rfl ⟨ret_bool ?_, (hE.mono hw).b⟩; unfold fullS farS; first | (rw [Bool.eq_iff_iff]; simp; omega) | (simp; omega) | (simp [*]; done))
abbrev aA0 : Pos := ⟨1, 1, 0, 3, 0, 35⟩
abbrev aA1 : Pos := ⟨2, 1, 3, 0, 36, 0⟩
abbrev aB0 : Pos := ⟨1, 2, 0, 5, 0, 99⟩
abbrev aB1 : Pos := ⟨3, 2, 5, 0, 100, 0⟩
abbrev evA : Evt := ⟨3, 13, [1, 2, 12, 3, 1], []⟩
abbrev evB : Evt := ⟨3, 18, [7, 3, 100, 1], []⟩
theorem awA : posR [] openL [] evA = ([aA0, aA1], 0) := by kernel_rfl
theorem awB : posR [] [] lotsL evB = ([aB0, aB1], 0) := by kernel_rfl
theorem pv_eqlSt {n : Nat} {l : Fr} {w : World} {d : Option Nat} {t' ty : TypeId} {x y : Operand} {pos : String} {af : Array Edge} {g : Option (Nat × Bool)} (a : Pos) (hx : ev l x = some (.agg (encS a).toArray)) (hy : ev l y = some (.agg (encS a).toArray)) : Pv Tryz.prog n l ⟨d, .binOp .eql 39 x y t', ty, pos, af, g⟩ (.bool true) w := by
  have h := pv_eqlS (n := n) (w := w) (d := d) (t' := t') (ty := ty) (pos := pos) (af := af) (g := g) a a hx hy
  simpa using h
theorem get_e {l : List Pos} {m : Nat} {a : Option Addr} {ca : Nat} {w : World} {ac i : Int} {r : Pos} (h : getS l ac i = r) (hm : l.length = m) (HP : SlR encS 6 w a ca l) : Calls Tryz.prog 18 #[.slice a m ca, .int .i64 ac, .int .i64 i] w fun e w' => e = .returned (.agg (encS r).toArray) ∧ Below w.heap.size w w' := by subst h; exact get_c ac i hm HP
theorem pev_e {L : List Pos} {k : Int} {nL : Nat} {l : List Pos} {p : List Opn} {t : List Lt} {e : Evt} {ml mp mt mn mx : Nat} {al ap at_ an ax : Option Addr} {cl cp ct cn cx : Nat} {w : World} (hR : posR l p t e = (L, k)) (hL : L.length = nL) (h8 : 0 ≤ e.kind ∧ e.kind ≤ 255) (hml : l.length = ml) (hl : l.length ≤ 65534) (hmp : p.length = mp) (hmt : t.length = mt) (hmn : e.nums.length = mn) (hmx : e.texts.length = mx) (HS : SlR encS 6 w al cl l) (HP : SlR encP 6 w ap cp p) (HL : SlR encL 4 w at_ ct t) (HN : SlR encI 1 w an cn e.nums) (HX : SlR encT 1 w ax cx e.texts) (hT : TxtIn e.texts) (hK : KnW w) :
    Calls Tryz.prog 13 #[.slice al ml cl, .slice ap mp cp, .slice at_ mt ct, .agg #[.int .u8 e.v, .int .u8 e.kind, .slice an mn cn, .slice ax mx cx]] w fun e1 w' => (∃ a c, e1 = .returned (.tuple #[.slice a nL c, .int .i64 k]) ∧ SlR encS 6 w' a c L) ∧ Below w.heap.size w w' := by
  subst hL
  have h1 := pev_c h8 hml hl hmp hmt hmn hmx HS HP HL HN HX hT hK
  rw [hR] at h1
  refine h1.mono ?_
  rintro e1 w' ⟨⟨vo, rfl, hO⟩, hb⟩
  obtain ⟨a, c, rfl, hS, -⟩ := Own.slR encS_len hO
  exact ⟨⟨a, c, rfl, hS⟩, hb⟩
set_option maxRecDepth 20000 in
set_option maxHeartbeats 8000000 in
theorem awake_c {w : World} (hK : KnW w) : Calls Tryz.prog 10 #[] w fun e w' => e = .returned (.bool true) ∧ Below w.heap.size w w' := by
  have hE := Ext.refl w
  have hw := Below.refl w.heap.size w
  refine fn_enter 75 Tryz.func10 rfl rfl rfl ?_
  repeat' (first | (refine lw_pure rfl (pv_assign rfl) ?_) | (refine is_cw ?_; first | (refine cw_seq ?_) | (refine cw_region ?_)) | (refine is_qw ?_; first | (with_reducible refine qw_then ?_)) | (refine lw_nil ?_))
  refine lw_call (f := 36) (by kernel_rfl) rfl rfl (open_c _) ?_; rintro e1 w1 ⟨⟨oa, rfl, HO⟩, hb⟩; refine ⟨_, rfl, ?_⟩; replace hw := grow_trans hw hb; clear hb
  replace hE := hE.mono hw; replace hK := hK.mono hw; clear hw; have hw := Below.refl w1.heap.size w1
  skip
  refine lw_bsN (vs := [.int .i64 1, .int .i64 2, .int .i64 12, .int .i64 3, .int .i64 1]) (cs := [.int .i64 1, .int .i64 2, .int .i64 12, .int .i64 3, .int .i64 1]) elemI rfl rfl rfl (by omega) (by omega) rfl (by simp [Value.cells]) ?_; intro BA wn _ HX hb
  have HN : SlR encI 1 wn (some ⟨BA, 0, none⟩) 5 evA.nums := HX.slR (xs := [1, 2, 12, 3, 1]) encI_len rfl (by omega)
  replace hw := grow_trans hw hb; clear hb HX
  replace hE := hE.mono hw; replace hK := hK.mono hw; replace HO := HO.mono hw; clear hw; have hw := Below.refl wn.heap.size wn
  repeat' (first | (refine lw_call (f := 35) (by kernel_rfl) rfl rfl (evnew_p 13 _ 5 5 _) ?_; rintro e w1 ⟨rfl, hb⟩; refine ⟨_, rfl, ?_⟩; replace hw := grow_trans hw hb; clear hb))
  refine lw_call (f := 13) (by kernel_rfl) rfl rfl (pev_e (nL := 2) (e := evA) awA rfl (by decide) rfl (by decide) rfl rfl rfl rfl (SlR.nil _) (HO.mono hw) (SlR.nil _) (HN.mono hw) (SlR.nil _) tx_nil (hK.mono hw)) ?_; rintro e1 w2 ⟨⟨ra, rc, rfl, HA⟩, hb⟩; refine ⟨_, rfl, ?_⟩; replace hw := grow_trans hw hb; clear hb
  replace hE := hE.mono hw; replace hK := hK.mono hw; clear hw; have hw := Below.refl w2.heap.size w2
  clear HO HN
  repeat' (first | (refine lw_pure rfl (pv_move rfl) ?_) | (refine lw_pure rfl (pv_assign rfl) ?_) | (refine is_cw ?_; first | (refine cw_seq ?_) | (refine cw_region ?_)) | (refine is_qw ?_; first | (with_reducible refine qw_then ?_)) | (refine lw_nil ?_) | (refine lw_pure rfl (pv_extract rfl rfl) ?_))
  refine lw_call (f := 37) (by kernel_rfl) rfl rfl (lots_c _) ?_; rintro e1 w3 ⟨⟨la, rfl, HL⟩, hb⟩; refine ⟨_, rfl, ?_⟩; replace hw := grow_trans hw hb; clear hb
  replace hE := hE.mono hw; replace hK := hK.mono hw; replace HA := HA.mono hw; clear hw; have hw := Below.refl w3.heap.size w3
  skip
  refine lw_bsN (vs := [.int .i64 7, .int .i64 3, .int .i64 100, .int .i64 1]) (cs := [.int .i64 7, .int .i64 3, .int .i64 100, .int .i64 1]) elemI rfl rfl rfl (by omega) (by omega) rfl (by simp [Value.cells]) ?_; intro BB wn _ HX hb
  have HN : SlR encI 1 wn (some ⟨BB, 0, none⟩) 4 evB.nums := HX.slR (xs := [7, 3, 100, 1]) encI_len rfl (by omega)
  replace hw := grow_trans hw hb; clear hb HX
  replace hE := hE.mono hw; replace hK := hK.mono hw; replace HA := HA.mono hw; replace HL := HL.mono hw; clear hw; have hw := Below.refl wn.heap.size wn
  repeat' (first | (refine lw_call (f := 35) (by kernel_rfl) rfl rfl (evnew_p 18 _ 4 4 _) ?_; rintro e w1 ⟨rfl, hb⟩; refine ⟨_, rfl, ?_⟩; replace hw := grow_trans hw hb; clear hb))
  refine lw_call (f := 13) (by kernel_rfl) rfl rfl (pev_e (nL := 2) (e := evB) awB rfl (by decide) rfl (by decide) rfl rfl rfl rfl (SlR.nil _) (SlR.nil _) (HL.mono hw) (HN.mono hw) (SlR.nil _) tx_nil (hK.mono hw)) ?_; rintro e1 w4 ⟨⟨sa, sc, rfl, HB⟩, hb⟩; refine ⟨_, rfl, ?_⟩; replace hw := grow_trans hw hb; clear hb
  replace hE := hE.mono hw; replace HA := HA.mono hw; clear hw; have hw := Below.refl w4.heap.size w4
  clear HL HN hK
  obtain ⟨ab, ao, rfl, -, -⟩ := HA.at (by simp)
  obtain ⟨bb, bo, rfl, -, -⟩ := HB.at (by simp)
  have hA0 : ([aA0, aA1] : List Pos)[0]? = some aA0 := rfl
  have hA1 : ([aA0, aA1] : List Pos)[1]? = some aA1 := rfl
  have hB0 : ([aB0, aB1] : List Pos)[0]? = some aB0 := rfl
  have hB1 : ([aB0, aB1] : List Pos)[1]? = some aB1 := rfl
  repeat' (first | (refine lw_pure rfl (pv_move rfl) ?_) | (refine lw_pure rfl (pv_assign rfl) ?_) | (refine is_cw ?_; first | (refine cw_seq ?_) | (refine cw_region ?_) | (refine cw_false rfl rfl ?_) | (refine cw_skip ?_)) | (refine is_qw ?_; first | (with_reducible refine qw_then ?_)) | (refine lw_nil ?_) | (refine is_guarded ?_; first | (refine lw_on rfl rfl rfl ?_)) | ((refine is_bin ?_; first | (refine lw_pure rfl (pv_neq rfl rfl) ?_))) | ((refine is_bi ?_; first | (refine lw_pure rfl (pv_lenl (tS rfl) rfl) ?_))) | (refine lw_pure rfl (pv_pick_f rfl rfl rfl) ?_) | (refine lw_pure rfl (pv_extract rfl rfl) ?_))
  refine cw_drawn (fun w' => Below w4.heap.size w4 w') (by kernel_rfl) (by repeat (first | exact NoPanic.body | with_reducible refine NoPanic.then ?_ | with_reducible refine NoPanic.inBlock ?_)) (fun hNP => ?_)
  have hS := hw.drew
  all_goals (refine aw_take 0 rfl (by kernel_rfl) (by kernel_rfl) (by kernel_rfl) hNP hS rfl (fun w' hq => pv_move rfl) ?_)
  all_goals (refine aw_take 1 rfl (by kernel_rfl) (by kernel_rfl) (by kernel_rfl) hNP hS rfl (fun w' hq => pv_ia (tS rfl) rfl rfl (by omega)) ?_)
  all_goals (refine aw_take 2 rfl (by kernel_rfl) (by kernel_rfl) (by kernel_rfl) hNP hS rfl (fun w' hq => pv_loada (tA rfl) rfl (by first | exact SlR.lda (HA.mono hq) hA0 | exact SlR.lda (HA.mono hq) hA1 | exact SlR.lda (HB.mono hq) hB0 | exact SlR.lda (HB.mono hq) hB1) (by rfl)) ?_)
  all_goals (refine aw_take 3 rfl (by kernel_rfl) (by kernel_rfl) (by kernel_rfl) hNP hS rfl (fun w' hq => tyB_39 rfl rfl rfl) ?_)
  all_goals (refine aw_take 4 rfl (by kernel_rfl) (by kernel_rfl) (by kernel_rfl) hNP hS rfl (fun w' hq => pv_eqlSt aA0 rfl rfl) ?_)
  all_goals (refine aw_take 5 rfl (by kernel_rfl) (by kernel_rfl) (by kernel_rfl) hNP hS rfl (fun w' hq => pv_move rfl) ?_)
  all_goals (refine aw_take_on 6 rfl rfl rfl rfl (by kernel_rfl) (by kernel_rfl) (by kernel_rfl) hNP hS rfl (fun w' hq => pv_move rfl) ?_)
  all_goals (refine aw_take_on 7 rfl rfl rfl rfl (by kernel_rfl) (by kernel_rfl) (by kernel_rfl) hNP hS rfl (fun w' hq => pv_ia (tS rfl) rfl rfl (by omega)) ?_)
  all_goals (refine aw_take_on 8 rfl rfl rfl rfl (by kernel_rfl) (by kernel_rfl) (by kernel_rfl) hNP hS rfl (fun w' hq => pv_loada (tA rfl) rfl (by first | exact SlR.lda (HA.mono hq) hA0 | exact SlR.lda (HA.mono hq) hA1 | exact SlR.lda (HB.mono hq) hB0 | exact SlR.lda (HB.mono hq) hB1) (by rfl)) ?_)
  all_goals (refine aw_take_on 9 rfl rfl rfl rfl (by kernel_rfl) (by kernel_rfl) (by kernel_rfl) hNP hS rfl (fun w' hq => tyB_39 rfl rfl rfl) ?_)
  all_goals (refine aw_take_on 10 rfl rfl rfl rfl (by kernel_rfl) (by kernel_rfl) (by kernel_rfl) hNP hS rfl (fun w' hq => pv_eqlSt aA1 rfl rfl) ?_)
  all_goals (refine aw_take 11 rfl (by kernel_rfl) (by kernel_rfl) (by kernel_rfl) hNP hS rfl (fun w' hq => pv_pick_t rfl rfl rfl) ?_)
  all_goals (refine aw_take 12 rfl (by kernel_rfl) (by kernel_rfl) (by kernel_rfl) hNP hS rfl (fun w' hq => pv_move rfl) ?_)
  all_goals (refine aw_take_on 13 rfl rfl rfl rfl (by kernel_rfl) (by kernel_rfl) (by kernel_rfl) hNP hS rfl (fun w' hq => pv_move rfl) ?_)
  all_goals (refine aw_take_on 14 rfl rfl rfl rfl (by kernel_rfl) (by kernel_rfl) (by kernel_rfl) hNP hS rfl (fun w' hq => pv_ia (tS rfl) rfl rfl (by omega)) ?_)
  all_goals (refine aw_take_on 15 rfl rfl rfl rfl (by kernel_rfl) (by kernel_rfl) (by kernel_rfl) hNP hS rfl (fun w' hq => pv_loada (tA rfl) rfl (by first | exact SlR.lda (HA.mono hq) hA0 | exact SlR.lda (HA.mono hq) hA1 | exact SlR.lda (HB.mono hq) hB0 | exact SlR.lda (HB.mono hq) hB1) (by rfl)) ?_)
  all_goals (refine aw_take_on 16 rfl rfl rfl rfl (by kernel_rfl) (by kernel_rfl) (by kernel_rfl) hNP hS rfl (fun w' hq => tyB_39 rfl rfl rfl) ?_)
  all_goals (refine aw_take_on 17 rfl rfl rfl rfl (by kernel_rfl) (by kernel_rfl) (by kernel_rfl) hNP hS rfl (fun w' hq => pv_eqlSt aB0 rfl rfl) ?_)
  all_goals (refine aw_take 18 rfl (by kernel_rfl) (by kernel_rfl) (by kernel_rfl) hNP hS rfl (fun w' hq => pv_pick_t rfl rfl rfl) ?_)
  all_goals (refine aw_take 19 rfl (by kernel_rfl) (by kernel_rfl) (by kernel_rfl) hNP hS rfl (fun w' hq => pv_move rfl) ?_)
  all_goals (refine aw_take_on 20 rfl rfl rfl rfl (by kernel_rfl) (by kernel_rfl) (by kernel_rfl) hNP hS rfl (fun w' hq => pv_move rfl) ?_)
  all_goals (refine aw_take_on 21 rfl rfl rfl rfl (by kernel_rfl) (by kernel_rfl) (by kernel_rfl) hNP hS rfl (fun w' hq => pv_ia (tS rfl) rfl rfl (by omega)) ?_)
  all_goals (refine aw_take_on 22 rfl rfl rfl rfl (by kernel_rfl) (by kernel_rfl) (by kernel_rfl) hNP hS rfl (fun w' hq => pv_loada (tA rfl) rfl (by first | exact SlR.lda (HA.mono hq) hA0 | exact SlR.lda (HA.mono hq) hA1 | exact SlR.lda (HB.mono hq) hB0 | exact SlR.lda (HB.mono hq) hB1) (by rfl)) ?_)
  all_goals (refine aw_take_on 23 rfl rfl rfl rfl (by kernel_rfl) (by kernel_rfl) (by kernel_rfl) hNP hS rfl (fun w' hq => tyB_39 rfl rfl rfl) ?_)
  all_goals (refine aw_take_on 24 rfl rfl rfl rfl (by kernel_rfl) (by kernel_rfl) (by kernel_rfl) hNP hS rfl (fun w' hq => pv_eqlSt aB1 rfl rfl) ?_)
  all_goals (refine aw_take 25 rfl (by kernel_rfl) (by kernel_rfl) (by kernel_rfl) hNP hS rfl (fun w' hq => pv_pick_t rfl rfl rfl) ?_)
  all_goals (refine aw_take 26 rfl (by kernel_rfl) (by kernel_rfl) (by kernel_rfl) hNP hS rfl (fun w' hq => pv_move rfl) ?_)
  all_goals (refine aw_take_on 27 rfl rfl rfl rfl (by kernel_rfl) (by kernel_rfl) (by kernel_rfl) hNP hS rfl (fun w' hq => pv_move rfl) ?_)
  all_goals (refine aw_take_on 29 rfl rfl rfl rfl (by kernel_rfl) (by kernel_rfl) (by kernel_rfl) hNP hS rfl (fun w' hq => pv_move rfl) ?_)
  all_goals (refine aw_take_on 30 rfl rfl rfl rfl (by kernel_rfl) (by kernel_rfl) (by kernel_rfl) hNP hS rfl (fun w' hq => pv_ia (tS rfl) rfl rfl (by omega)) ?_)
  all_goals (refine aw_take_on 31 rfl rfl rfl rfl (by kernel_rfl) (by kernel_rfl) (by kernel_rfl) hNP hS rfl (fun w' hq => pv_loada (tA rfl) rfl (by first | exact SlR.lda (HA.mono hq) hA0 | exact SlR.lda (HA.mono hq) hA1 | exact SlR.lda (HB.mono hq) hB0 | exact SlR.lda (HB.mono hq) hB1) (by rfl)) ?_)
  all_goals first | (refine aw_not 28 rfl rfl rfl (by first | rfl | assumption | exact decide_eq_true (by omega) | exact decide_eq_false (by omega) | exact dec_notT (by omega) | exact dec_notF (by omega)) (by kernel_rfl) (by kernel_rfl) (by kernel_rfl) hNP hS rfl ?_) | (refine aw_not_u 28 rfl rfl rfl (by kernel_rfl) (by kernel_rfl) (by kernel_rfl) hNP hS rfl ?_) | (refine aw_act_g 28 (by kernel_rfl) rfl rfl rfl (by first | rfl | assumption | exact decide_eq_true (by omega) | exact decide_eq_false (by omega) | exact dec_notT (by omega) | exact dec_notF (by omega)) rfl ?_; refine act_call (f := 18) (by kernel_rfl) rfl (get_e (r := aA1) rfl rfl (HA.mono hS)) ?_; rintro e1 w5 ⟨rfl, hb⟩; refine ⟨_, rfl, grow_trans hS hb, fun hS => ?_⟩)
  all_goals (refine aw_take_on 32 rfl rfl rfl rfl (by kernel_rfl) (by kernel_rfl) (by kernel_rfl) hNP hS rfl (fun w' hq => pv_eqlSt aA1 rfl rfl) ?_)
  all_goals (refine aw_take 33 rfl (by kernel_rfl) (by kernel_rfl) (by kernel_rfl) hNP hS rfl (fun w' hq => pv_pick_t rfl rfl rfl) ?_)
  all_goals (refine aw_take 34 rfl (by kernel_rfl) (by kernel_rfl) (by kernel_rfl) hNP hS rfl (fun w' hq => pv_move rfl) ?_)
  all_goals (refine aw_take_on 35 rfl rfl rfl rfl (by kernel_rfl) (by kernel_rfl) (by kernel_rfl) hNP hS rfl (fun w' hq => pv_move rfl) ?_)
  all_goals (refine aw_take_on 37 rfl rfl rfl rfl (by kernel_rfl) (by kernel_rfl) (by kernel_rfl) hNP hS rfl (fun w' hq => tyB_39 rfl rfl rfl) ?_)
  all_goals first | (refine aw_not 36 rfl rfl rfl (by first | rfl | assumption | exact decide_eq_true (by omega) | exact decide_eq_false (by omega) | exact dec_notT (by omega) | exact dec_notF (by omega)) (by kernel_rfl) (by kernel_rfl) (by kernel_rfl) hNP hS rfl ?_) | (refine aw_not_u 36 rfl rfl rfl (by kernel_rfl) (by kernel_rfl) (by kernel_rfl) hNP hS rfl ?_) | (refine aw_act_g 36 (by kernel_rfl) rfl rfl rfl (by first | rfl | assumption | exact decide_eq_true (by omega) | exact decide_eq_false (by omega) | exact dec_notT (by omega) | exact dec_notF (by omega)) rfl ?_; refine act_call (f := 18) (by kernel_rfl) rfl (get_e (r := ⟨9, 9, 0, 0, 0, 0⟩) rfl rfl (HA.mono hS)) ?_; rintro e1 w5 ⟨rfl, hb⟩; refine ⟨_, rfl, grow_trans hS hb, fun hS => ?_⟩)
  all_goals (refine aw_take_on 38 rfl rfl rfl rfl (by kernel_rfl) (by kernel_rfl) (by kernel_rfl) hNP hS rfl (fun w' hq => pv_eqlSt ⟨9,9,0,0,0,0⟩ rfl rfl) ?_)
  all_goals (refine aw_take 39 rfl (by kernel_rfl) (by kernel_rfl) (by kernel_rfl) hNP hS rfl (fun w' hq => pv_pick_t rfl rfl rfl) ?_)
  all_goals (refine aw_take 40 rfl (by kernel_rfl) (by kernel_rfl) (by kernel_rfl) hNP hS rfl (fun w' hq => pv_assign rfl) ?_)
  all_goals (refine aw_done (by kernel_rfl) ?_; replace hw := hS; clear hS hNP)
  repeat' (first | (refine is_cw ?_; first | (refine cw_ret ?_)) | (refine is_qw ?_; first | (with_reducible refine qw_then ?_)))
  exact qw_ret1 rfl rfl ⟨rfl, (hE.mono hw).b⟩
end Go.Proofs.YtemngicaoacfaaaGreatDoor
