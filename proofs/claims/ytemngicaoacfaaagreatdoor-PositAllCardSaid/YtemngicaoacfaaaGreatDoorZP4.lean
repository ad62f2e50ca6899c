/-
  PositAll: its row and its card: whatever the input: true; the input reads as it did. Conditions: what the row prints (the table of functions reads as the program's text lays it).
-/
import Derived.Test.YtemngicaoacfaaaGreatDoorZP3
import Derived.Test.YtemngicaoacfaaaGreatDoorTie
import Derived.Test.YtemngicaoacfaaaGreatDoorCards
import Derived.SevenTiedAt
namespace Go.Proofs.YtemngicaoacfaaaGreatDoor
open Go.RowKit Go.PlainAid Go.Maps Go.WideMaps

theorem own_ne_map {α : Type} {enc : α → List Value} {k : Nat} {T : TypeId} {B M : Nat} {w : World} {v : Value} {xs : List α} {m : List (KeyX × Pos)} (h : Own enc k T B w v xs) (hp : Mp kX vX w M m) : v.ownBlock ≠ some M := by
  obtain ⟨_, h2⟩ := h
  obtain ⟨es, clk, hE, _⟩ := hp
  rcases h2 with ⟨rfl, _⟩ | ⟨g, cap, cur, rfl, _, hg, _⟩
  · intro e; cases e
  · intro e
    have e2 : g = M := by simpa [Value.ownBlock] using e
    subst e2
    rw [hE.heap] at hg; injection hg with hg; cases hg
structure AllI (w1 : World) (N M : Nat) (v3 v4 v5 : Value) (L : List Pos) (p : List Opn) (t : List Lt) (m : List (KeyX × Pos)) (wr : World) : Prop where
  b : Below w1.heap.size w1 wr
  n : PT wr N 43 [.map (some M)]
  o3 : Own encS 6 39 w1.heap.size wr v3 L
  o4 : Own encP 6 49 w1.heap.size wr v4 p
  o5 : Own encL 4 53 w1.heap.size wr v5 t
  m : Mp kX vX wr M m
  lo : w1.heap.size ≤ M
  ne : N ≠ M
theorem AllI.mono {w1 w w' : World} {N M : Nat} {v3 v4 v5 : Value} {L : List Pos} {p : List Opn} {t : List Lt} {m : List (KeyX × Pos)} (h : AllI w1 N M v3 v4 v5 L p t m w) (hb : Below w.heap.size w w') : AllI w1 N M v3 v4 v5 L p t m w' := ⟨grow_trans h.b hb, h.n.mono hb, h.o3.mono hb, h.o4.mono hb, h.o5.mono hb, h.m.mono hb, h.lo, h.ne⟩
theorem AllI.upd {w1 w w' : World} {N M : Nat} {v3 v4 v5 : Value} {L : List Pos} {p : List Opn} {t : List Lt} {m m' : List (KeyX × Pos)} (h : AllI w1 N M v3 v4 v5 L p t m w) (hg : w.grownBy w' (some M)) (hM : Mp kX vX w' M m') : AllI w1 N M v3 v4 v5 L p t m' w' :=
  ⟨h.b.grown hg h.b.size (fun q e => by injection e with e; have := h.lo; omega), (hg.block N h.n.lt (fun e => h.ne (Option.some.inj e))).trans h.n, Own.kept h.o3 hg (Or.inr (own_ne_map h.o3 h.m)), Own.kept h.o4 hg (Or.inr (own_ne_map h.o4 h.m)), Own.kept h.o5 hg (Or.inr (own_ne_map h.o5 h.m)), hM, h.lo, h.ne⟩
theorem pt_keptM {N M : Nat} {T : TypeId} {cs : List Value} {w w' : World} {m : List (KeyX × Pos)} (h : PT w N T cs) (hg : w.grownBy w' (some M)) (hm : Mp kX vX w M m) : PT w' N T cs := by
  obtain ⟨es, clk, hE, _⟩ := hm
  refine (hg.block N h.lt (fun e => ?_)).trans h
  injection e with e
  subst e
  have h1 : w.heap[N]? = _ := h
  rw [hE.heap] at h1; injection h1 with h1; cases h1
theorem zvM (w : World) : (zeroValue 43).run Tryz.prog w = .ok (.map none) w := by kernel_rfl
set_option maxRecDepth 20000 in
set_option maxHeartbeats 16000000 in
theorem pall_c {xs : List EvC} {es : List Evt} {o cc : Nat} {c : Option Addr} {w : World} (ho : xs.length = o) (HV : SlR encV 4 w c cc xs) (HE : EvsR w xs es) (hK : KnW w) :
    Calls Tryz.prog 5 #[.slice c o cc] w fun e w' => e = .returned (.bool true) ∧ Below w.heap.size w w' := by
  subst ho
  have hcc := HV.le
  have hcm := HV.max
  have hw := Below.refl w.heap.size w
  refine fn_enter 199 Tryz.func5 rfl rfl rfl ?_
  by_cases h60 : 60 < xs.length
  · repeat' (first | (refine lw_pure rfl (pv_move rfl) ?_) | (refine lw_pure rfl (pv_assign rfl) ?_) | (refine is_cw ?_; first | (refine cw_seq ?_) | (refine cw_region ?_) | (refine cw_true rfl rfl ?_)) | (refine is_qw ?_; first | (with_reducible refine qw_then ?_)) | (refine lw_nil ?_) | (refine is_guarded ?_; first | (refine lw_not rfl rfl rfl (by first | assumption | exact decide_eq_true (by omega) | exact decide_eq_false (by omega) | exact dec_notT (by omega) | exact dec_notF (by omega)) ?_)) | ((refine is_bin ?_; first | (refine lw_pure rfl (pv_gtr rfl rfl) ?_))) | ((refine is_bi ?_; first | (refine lw_pure rfl (pv_lenl (tS rfl) rfl) ?_))) | (refine is_pk ?_; refine lw_pure rfl (pv_pick_t rfl (by first | assumption | exact decide_eq_true (by omega) | exact dec_notT (by omega)) rfl) ?_))
    refine lw_call (f := 10) (by kernel_rfl) rfl rfl (awake_c (hK.mono hw)) ?_; rintro e1 wz ⟨rfl, hb⟩; refine ⟨_, rfl, ?_⟩; replace hw := grow_trans hw hb; clear hb
    repeat' (first | (refine lw_pure rfl (pv_assign rfl) ?_) | (refine is_cw ?_; first | (refine cw_ret ?_)) | (refine is_qw ?_; first | (with_reducible refine qw_then ?_) | (with_reducible refine qw_then_ret ?_)) | (refine lw_nil ?_))
    exact qw_ret1 rfl rfl ⟨rfl, hw⟩
  repeat' (first | (refine lw_pure rfl (pv_move rfl) ?_) | (refine lw_pure rfl (pv_assign rfl) ?_) | (refine is_cw ?_; first | (refine cw_seq ?_) | (refine cw_region ?_)) | (refine is_qw ?_; first | (with_reducible refine qw_then ?_)) | (refine lw_nil ?_) | (refine is_guarded ?_; first | (refine lw_on rfl rfl (by first | assumption | exact decide_eq_true (by omega) | exact decide_eq_false (by omega) | exact dec_notT (by omega) | exact dec_notF (by omega)) ?_)) | ((refine is_bin ?_; first | (refine lw_pure rfl (pv_gtr rfl rfl) ?_))) | ((refine is_bi ?_; first | (refine lw_pure rfl (pv_lenl (tS rfl) rfl) ?_))))
  refine lw_call (f := 10) (by kernel_rfl) rfl rfl (awake_c (hK.mono hw)) ?_; rintro e1 wz ⟨rfl, hb⟩; refine ⟨_, rfl, ?_⟩; replace hw := grow_trans hw hb; clear hb
  replace HV := HV.mono hw
  replace hK := hK.mono hw
  have HEz : EvsR wz xs es := HE.mono hw
  have hW := hw
  clear hw HE
  have hw := Below.refl wz.heap.size wz
  repeat' (first | (refine lw_pure rfl (pv_assign rfl) ?_) | (refine is_cw ?_; first | (refine cw_seq ?_) | (refine cw_region ?_) | (refine cw_false rfl rfl ?_) | (refine cw_skip ?_)) | (refine is_qw ?_; first | (with_reducible refine qw_then ?_)) | (refine lw_nil ?_) | (refine is_guarded ?_; first | (refine lw_on rfl rfl (by first | assumption | exact decide_eq_true (by omega) | exact decide_eq_false (by omega) | exact dec_notT (by omega) | exact dec_notF (by omega)) ?_)) | ((refine is_un ?_; first | (refine lw_pure rfl (pv_not rfl) ?_))) | (refine is_pk ?_; refine lw_pure rfl (pv_pick_f rfl (by first | assumption | exact decide_eq_false (by omega) | exact dec_notF (by omega)) rfl) ?_))
  refine lw_makeMap kX vX rfl ?_; intro M w2 hM HM hb; replace hw := grow_trans hw hb; clear hb
  have hMl := HM.bound
  refine lw_var1N rfl zvM rfl (tZ rfl) (fun _ => rfl) rfl ?_; intro N6 w3 hN6 HN6 hb; have HM := HM.mono hb; replace hw := grow_trans hw hb; clear hb
  repeat' (first | (refine lw_pure rfl (pv_assign rfl) ?_) | (refine is_cw ?_; first | (refine cw_seq ?_) | (refine cw_region ?_) | (refine cw_block ?_)) | (refine is_qw ?_; first | (with_reducible refine qw_then ?_)) | (refine lw_nil ?_) | (refine lw_pure rfl (pv_makeFunc rfl rfl) ?_))
  refine cw_loop (σ := Nat × Value × Value × Value) (fun s => [(0, .slice c xs.length cc), (3, s.2.1), (4, s.2.2.1), (5, s.2.2.2), (6, .pointer (some ⟨N6, 0, none⟩)), (7, .func (.func 19) #[] #[.pointer (some ⟨N6, 0, none⟩)]), (8, .int .i64 (s.1 : Nat))]) (fun s wr => s.1 ≤ xs.length ∧ ∃ L p t m, AllI wz N6 M s.2.1 s.2.2.1 s.2.2.2 L p t m wr ∧ SumsOk m L ((s.1 : Int) * 2251799813685248) ∧ MayPs L ∧ L.length ≤ 2 * s.1) (fun s => xs.length - s.1) (0, .slice none 0 0, .slice none 0 0, .slice none 0 0) (by repeat' (first | exact trivial | refine ⟨rfl, ?_⟩)) ⟨Nat.zero_le _, [], [], [], [], ⟨hw, HN6, Own.nil _, Own.nil _, Own.nil _, HM, hM, by omega⟩, sums_nil, ⟨List.Pairwise.nil, fun x h => by cases h⟩, Nat.zero_le _⟩ ?_
  clear hw HM HN6 hN6 hM hMl
  rintro ⟨k, v3, v4, v5⟩ wr ⟨hk, L, p, t, m, hI, hS, hL, hLn⟩
  dsimp only at hk hI hS hLn
  change CW _ _ _ _ [(0, .slice c xs.length cc), (3, v3), (4, v4), (5, v5), (6, .pointer (some ⟨N6, 0, none⟩)), (7, .func (.func 19) #[] #[.pointer (some ⟨N6, 0, none⟩)]), (8, .int .i64 (k : Nat))] wr
  have hxe := HEz.1
  have hw := Below.refl wr.heap.size wr
  by_cases hlt : k < xs.length
  · have hxk : xs[k]? = some xs[k] := List.getElem?_eq_getElem hlt
    have hek : es[k]? = some (es[k]'(by omega)) := List.getElem?_eq_getElem _
    obtain ⟨ab, ao, rfl, -, -⟩ := HV.at (by intro h; rw [h] at hlt; simp at hlt)
    generalize xs[k] = x at hxk
    generalize es[k]'(by omega) = e at hek
    have hR := HEz.2 k x e hxk hek
    obtain ⟨xv, xk, xan, xmn, xcn, xax, xmx, xcx⟩ := x
    obtain ⟨r1, r2, r3, r4, r5z, r6, r7, r8⟩ := hR
    simp only at r1 r2 r3 r4 r5z r6
    subst r1 r2 r3 r4
    obtain ⟨a3, c3, rfl, -, -⟩ := Own.slR encS_len hI.o3
    obtain ⟨a4, c4, rfl, -, -⟩ := Own.slR encP_len hI.o4
    obtain ⟨a5, c5, rfl, -, -⟩ := Own.slR encL_len hI.o5
    have HV1 := HV.mono hI.b
    repeat' (first | (refine lw_pure rfl (pv_move rfl) ?_) | (refine is_cw ?_; first | (refine cw_seq ?_) | (refine cw_region ?_) | (refine is_cd ?_; refine cw_true rfl (by first | assumption | exact decide_eq_true (by omega) | exact dec_notT (by omega)) ?_) | (refine cw_skip ?_) | (refine cw_block ?_)) | (refine is_qw ?_; first | (with_reducible refine qw_then ?_)) | (refine lw_nil ?_) | ((refine is_bin ?_; first | (refine lw_pure rfl (pv_lss rfl rfl) ?_))) | ((refine is_load ?_; first | (refine lw_pure rfl (pv_loada (tA rfl) rfl (by first | exact SlR.lda (HV1.mono hw) hxk) (by rfl)) ?_))) | ((refine is_ia ?_; first | (refine lw_pure rfl (pv_ian (tS rfl) rfl rfl (by omega)) ?_))) | ((refine is_bi ?_; first | (refine lw_pure rfl (pv_lenl (tS rfl) rfl) ?_))))
    refine lw_varN rfl (by first | exact tyv_27 | exact tyv_28 | exact tyv_38 | exact tyv_39 | exact tyv_48 | exact tyv_49 | exact tyv_52 | exact tyv_53 | exact tyv_68 | exact tyv_69 | exact tyv_79 | exact tyv_80 | exact tyv_94 | exact tyv_95 | exact tyv_131 | exact tyv_132) rfl (tZ rfl) (fun _ => rfl) rfl rfl ?_; intro N9 w9 hN9 HX9 hb
    replace HX9 : PT w9 N9 28 [.int .u8 e.v, .int .u8 e.kind, .slice xan e.nums.length xcn, .slice xax e.texts.length xcx] := HX9
    replace hI := hI.mono (grow_trans hw hb)
    clear hb hw HV1 hN9
    have hw := Below.refl w9.heap.size w9
    obtain ⟨a3', c3', e3, H3, -⟩ := Own.slR encS_len hI.o3
    injection e3 with e31 _ e32; subst e31 e32
    obtain ⟨a4', c4', e4, H4, -⟩ := Own.slR encP_len hI.o4
    injection e4 with e41 _ e42; subst e41 e42
    obtain ⟨a5', c5', e5, H5, -⟩ := Own.slR encL_len hI.o5
    injection e5 with e51 _ e52; subst e51 e52
    have r5 := r5z.mono hI.b
    replace r6 := r6.mono hI.b
    have hK1 := hK.mono hI.b
    repeat' (first | (refine is_cw ?_; first | (refine cw_seq ?_) | (refine cw_region ?_)) | (refine is_qw ?_; first | (with_reducible refine qw_then ?_)) | (refine lw_nil ?_) | ((refine is_load ?_; first | (refine lw_pure rfl (pv_loada (tA rfl) rfl (by first | exact PT.lda (HX9.mono hw)) (by rfl)) ?_))))
    refine lw_call (f := 9) (by kernel_rfl) rfl rfl (long_c rfl (r6.mono hw)) ?_; rintro e1 wq ⟨⟨rl, rfl, hrl⟩, hb⟩; refine ⟨_, rfl, ?_⟩; replace hw := grow_trans hw hb; clear hb
    cases rl with
    | true =>
      repeat' (first | (refine lw_pure rfl (pv_assign rfl) ?_) | (refine is_cw ?_; first | (refine cw_seq ?_) | (refine cw_region ?_) | (refine cw_true rfl rfl ?_) | (refine cw_ret ?_)) | (refine is_qw ?_; first | (with_reducible refine qw_then ?_) | (with_reducible refine qw_then_ret ?_) | (with_reducible refine qw_in_ret ?_)) | (refine lw_nil ?_))
      exact qw_ret1 rfl rfl ⟨rfl, grow_trans hW (hI.mono hw).b⟩
    | false =>
    clear hrl
    repeat' (first | (refine lw_pure rfl (pv_move rfl) ?_) | (refine is_cw ?_; first | (refine cw_seq ?_) | (refine cw_region ?_) | (refine cw_false rfl rfl ?_) | (refine cw_skip ?_)) | (refine is_qw ?_; first | (with_reducible refine qw_then ?_)) | (refine lw_nil ?_) | ((refine is_load ?_; first | (refine lw_pure rfl (pv_loada (tA rfl) rfl (by first | exact PT.lda (HX9.mono hw)) (by rfl)) ?_))))
    refine lw_call (f := 20) (by kernel_rfl) rfl rfl (ev_c r7 rfl rfl rfl rfl (H4.mono hw) (H5.mono hw) (r5.mono hw) (r6.mono hw) r8 (hK1.mono hw)) ?_; rintro e1 w6 ⟨⟨vo, vt, rfl, hO2, hT2⟩, hb⟩; refine ⟨_, rfl, ?_⟩
    replace hO2 := hO2.weaken (Nat.le_trans hI.b.size hw.size)
    replace hT2 := hT2.weaken (Nat.le_trans hI.b.size hw.size)
    replace hw := grow_trans hw hb
    clear hb
    repeat' (first | (refine lw_pure rfl (pv_move rfl) ?_) | (refine lw_pure rfl (pv_assign rfl) ?_) | (refine is_cw ?_; first | (refine cw_seq ?_) | (refine cw_region ?_)) | (refine is_qw ?_; first | (with_reducible refine qw_then ?_)) | (refine lw_nil ?_) | ((refine is_load ?_; first | (refine lw_pure rfl (pv_loada (tA rfl) rfl (by first | exact PT.lda (HX9.mono hw)) (by rfl)) ?_))) | (refine lw_pure rfl (pv_extract rfl rfl) ?_))
    refine lw_call (f := 13) (by kernel_rfl) rfl rfl (pev_c r7 rfl (by omega) rfl rfl rfl rfl (H3.mono hw) (H4.mono hw) (H5.mono hw) (r5.mono hw) (r6.mono hw) r8 (hK1.mono hw)) ?_; rintro e1 w7 ⟨⟨vs, rfl, hS2⟩, hb⟩; refine ⟨_, rfl, ?_⟩
    replace hS2 := hS2.weaken (Nat.le_trans hI.b.size hw.size)
    replace hO2 := hO2.mono hb
    replace hT2 := hT2.mono hb
    replace hw := grow_trans hw hb
    clear hb
    have hcs := pos_cases (l := L) (p := p) (t := t) (e := e)
    have htr := trade_at (p := p) (t := t) (e := e)
    have hsl := sold_at (p := p) (t := t) (e := e)
    obtain ⟨E2, hE2⟩ : ∃ E2, eventR p t e = E2 := ⟨_, rfl⟩
    obtain ⟨Rp, hRp⟩ : ∃ Rp, posR L p t e = Rp := ⟨_, rfl⟩
    rw [hE2] at hO2 hT2 hcs htr hsl ⊢
    rw [hRp] at hS2 hcs ⊢
    have hold : ∀ wz', Below w9.heap.size w9 wz' → ∃ L' p' t' m', AllI wz N6 M (.slice a3 L.length c3) (.slice a4 p.length c4) (.slice a5 t.length c5) L' p' t' m' wz' ∧ SumsOk m' L' (((k + 1 : Nat) : Int) * 2251799813685248) ∧ MayPs L' ∧ L'.length ≤ 2 * (k + 1) := fun wz' h => ⟨L, p, t, m, hI.mono h, hS.weaken (by omega), hL, by omega⟩
    by_cases q1 : E2.2.2 = 0
    case neg =>
      repeat' (first | (refine lw_pure rfl (pv_move rfl) ?_) | (refine lw_pure rfl (pv_assign rfl) ?_) | (refine is_cw ?_; first | (refine cw_seq ?_) | (refine cw_region ?_) | (refine cw_true rfl rfl ?_) | (refine cw_exit ?_)) | (refine is_qw ?_; first | (with_reducible refine qw_then ?_) | (with_reducible refine qw_in_hit ?_) | (with_reducible refine qw_then_exit ?_)) | (refine lw_nil ?_) | (refine is_guarded ?_; first | (refine lw_not rfl rfl rfl (by first | assumption | exact decide_eq_true (by omega) | exact decide_eq_false (by omega) | exact dec_notT (by omega) | exact dec_notF (by omega)) ?_)) | ((refine is_bin ?_; first | (refine lw_pure rfl (pv_neq rfl rfl) ?_) | (refine lw_pure rfl (pv_inc rfl rfl (by omega)) ?_))) | (refine is_pk ?_; refine lw_pure rfl (pv_pick_t rfl (by first | assumption | exact decide_eq_true (by omega) | exact dec_notT (by omega)) rfl) ?_) | (refine lw_pure rfl (pv_extract rfl rfl) ?_))
      exact qw_round (k + 1, .slice a3 L.length c3, .slice a4 p.length c4, .slice a5 t.length c5) (by repeat' (first | exact trivial | refine ⟨rfl, ?_⟩)) ⟨by show k + 1 ≤ _; omega, hold _ hw⟩ (by show xs.length - (k + 1) < xs.length - k; omega)
    by_cases q2 : Rp.2 = 0
    case neg =>
      repeat' (first | (refine lw_pure rfl (pv_move rfl) ?_) | (refine lw_pure rfl (pv_assign rfl) ?_) | (refine is_cw ?_; first | (refine cw_seq ?_) | (refine cw_region ?_) | (refine is_cd ?_; refine cw_true rfl (by first | assumption | exact decide_eq_true (by omega) | exact dec_notT (by omega)) ?_) | (refine cw_exit ?_)) | (refine is_qw ?_; first | (with_reducible refine qw_then ?_) | (with_reducible refine qw_in_hit ?_) | (with_reducible refine qw_then_exit ?_)) | (refine lw_nil ?_) | (refine is_guarded ?_; first | (refine lw_on rfl rfl (by first | assumption | exact decide_eq_true (by omega) | exact decide_eq_false (by omega) | exact dec_notT (by omega) | exact dec_notF (by omega)) ?_)) | ((refine is_bin ?_; first | (refine lw_pure rfl (pv_neq rfl rfl) ?_) | (refine lw_pure rfl (pv_inc rfl rfl (by omega)) ?_))) | (refine is_pk ?_; refine lw_pure rfl (pv_pick_f rfl (by first | assumption | exact decide_eq_false (by omega) | exact dec_notF (by omega)) rfl) ?_) | (refine lw_pure rfl (pv_extract rfl rfl) ?_))
      exact qw_round (k + 1, .slice a3 L.length c3, .slice a4 p.length c4, .slice a5 t.length c5) (by repeat' (first | exact trivial | refine ⟨rfl, ?_⟩)) ⟨by show k + 1 ≤ _; omega, hold _ hw⟩ (by show xs.length - (k + 1) < xs.length - k; omega)
    clear hold
    have hI7 := hI.mono hw
    have K2 : AllI wz N6 M vs vo vt Rp.1 E2.1 E2.2.1 m w7 := ⟨hI7.b, hI7.n, hS2, hO2, hT2, hI7.m, hI7.lo, hI7.ne⟩
    obtain ⟨a6, c6, rfl, -, -⟩ := Own.slR encS_len hS2
    obtain ⟨a7, c7, rfl, -, -⟩ := Own.slR encP_len hO2
    obtain ⟨a8, c8, rfl, -, -⟩ := Own.slR encL_len hT2
    replace HX9 := HX9.mono hw
    replace H4 := H4.mono hw
    replace H5 := H5.mono hw
    clear hS2 hO2 hT2 hI hI7 hw H3 r5 r6 hK1
    have r5 := r5z.mono K2.b
    have hw := Below.refl w7.heap.size w7
    have hB60 : 0 ≤ (k : Int) * 2251799813685248 ∧ (k : Int) * 2251799813685248 ≤ 137359788634800128 := by omega
    obtain ⟨-, hc⟩ := hcs q2
    rcases hc with ⟨k13, k18, hsame⟩ | ⟨k13, -, a, b, fa, fb, hsd, hin, hD, g3, g4, gp⟩ | ⟨k18, -, x, fx, hD, gq, g3, g2⟩
    · repeat' (first | (refine lw_pure rfl (pv_move rfl) ?_) | (refine lw_pure rfl (pv_assign rfl) ?_) | (refine is_cw ?_; first | (refine cw_seq ?_) | (refine cw_region ?_) | (refine is_cd ?_; refine cw_false rfl (by first | assumption | exact decide_eq_false (by omega) | exact dec_notF (by omega)) ?_) | (refine cw_skip ?_)) | (refine is_qw ?_; first | (with_reducible refine qw_then ?_) | (with_reducible refine qw_in ?_)) | (refine lw_nil ?_) | (refine is_guarded ?_; first | (refine lw_on rfl rfl (by first | assumption | exact decide_eq_true (by omega) | exact decide_eq_false (by omega) | exact dec_notT (by omega) | exact dec_notF (by omega)) ?_)) | ((refine is_bin ?_; first | (refine lw_pure rfl (pv_eql rfl rfl) ?_) | (refine lw_pure rfl (pv_neq rfl rfl) ?_) | (refine lw_pure rfl (pv_inc rfl rfl (by omega)) ?_))) | ((refine is_load ?_; first | (refine lw_pure rfl (pv_load (t1 rfl) rfl (by first | exact PT.ld0 (HX9.mono hw) rfl | exact PT.ld (HX9.mono hw) rfl)) ?_))) | ((refine is_fa ?_; first | (refine lw_pure rfl (pv_fa (tF rfl) rfl) ?_))) | (refine is_pk ?_; refine lw_pure rfl (pv_pick_f rfl (by first | assumption | exact decide_eq_false (by omega) | exact dec_notF (by omega)) rfl) ?_) | (refine lw_pure rfl (pv_extract rfl rfl) ?_))
      exact qw_round (k + 1, .slice a6 Rp.1.length c6, .slice a7 E2.1.length c7, .slice a8 E2.2.1.length c8) (by repeat' (first | exact trivial | refine ⟨rfl, ?_⟩)) ⟨by show k + 1 ≤ _; omega, Rp.1, E2.1, E2.2.1, m, K2.mono hw, by rw [hsame]; exact hS.weaken (by show _ ≤ ((k + 1 : Nat) : Int) * _; omega), by rw [hsame]; exact hL, by rw [hsame]; show _ ≤ 2 * (k + 1); omega⟩ (by show xs.length - (k + 1) < xs.length - k; omega)
    · obtain ⟨n0, n1, n2, n3, n4, a', b', hT⟩ := htr q1 k13
      have e0 : nth e 0 = n0 := by simp [nth, hT.nums]
      have e1 : nth e 1 = n1 := by simp [nth, hT.nums]
      have e2 : nth e 2 = n2 := by simp [nth, hT.nums]
      have e3 : nth e 3 = n3 := by simp [nth, hT.nums]
      have e4 : nth e 4 = n4 := by simp [nth, hT.nums]
      rw [e0] at fa
      rw [e1] at fb
      obtain rfl : a' = a := Option.some.inj (hT.fa.symm.trans fa)
      obtain rfl : b' = b := Option.some.inj (hT.fb.symm.trans fb)
      rw [e2, e3, e4] at hD
      have hx0 : e.nums[0]? = some n0 := by rw [hT.nums]; rfl
      have hx1 : e.nums[1]? = some n1 := by rw [hT.nums]; rfl
      have hx2 : e.nums[2]? = some n2 := by rw [hT.nums]; rfl
      have hx3 : e.nums[3]? = some n3 := by rw [hT.nums]; rfl
      have hx4 : e.nums[4]? = some n4 := by rw [hT.nums]; rfl
      have hlen : e.nums.length = 5 := by rw [hT.nums]; rfl
      have g3' := hT.g3
      have g4' := hT.g4
      have gpd := hT.paid
      have gma := hT.ma
      have gmb := hT.mb
      have hfe := hD.fe
      clear e0 e1 e2 e3 e4 hT htr hsl hcs
      obtain ⟨nb, no, rfl, -, -⟩ := r5.at (by intro h; rw [h] at hlen; cases hlen)
      repeat' (first | (refine lw_pure rfl (pv_move rfl) ?_) | (refine lw_pure rfl (pv_assign rfl) ?_) | (refine is_cw ?_; first | (refine cw_seq ?_) | (refine cw_region ?_) | (refine is_cd ?_; refine cw_true rfl (by first | assumption | exact decide_eq_true (by omega) | exact dec_notT (by omega)) ?_) | (refine is_cd ?_; refine cw_false rfl (by first | assumption | exact decide_eq_false (by omega) | exact dec_notF (by omega)) ?_) | (refine cw_skip ?_)) | (refine is_qw ?_; first | (with_reducible refine qw_then ?_)) | (refine lw_nil ?_) | (refine is_guarded ?_; first | (refine lw_on rfl rfl (by first | assumption | exact decide_eq_true (by omega) | exact decide_eq_false (by omega) | exact dec_notT (by omega) | exact dec_notF (by omega)) ?_)) | ((refine is_bin ?_; first | (refine lw_pure rfl (pv_eql rfl rfl) ?_) | (refine lw_pure rfl (pv_neq rfl rfl) ?_))) | ((refine is_load ?_; first | (refine lw_pure rfl (pv_load (t1 rfl) rfl (by first | exact PT.ld0 (HX9.mono hw) rfl | exact PT.ld (HX9.mono hw) rfl | exact SlR.ld (r5.mono hw) hx0 rfl | exact SlR.ld1 (r5.mono hw) hx0 rfl)) ?_))) | ((refine is_fa ?_; first | (refine lw_pure rfl (pv_fa (tF rfl) rfl) ?_))) | ((refine is_ia ?_; first | (refine lw_pure rfl (pv_ia (tS rfl) rfl rfl (by omega)) ?_))) | (refine is_pk ?_; refine lw_pure rfl (pv_pick_f rfl (by first | assumption | exact decide_eq_false (by omega) | exact dec_notF (by omega)) rfl) ?_) | (refine lw_pure rfl (pv_extract rfl rfl) ?_))
      refine lw_call (f := 21) (by kernel_rfl) rfl rfl (find_e fa rfl (H4.mono hw)) ?_; rintro e1 wq ⟨rfl, hb⟩; refine ⟨_, rfl, ?_⟩; replace hw := grow_trans hw hb; clear hb
      repeat' (first | (refine lw_pure rfl (pv_move rfl) ?_) | (refine lw_pure rfl (pv_extract rfl rfl) ?_))
      have hz1 := hw.size
      refine lw_varN rfl (by first | exact tyv_27 | exact tyv_28 | exact tyv_38 | exact tyv_39 | exact tyv_48 | exact tyv_49 | exact tyv_52 | exact tyv_53 | exact tyv_68 | exact tyv_69 | exact tyv_79 | exact tyv_80 | exact tyv_94 | exact tyv_95 | exact tyv_131 | exact tyv_132) rfl (tZ rfl) (fun _ => rfl) rfl rfl ?_; intro N16 wn hN16 HF hb; replace hw := grow_trans hw hb; clear hb
      repeat' (first | (refine lw_pure rfl (pv_move rfl) ?_) | (refine lw_pure rfl (pv_assign rfl) ?_) | (refine is_cw ?_; first | (refine cw_seq ?_) | (refine cw_region ?_)) | (refine is_qw ?_; first | (with_reducible refine qw_then ?_)) | (refine lw_nil ?_) | ((refine is_load ?_; first | (refine lw_pure rfl (pv_load (t1 rfl) rfl (by first | exact SlR.ld (r5.mono hw) hx1 rfl | exact SlR.ld1 (r5.mono hw) hx1 rfl)) ?_))) | ((refine is_ia ?_; first | (refine lw_pure rfl (pv_ia (tS rfl) rfl rfl (by omega)) ?_))))
      refine lw_call (f := 21) (by kernel_rfl) rfl rfl (find_e fb rfl (H4.mono hw)) ?_; rintro e1 wq ⟨rfl, hb⟩; refine ⟨_, rfl, ?_⟩; replace HF := HF.mono hb; have hF1 := HF.lt; replace hw := grow_trans hw hb; clear hb
      repeat' (first | (refine lw_pure rfl (pv_move rfl) ?_) | (refine lw_pure rfl (pv_extract rfl rfl) ?_))
      have hz2 := hw.size
      refine lw_varN rfl (by first | exact tyv_27 | exact tyv_28 | exact tyv_38 | exact tyv_39 | exact tyv_48 | exact tyv_49 | exact tyv_52 | exact tyv_53 | exact tyv_68 | exact tyv_69 | exact tyv_79 | exact tyv_80 | exact tyv_94 | exact tyv_95 | exact tyv_131 | exact tyv_132) rfl (tZ rfl) (fun _ => rfl) rfl rfl ?_; intro N18 wm hN18 HG hb; replace HF := HF.mono hb; replace hw := grow_trans hw hb; clear hb
      have hXY : N16 ≠ N18 := by omega
      have hA16 : w7.heap.size ≤ N16 := by omega
      have hA18 : w7.heap.size ≤ N18 := by omega
      clear hz1 hz2 hN16 hN18 hF1
      by_cases h2s : a'.side = 2
      · rw [if_pos h2s, if_pos h2s] at hD
        repeat' (first | (refine lw_pure rfl (pv_assign rfl) ?_) | (refine is_cw ?_; first | (refine cw_seq ?_) | (refine cw_region ?_) | (refine is_cd ?_; refine cw_true rfl (by first | assumption | exact decide_eq_true (by omega) | exact dec_notT (by omega)) ?_)) | (refine is_qw ?_; first | (with_reducible refine qw_then ?_)) | (refine lw_nil ?_) | ((refine is_bin ?_; first | (refine lw_pure rfl (pv_eql rfl rfl) ?_))) | ((refine is_load ?_; first | (refine lw_pure rfl (pv_load (t1 rfl) rfl (by first | exact PT.ld0 HF rfl | exact PT.ld HF rfl | exact PT.ld0 HG rfl | exact PT.ld HG rfl)) ?_) | (refine lw_pure rfl (pv_loada (tA rfl) rfl (by first | exact PT.lda HF | exact PT.lda HG) (by rfl)) ?_))) | ((refine is_fa ?_; first | (refine lw_pure rfl (pv_fa (tF rfl) rfl) ?_))))
        refine lw_storea (vs := encP b') HF (tZ rfl) rfl rfl rfl rfl (encP_one _) ?_; intro wp HFp hgp hzp
        have HGp : PT wp N18 49 (encP b') := (hgp.block N18 HG.lt (fun e => hXY (Option.some.inj e).symm)).trans HG
        replace hw := st_hw hw hgp hA16
        refine lw_storea (vs := encP a') HGp (tZ rfl) rfl rfl rfl rfl (encP_one _) ?_; intro wp2 HGq hgq hzq
        have HFq : PT wp2 N16 49 (encP b') := (hgq.block N16 HFp.lt (fun e => hXY (Option.some.inj e))).trans HFp
        replace hw := st_hw hw hgq hA18
        replace K2 := K2.mono hw
        replace HX9 := HX9.mono hw
        clear hw r5 H4 H5 HF HG HFp HGp
        have r5 := r5z.mono K2.b
        have hw := Below.refl wp2.heap.size wp2
        repeat' (first | (refine is_cw ?_; first | (refine cw_seq ?_)) | (refine is_qw ?_; first | (with_reducible refine qw_then ?_)) | (refine lw_nil ?_))
        have hXI : b'.inst = a'.inst := hin.symm
        have hYI : a'.inst = a'.inst := rfl
        refine cw_drawnF 15 (fun w' => Below wp2.heap.size wp2 w' ∧ True) (by kernel_rfl) (by repeat (first | exact NoPanic.body | with_reducible refine NoPanic.then ?_ | with_reducible refine NoPanic.inBlock ?_)) (fun hNP => ?_)
        have hU := And.intro hw.drew trivial
        first | (refine fw_takeT 0 9 rfl (by kernel_rfl) (by kernel_rfl) rfl rfl (by kernel_rfl) (by kernel_rfl) (by kernel_rfl) hNP hU rfl (fun w' hq => pv_move rfl) ?_)
        first | (refine fw_takeT 1 9 rfl (by kernel_rfl) (by kernel_rfl) rfl rfl (by kernel_rfl) (by kernel_rfl) (by kernel_rfl) hNP hU rfl (fun w' hq => pv_fa (tF rfl) rfl) ?_)
        first | (refine fw_takeT 2 9 rfl (by kernel_rfl) (by kernel_rfl) rfl rfl (by kernel_rfl) (by kernel_rfl) (by kernel_rfl) hNP hU rfl (fun w' hq => pv_load (t1 rfl) rfl (by first | exact PT.ld0 (HFq.mono hq.1) rfl | exact PT.ld (HFq.mono hq.1) rfl | exact PT.ld0 (HGq.mono hq.1) rfl | exact PT.ld (HGq.mono hq.1) rfl | exact SlR.ld (r5.mono hq.1) hx2 rfl | exact SlR.ld1 (r5.mono hq.1) hx2 rfl | exact SlR.ld (r5.mono hq.1) hx3 rfl | exact SlR.ld1 (r5.mono hq.1) hx3 rfl)) ?_)
        first | (refine fw_takeT 3 9 rfl (by kernel_rfl) (by kernel_rfl) rfl rfl (by kernel_rfl) (by kernel_rfl) (by kernel_rfl) hNP hU rfl (fun w' hq => pv_fa (tF rfl) rfl) ?_)
        first | (refine fw_takeT 4 9 rfl (by kernel_rfl) (by kernel_rfl) rfl rfl (by kernel_rfl) (by kernel_rfl) (by kernel_rfl) hNP hU rfl (fun w' hq => pv_load (t1 rfl) rfl (by first | exact PT.ld0 (HFq.mono hq.1) rfl | exact PT.ld (HFq.mono hq.1) rfl | exact PT.ld0 (HGq.mono hq.1) rfl | exact PT.ld (HGq.mono hq.1) rfl | exact SlR.ld (r5.mono hq.1) hx2 rfl | exact SlR.ld1 (r5.mono hq.1) hx2 rfl | exact SlR.ld (r5.mono hq.1) hx3 rfl | exact SlR.ld1 (r5.mono hq.1) hx3 rfl)) ?_)
        first | (refine fw_takeT 5 9 rfl (by kernel_rfl) (by kernel_rfl) rfl rfl (by kernel_rfl) (by kernel_rfl) (by kernel_rfl) hNP hU rfl (fun w' hq => pv_move rfl) ?_)
        first | (refine fw_takeT 6 9 rfl (by kernel_rfl) (by kernel_rfl) rfl rfl (by kernel_rfl) (by kernel_rfl) (by kernel_rfl) hNP hU rfl (fun w' hq => pv_ia (tS rfl) rfl rfl (by omega)) ?_)
        first | (refine fw_takeT 7 9 rfl (by kernel_rfl) (by kernel_rfl) rfl rfl (by kernel_rfl) (by kernel_rfl) (by kernel_rfl) hNP hU rfl (fun w' hq => pv_load (t1 rfl) rfl (by first | exact PT.ld0 (HFq.mono hq.1) rfl | exact PT.ld (HFq.mono hq.1) rfl | exact PT.ld0 (HGq.mono hq.1) rfl | exact PT.ld (HGq.mono hq.1) rfl | exact SlR.ld (r5.mono hq.1) hx2 rfl | exact SlR.ld1 (r5.mono hq.1) hx2 rfl | exact SlR.ld (r5.mono hq.1) hx3 rfl | exact SlR.ld1 (r5.mono hq.1) hx3 rfl)) ?_)
        first | (refine fw_takeT 8 9 rfl (by kernel_rfl) (by kernel_rfl) rfl rfl (by kernel_rfl) (by kernel_rfl) (by kernel_rfl) hNP hU rfl (fun w' hq => pv_move rfl) ?_)
        first | (refine fw_takeT 9 9 rfl (by kernel_rfl) (by kernel_rfl) rfl rfl (by kernel_rfl) (by kernel_rfl) (by kernel_rfl) hNP hU rfl (fun w' hq => pv_ia (tS rfl) rfl rfl (by omega)) ?_)
        first | (refine fw_takeT 10 9 rfl (by kernel_rfl) (by kernel_rfl) rfl rfl (by kernel_rfl) (by kernel_rfl) (by kernel_rfl) hNP hU rfl (fun w' hq => pv_load (t1 rfl) rfl (by first | exact PT.ld0 (HFq.mono hq.1) rfl | exact PT.ld (HFq.mono hq.1) rfl | exact PT.ld0 (HGq.mono hq.1) rfl | exact PT.ld (HGq.mono hq.1) rfl | exact SlR.ld (r5.mono hq.1) hx2 rfl | exact SlR.ld1 (r5.mono hq.1) hx2 rfl | exact SlR.ld (r5.mono hq.1) hx3 rfl | exact SlR.ld1 (r5.mono hq.1) hx3 rfl)) ?_)
        first | (refine fw_takeT 11 9 rfl (by kernel_rfl) (by kernel_rfl) rfl rfl (by kernel_rfl) (by kernel_rfl) (by kernel_rfl) hNP hU rfl (fun w' hq => pv_move rfl) ?_)
        first | (refine fw_takeT 12 9 rfl (by kernel_rfl) (by kernel_rfl) rfl rfl (by kernel_rfl) (by kernel_rfl) (by kernel_rfl) hNP hU rfl (fun w' hq => pv_ia (tS rfl) rfl rfl (by omega)) ?_)
        first | (refine fw_takeT 13 9 rfl (by kernel_rfl) (by kernel_rfl) rfl rfl (by kernel_rfl) (by kernel_rfl) (by kernel_rfl) hNP hU rfl (fun w' hq => pv_load (t1 rfl) rfl (by first | exact PT.ld0 (HFq.mono hq.1) rfl | exact PT.ld (HFq.mono hq.1) rfl | exact PT.ld0 (HGq.mono hq.1) rfl | exact PT.ld (HGq.mono hq.1) rfl | exact SlR.ld (r5.mono hq.1) hx2 rfl | exact SlR.ld1 (r5.mono hq.1) hx2 rfl | exact SlR.ld (r5.mono hq.1) hx3 rfl | exact SlR.ld1 (r5.mono hq.1) hx3 rfl)) ?_)
        first | (refine fw_takeT 14 9 rfl (by kernel_rfl) (by kernel_rfl) rfl rfl (by kernel_rfl) (by kernel_rfl) (by kernel_rfl) hNP hU rfl (fun w' hq => pv_mul rfl rfl (by omega)) ?_)
        obtain ⟨hw, -⟩ := hU; clear hNP
        refine fw_one 15 (by kernel_rfl) rfl rfl rfl (by kernel_rfl) ?_
        refine act_callw (f := 19) rfl (by kernel_rfl) rfl (addM_c (p := ⟨b'.acct, b'.inst, n3, 0, n2 * n3, 0⟩) (K2.mono hw).n (K2.mono hw).m hS hL (by omega) (by dsimp only; omega) (by dsimp only; omega) (by dsimp only; omega)) ?_; rintro e5 w5 ⟨rfl, hM5, hg5⟩; rw [hXI] at hM5; refine ⟨_, rfl, ?_⟩
        refine fw_done (by kernel_rfl) ?_
        have K3 := (K2.mono hw).upd hg5 hM5
        have HY := pt_keptM ((HGq).mono hw) hg5 (K2.mono hw).m
        have HX9' := pt_keptM (HX9.mono hw) hg5 (K2.mono hw).m
        have hS3 := sums_add hS hL hD.okb (by dsimp only; omega) (by show _ ∧ _ ≤ (4611686018427387904 : Int); omega)
        have hL3 := addS_may hL hD.okb
        clear hw r5
        have r5 := r5z.mono K3.b
        have hw := Below.refl w5.heap.size w5
        repeat' (first | (refine is_qw ?_; first | (with_reducible refine qw_then ?_)))
        refine cw_drawnF 19 (fun w' => Below w5.heap.size w5 w' ∧ True) (by kernel_rfl) (by repeat (first | exact NoPanic.body | with_reducible refine NoPanic.then ?_ | with_reducible refine NoPanic.inBlock ?_)) (fun hNP => ?_)
        have hU := And.intro hw.drew trivial
        first | (refine fw_takeT 0 9 rfl (by kernel_rfl) (by kernel_rfl) rfl rfl (by kernel_rfl) (by kernel_rfl) (by kernel_rfl) hNP hU rfl (fun w' hq => pv_move rfl) ?_)
        first | (refine fw_takeT 1 9 rfl (by kernel_rfl) (by kernel_rfl) rfl rfl (by kernel_rfl) (by kernel_rfl) (by kernel_rfl) hNP hU rfl (fun w' hq => pv_fa (tF rfl) rfl) ?_)
        first | (refine fw_takeT 2 9 rfl (by kernel_rfl) (by kernel_rfl) rfl rfl (by kernel_rfl) (by kernel_rfl) (by kernel_rfl) hNP hU rfl (fun w' hq => pv_load (t1 rfl) rfl (by first | exact PT.ld0 (HY.mono hq.1) rfl | exact PT.ld (HY.mono hq.1) rfl | exact SlR.ld (r5.mono hq.1) hx2 rfl | exact SlR.ld1 (r5.mono hq.1) hx2 rfl | exact SlR.ld (r5.mono hq.1) hx3 rfl | exact SlR.ld1 (r5.mono hq.1) hx3 rfl | exact SlR.ld (r5.mono hq.1) hx4 rfl | exact SlR.ld1 (r5.mono hq.1) hx4 rfl)) ?_)
        first | (refine fw_takeT 3 9 rfl (by kernel_rfl) (by kernel_rfl) rfl rfl (by kernel_rfl) (by kernel_rfl) (by kernel_rfl) hNP hU rfl (fun w' hq => pv_fa (tF rfl) rfl) ?_)
        first | (refine fw_takeT 4 9 rfl (by kernel_rfl) (by kernel_rfl) rfl rfl (by kernel_rfl) (by kernel_rfl) (by kernel_rfl) hNP hU rfl (fun w' hq => pv_load (t1 rfl) rfl (by first | exact PT.ld0 (HY.mono hq.1) rfl | exact PT.ld (HY.mono hq.1) rfl | exact SlR.ld (r5.mono hq.1) hx2 rfl | exact SlR.ld1 (r5.mono hq.1) hx2 rfl | exact SlR.ld (r5.mono hq.1) hx3 rfl | exact SlR.ld1 (r5.mono hq.1) hx3 rfl | exact SlR.ld (r5.mono hq.1) hx4 rfl | exact SlR.ld1 (r5.mono hq.1) hx4 rfl)) ?_)
        first | (refine fw_takeT 5 9 rfl (by kernel_rfl) (by kernel_rfl) rfl rfl (by kernel_rfl) (by kernel_rfl) (by kernel_rfl) hNP hU rfl (fun w' hq => pv_move rfl) ?_)
        first | (refine fw_takeT 6 9 rfl (by kernel_rfl) (by kernel_rfl) rfl rfl (by kernel_rfl) (by kernel_rfl) (by kernel_rfl) hNP hU rfl (fun w' hq => pv_ia (tS rfl) rfl rfl (by omega)) ?_)
        first | (refine fw_takeT 7 9 rfl (by kernel_rfl) (by kernel_rfl) rfl rfl (by kernel_rfl) (by kernel_rfl) (by kernel_rfl) hNP hU rfl (fun w' hq => pv_load (t1 rfl) rfl (by first | exact PT.ld0 (HY.mono hq.1) rfl | exact PT.ld (HY.mono hq.1) rfl | exact SlR.ld (r5.mono hq.1) hx2 rfl | exact SlR.ld1 (r5.mono hq.1) hx2 rfl | exact SlR.ld (r5.mono hq.1) hx3 rfl | exact SlR.ld1 (r5.mono hq.1) hx3 rfl | exact SlR.ld (r5.mono hq.1) hx4 rfl | exact SlR.ld1 (r5.mono hq.1) hx4 rfl)) ?_)
        first | (refine fw_takeT 8 9 rfl (by kernel_rfl) (by kernel_rfl) rfl rfl (by kernel_rfl) (by kernel_rfl) (by kernel_rfl) hNP hU rfl (fun w' hq => pv_move rfl) ?_)
        first | (refine fw_takeT 9 9 rfl (by kernel_rfl) (by kernel_rfl) rfl rfl (by kernel_rfl) (by kernel_rfl) (by kernel_rfl) hNP hU rfl (fun w' hq => pv_ia (tS rfl) rfl rfl (by omega)) ?_)
        first | (refine fw_takeT 10 9 rfl (by kernel_rfl) (by kernel_rfl) rfl rfl (by kernel_rfl) (by kernel_rfl) (by kernel_rfl) hNP hU rfl (fun w' hq => pv_load (t1 rfl) rfl (by first | exact PT.ld0 (HY.mono hq.1) rfl | exact PT.ld (HY.mono hq.1) rfl | exact SlR.ld (r5.mono hq.1) hx2 rfl | exact SlR.ld1 (r5.mono hq.1) hx2 rfl | exact SlR.ld (r5.mono hq.1) hx3 rfl | exact SlR.ld1 (r5.mono hq.1) hx3 rfl | exact SlR.ld (r5.mono hq.1) hx4 rfl | exact SlR.ld1 (r5.mono hq.1) hx4 rfl)) ?_)
        first | (refine fw_takeT 11 9 rfl (by kernel_rfl) (by kernel_rfl) rfl rfl (by kernel_rfl) (by kernel_rfl) (by kernel_rfl) hNP hU rfl (fun w' hq => pv_move rfl) ?_)
        first | (refine fw_takeT 12 9 rfl (by kernel_rfl) (by kernel_rfl) rfl rfl (by kernel_rfl) (by kernel_rfl) (by kernel_rfl) hNP hU rfl (fun w' hq => pv_ia (tS rfl) rfl rfl (by omega)) ?_)
        first | (refine fw_takeT 13 9 rfl (by kernel_rfl) (by kernel_rfl) rfl rfl (by kernel_rfl) (by kernel_rfl) (by kernel_rfl) hNP hU rfl (fun w' hq => pv_load (t1 rfl) rfl (by first | exact PT.ld0 (HY.mono hq.1) rfl | exact PT.ld (HY.mono hq.1) rfl | exact SlR.ld (r5.mono hq.1) hx2 rfl | exact SlR.ld1 (r5.mono hq.1) hx2 rfl | exact SlR.ld (r5.mono hq.1) hx3 rfl | exact SlR.ld1 (r5.mono hq.1) hx3 rfl | exact SlR.ld (r5.mono hq.1) hx4 rfl | exact SlR.ld1 (r5.mono hq.1) hx4 rfl)) ?_)
        first | (refine fw_takeT 14 9 rfl (by kernel_rfl) (by kernel_rfl) rfl rfl (by kernel_rfl) (by kernel_rfl) (by kernel_rfl) hNP hU rfl (fun w' hq => pv_mul rfl rfl (by omega)) ?_)
        first | (refine fw_takeT 15 9 rfl (by kernel_rfl) (by kernel_rfl) rfl rfl (by kernel_rfl) (by kernel_rfl) (by kernel_rfl) hNP hU rfl (fun w' hq => pv_move rfl) ?_)
        first | (refine fw_takeT 16 9 rfl (by kernel_rfl) (by kernel_rfl) rfl rfl (by kernel_rfl) (by kernel_rfl) (by kernel_rfl) hNP hU rfl (fun w' hq => pv_ia (tS rfl) rfl rfl (by omega)) ?_)
        first | (refine fw_takeT 17 9 rfl (by kernel_rfl) (by kernel_rfl) rfl rfl (by kernel_rfl) (by kernel_rfl) (by kernel_rfl) hNP hU rfl (fun w' hq => pv_load (t1 rfl) rfl (by first | exact PT.ld0 (HY.mono hq.1) rfl | exact PT.ld (HY.mono hq.1) rfl | exact SlR.ld (r5.mono hq.1) hx2 rfl | exact SlR.ld1 (r5.mono hq.1) hx2 rfl | exact SlR.ld (r5.mono hq.1) hx3 rfl | exact SlR.ld1 (r5.mono hq.1) hx3 rfl | exact SlR.ld (r5.mono hq.1) hx4 rfl | exact SlR.ld1 (r5.mono hq.1) hx4 rfl)) ?_)
        first | (refine fw_takeT 18 9 rfl (by kernel_rfl) (by kernel_rfl) rfl rfl (by kernel_rfl) (by kernel_rfl) (by kernel_rfl) hNP hU rfl (fun w' hq => pv_sub rfl rfl (by omega)) ?_)
        obtain ⟨hw, -⟩ := hU; clear hNP
        refine fw_one 19 (by kernel_rfl) rfl rfl rfl (by kernel_rfl) ?_
        refine act_callw (f := 19) rfl (by kernel_rfl) rfl (addM_c (p := ⟨a'.acct, a'.inst, 0, n3, 0, n2 * n3 - n4⟩) (K3.mono hw).n (K3.mono hw).m hS3 hL3 (by omega) (by dsimp only; omega) (by dsimp only; omega) (by dsimp only; omega)) ?_; rintro e6 w6 ⟨rfl, hM6, hg6⟩; rw [hYI] at hM6; refine ⟨_, rfl, ?_⟩
        refine fw_done (by kernel_rfl) ?_
        have K4 := (K3.mono hw).upd hg6 hM6
        have HX9'' := pt_keptM (HX9'.mono hw) hg6 (K3.mono hw).m
        have hS4 := sums_add hS3 hL3 hD.oks (by dsimp only; omega) (by show _ ∧ _ ≤ (4611686018427387904 : Int); omega)
        have hL4 := addS_may hL3 hD.oks
        rw [← hD.out] at hS4 hL4
        have hlen4 : Rp.1.length ≤ L.length + 2 := by
          rw [hD.out]
          exact Nat.le_trans (addS_len _ _) (by have := addS_len (⟨b'.acct, a'.inst, n3, 0, n2 * n3, 0⟩ : Pos) L; omega)
        clear hw
        have hw := Below.refl w6.heap.size w6
        repeat' (first | (refine lw_pure rfl (pv_move rfl) ?_) | (refine lw_pure rfl (pv_assign rfl) ?_) | (refine is_cw ?_; first | (refine cw_seq ?_) | (refine cw_region ?_) | (refine is_cd ?_; refine cw_false rfl (by first | assumption | exact decide_eq_false (by omega) | exact dec_notF (by omega)) ?_) | (refine cw_skip ?_)) | (refine is_qw ?_; first | (with_reducible refine qw_then ?_) | (with_reducible refine qw_in ?_)) | (refine lw_nil ?_) | ((refine is_bin ?_; first | (refine lw_pure rfl (pv_eql rfl rfl) ?_) | (refine lw_pure rfl (pv_inc rfl rfl (by omega)) ?_))) | ((refine is_load ?_; first | (refine lw_pure rfl (pv_load (t1 rfl) rfl (by first | exact PT.ld0 (HX9''.mono hw) rfl | exact PT.ld (HX9''.mono hw) rfl)) ?_))) | ((refine is_fa ?_; first | (refine lw_pure rfl (pv_fa (tF rfl) rfl) ?_))))
        exact qw_round (k + 1, .slice a6 Rp.1.length c6, .slice a7 E2.1.length c7, .slice a8 E2.2.1.length c8) (by repeat' (first | exact trivial | refine ⟨rfl, ?_⟩)) ⟨by show k + 1 ≤ _; omega, Rp.1, E2.1, E2.2.1, _, K4.mono hw, hS4.weaken (by show _ ≤ ((k + 1 : Nat) : Int) * _; omega), hL4, by show _ ≤ 2 * (k + 1); omega⟩ (by show xs.length - (k + 1) < xs.length - k; omega)
      · rw [if_neg h2s, if_neg h2s] at hD
        repeat' (first | (refine lw_pure rfl (pv_assign rfl) ?_) | (refine is_cw ?_; first | (refine cw_seq ?_) | (refine cw_region ?_) | (refine is_cd ?_; refine cw_false rfl (by first | assumption | exact decide_eq_false (by omega) | exact dec_notF (by omega)) ?_) | (refine cw_skip ?_)) | (refine is_qw ?_; first | (with_reducible refine qw_then ?_)) | (refine lw_nil ?_) | ((refine is_bin ?_; first | (refine lw_pure rfl (pv_eql rfl rfl) ?_))) | ((refine is_load ?_; first | (refine lw_pure rfl (pv_load (t1 rfl) rfl (by first | exact PT.ld0 HF rfl | exact PT.ld HF rfl | exact PT.ld0 HG rfl | exact PT.ld HG rfl)) ?_))) | ((refine is_fa ?_; first | (refine lw_pure rfl (pv_fa (tF rfl) rfl) ?_))))
        replace K2 := K2.mono hw
        replace HX9 := HX9.mono hw
        clear hw r5 H4 H5
        have r5 := r5z.mono K2.b
        have hw := Below.refl wm.heap.size wm
        have hXI : a'.inst = a'.inst := rfl
        have hYI : b'.inst = a'.inst := hin.symm
        refine cw_drawnF 15 (fun w' => Below wm.heap.size wm w' ∧ True) (by kernel_rfl) (by repeat (first | exact NoPanic.body | with_reducible refine NoPanic.then ?_ | with_reducible refine NoPanic.inBlock ?_)) (fun hNP => ?_)
        have hU := And.intro hw.drew trivial
        first | (refine fw_takeT 0 9 rfl (by kernel_rfl) (by kernel_rfl) rfl rfl (by kernel_rfl) (by kernel_rfl) (by kernel_rfl) hNP hU rfl (fun w' hq => pv_move rfl) ?_)
        first | (refine fw_takeT 1 9 rfl (by kernel_rfl) (by kernel_rfl) rfl rfl (by kernel_rfl) (by kernel_rfl) (by kernel_rfl) hNP hU rfl (fun w' hq => pv_fa (tF rfl) rfl) ?_)
        first | (refine fw_takeT 2 9 rfl (by kernel_rfl) (by kernel_rfl) rfl rfl (by kernel_rfl) (by kernel_rfl) (by kernel_rfl) hNP hU rfl (fun w' hq => pv_load (t1 rfl) rfl (by first | exact PT.ld0 (HF.mono hq.1) rfl | exact PT.ld (HF.mono hq.1) rfl | exact PT.ld0 (HG.mono hq.1) rfl | exact PT.ld (HG.mono hq.1) rfl | exact SlR.ld (r5.mono hq.1) hx2 rfl | exact SlR.ld1 (r5.mono hq.1) hx2 rfl | exact SlR.ld (r5.mono hq.1) hx3 rfl | exact SlR.ld1 (r5.mono hq.1) hx3 rfl)) ?_)
        first | (refine fw_takeT 3 9 rfl (by kernel_rfl) (by kernel_rfl) rfl rfl (by kernel_rfl) (by kernel_rfl) (by kernel_rfl) hNP hU rfl (fun w' hq => pv_fa (tF rfl) rfl) ?_)
        first | (refine fw_takeT 4 9 rfl (by kernel_rfl) (by kernel_rfl) rfl rfl (by kernel_rfl) (by kernel_rfl) (by kernel_rfl) hNP hU rfl (fun w' hq => pv_load (t1 rfl) rfl (by first | exact PT.ld0 (HF.mono hq.1) rfl | exact PT.ld (HF.mono hq.1) rfl | exact PT.ld0 (HG.mono hq.1) rfl | exact PT.ld (HG.mono hq.1) rfl | exact SlR.ld (r5.mono hq.1) hx2 rfl | exact SlR.ld1 (r5.mono hq.1) hx2 rfl | exact SlR.ld (r5.mono hq.1) hx3 rfl | exact SlR.ld1 (r5.mono hq.1) hx3 rfl)) ?_)
        first | (refine fw_takeT 5 9 rfl (by kernel_rfl) (by kernel_rfl) rfl rfl (by kernel_rfl) (by kernel_rfl) (by kernel_rfl) hNP hU rfl (fun w' hq => pv_move rfl) ?_)
        first | (refine fw_takeT 6 9 rfl (by kernel_rfl) (by kernel_rfl) rfl rfl (by kernel_rfl) (by kernel_rfl) (by kernel_rfl) hNP hU rfl (fun w' hq => pv_ia (tS rfl) rfl rfl (by omega)) ?_)
        first | (refine fw_takeT 7 9 rfl (by kernel_rfl) (by kernel_rfl) rfl rfl (by kernel_rfl) (by kernel_rfl) (by kernel_rfl) hNP hU rfl (fun w' hq => pv_load (t1 rfl) rfl (by first | exact PT.ld0 (HF.mono hq.1) rfl | exact PT.ld (HF.mono hq.1) rfl | exact PT.ld0 (HG.mono hq.1) rfl | exact PT.ld (HG.mono hq.1) rfl | exact SlR.ld (r5.mono hq.1) hx2 rfl | exact SlR.ld1 (r5.mono hq.1) hx2 rfl | exact SlR.ld (r5.mono hq.1) hx3 rfl | exact SlR.ld1 (r5.mono hq.1) hx3 rfl)) ?_)
        first | (refine fw_takeT 8 9 rfl (by kernel_rfl) (by kernel_rfl) rfl rfl (by kernel_rfl) (by kernel_rfl) (by kernel_rfl) hNP hU rfl (fun w' hq => pv_move rfl) ?_)
        first | (refine fw_takeT 9 9 rfl (by kernel_rfl) (by kernel_rfl) rfl rfl (by kernel_rfl) (by kernel_rfl) (by kernel_rfl) hNP hU rfl (fun w' hq => pv_ia (tS rfl) rfl rfl (by omega)) ?_)
        first | (refine fw_takeT 10 9 rfl (by kernel_rfl) (by kernel_rfl) rfl rfl (by kernel_rfl) (by kernel_rfl) (by kernel_rfl) hNP hU rfl (fun w' hq => pv_load (t1 rfl) rfl (by first | exact PT.ld0 (HF.mono hq.1) rfl | exact PT.ld (HF.mono hq.1) rfl | exact PT.ld0 (HG.mono hq.1) rfl | exact PT.ld (HG.mono hq.1) rfl | exact SlR.ld (r5.mono hq.1) hx2 rfl | exact SlR.ld1 (r5.mono hq.1) hx2 rfl | exact SlR.ld (r5.mono hq.1) hx3 rfl | exact SlR.ld1 (r5.mono hq.1) hx3 rfl)) ?_)
        first | (refine fw_takeT 11 9 rfl (by kernel_rfl) (by kernel_rfl) rfl rfl (by kernel_rfl) (by kernel_rfl) (by kernel_rfl) hNP hU rfl (fun w' hq => pv_move rfl) ?_)
        first | (refine fw_takeT 12 9 rfl (by kernel_rfl) (by kernel_rfl) rfl rfl (by kernel_rfl) (by kernel_rfl) (by kernel_rfl) hNP hU rfl (fun w' hq => pv_ia (tS rfl) rfl rfl (by omega)) ?_)
        first | (refine fw_takeT 13 9 rfl (by kernel_rfl) (by kernel_rfl) rfl rfl (by kernel_rfl) (by kernel_rfl) (by kernel_rfl) hNP hU rfl (fun w' hq => pv_load (t1 rfl) rfl (by first | exact PT.ld0 (HF.mono hq.1) rfl | exact PT.ld (HF.mono hq.1) rfl | exact PT.ld0 (HG.mono hq.1) rfl | exact PT.ld (HG.mono hq.1) rfl | exact SlR.ld (r5.mono hq.1) hx2 rfl | exact SlR.ld1 (r5.mono hq.1) hx2 rfl | exact SlR.ld (r5.mono hq.1) hx3 rfl | exact SlR.ld1 (r5.mono hq.1) hx3 rfl)) ?_)
        first | (refine fw_takeT 14 9 rfl (by kernel_rfl) (by kernel_rfl) rfl rfl (by kernel_rfl) (by kernel_rfl) (by kernel_rfl) hNP hU rfl (fun w' hq => pv_mul rfl rfl (by omega)) ?_)
        obtain ⟨hw, -⟩ := hU; clear hNP
        refine fw_one 15 (by kernel_rfl) rfl rfl rfl (by kernel_rfl) ?_
        refine act_callw (f := 19) rfl (by kernel_rfl) rfl (addM_c (p := ⟨a'.acct, a'.inst, n3, 0, n2 * n3, 0⟩) (K2.mono hw).n (K2.mono hw).m hS hL (by omega) (by dsimp only; omega) (by dsimp only; omega) (by dsimp only; omega)) ?_; rintro e5 w5 ⟨rfl, hM5, hg5⟩; rw [hXI] at hM5; refine ⟨_, rfl, ?_⟩
        refine fw_done (by kernel_rfl) ?_
        have K3 := (K2.mono hw).upd hg5 hM5
        have HY := pt_keptM ((HG).mono hw) hg5 (K2.mono hw).m
        have HX9' := pt_keptM (HX9.mono hw) hg5 (K2.mono hw).m
        have hS3 := sums_add hS hL hD.okb (by dsimp only; omega) (by show _ ∧ _ ≤ (4611686018427387904 : Int); omega)
        have hL3 := addS_may hL hD.okb
        clear hw r5
        have r5 := r5z.mono K3.b
        have hw := Below.refl w5.heap.size w5
        repeat' (first | (refine is_qw ?_; first | (with_reducible refine qw_then ?_)))
        refine cw_drawnF 19 (fun w' => Below w5.heap.size w5 w' ∧ True) (by kernel_rfl) (by repeat (first | exact NoPanic.body | with_reducible refine NoPanic.then ?_ | with_reducible refine NoPanic.inBlock ?_)) (fun hNP => ?_)
        have hU := And.intro hw.drew trivial
        first | (refine fw_takeT 0 9 rfl (by kernel_rfl) (by kernel_rfl) rfl rfl (by kernel_rfl) (by kernel_rfl) (by kernel_rfl) hNP hU rfl (fun w' hq => pv_move rfl) ?_)
        first | (refine fw_takeT 1 9 rfl (by kernel_rfl) (by kernel_rfl) rfl rfl (by kernel_rfl) (by kernel_rfl) (by kernel_rfl) hNP hU rfl (fun w' hq => pv_fa (tF rfl) rfl) ?_)
        first | (refine fw_takeT 2 9 rfl (by kernel_rfl) (by kernel_rfl) rfl rfl (by kernel_rfl) (by kernel_rfl) (by kernel_rfl) hNP hU rfl (fun w' hq => pv_load (t1 rfl) rfl (by first | exact PT.ld0 (HY.mono hq.1) rfl | exact PT.ld (HY.mono hq.1) rfl | exact SlR.ld (r5.mono hq.1) hx2 rfl | exact SlR.ld1 (r5.mono hq.1) hx2 rfl | exact SlR.ld (r5.mono hq.1) hx3 rfl | exact SlR.ld1 (r5.mono hq.1) hx3 rfl | exact SlR.ld (r5.mono hq.1) hx4 rfl | exact SlR.ld1 (r5.mono hq.1) hx4 rfl)) ?_)
        first | (refine fw_takeT 3 9 rfl (by kernel_rfl) (by kernel_rfl) rfl rfl (by kernel_rfl) (by kernel_rfl) (by kernel_rfl) hNP hU rfl (fun w' hq => pv_fa (tF rfl) rfl) ?_)
        first | (refine fw_takeT 4 9 rfl (by kernel_rfl) (by kernel_rfl) rfl rfl (by kernel_rfl) (by kernel_rfl) (by kernel_rfl) hNP hU rfl (fun w' hq => pv_load (t1 rfl) rfl (by first | exact PT.ld0 (HY.mono hq.1) rfl | exact PT.ld (HY.mono hq.1) rfl | exact SlR.ld (r5.mono hq.1) hx2 rfl | exact SlR.ld1 (r5.mono hq.1) hx2 rfl | exact SlR.ld (r5.mono hq.1) hx3 rfl | exact SlR.ld1 (r5.mono hq.1) hx3 rfl | exact SlR.ld (r5.mono hq.1) hx4 rfl | exact SlR.ld1 (r5.mono hq.1) hx4 rfl)) ?_)
        first | (refine fw_takeT 5 9 rfl (by kernel_rfl) (by kernel_rfl) rfl rfl (by kernel_rfl) (by kernel_rfl) (by kernel_rfl) hNP hU rfl (fun w' hq => pv_move rfl) ?_)
        first | (refine fw_takeT 6 9 rfl (by kernel_rfl) (by kernel_rfl) rfl rfl (by kernel_rfl) (by kernel_rfl) (by kernel_rfl) hNP hU rfl (fun w' hq => pv_ia (tS rfl) rfl rfl (by omega)) ?_)
        first | (refine fw_takeT 7 9 rfl (by kernel_rfl) (by kernel_rfl) rfl rfl (by kernel_rfl) (by kernel_rfl) (by kernel_rfl) hNP hU rfl (fun w' hq => pv_load (t1 rfl) rfl (by first | exact PT.ld0 (HY.mono hq.1) rfl | exact PT.ld (HY.mono hq.1) rfl | exact SlR.ld (r5.mono hq.1) hx2 rfl | exact SlR.ld1 (r5.mono hq.1) hx2 rfl | exact SlR.ld (r5.mono hq.1) hx3 rfl | exact SlR.ld1 (r5.mono hq.1) hx3 rfl | exact SlR.ld (r5.mono hq.1) hx4 rfl | exact SlR.ld1 (r5.mono hq.1) hx4 rfl)) ?_)
        first | (refine fw_takeT 8 9 rfl (by kernel_rfl) (by kernel_rfl) rfl rfl (by kernel_rfl) (by kernel_rfl) (by kernel_rfl) hNP hU rfl (fun w' hq => pv_move rfl) ?_)
        first | (refine fw_takeT 9 9 rfl (by kernel_rfl) (by kernel_rfl) rfl rfl (by kernel_rfl) (by kernel_rfl) (by kernel_rfl) hNP hU rfl (fun w' hq => pv_ia (tS rfl) rfl rfl (by omega)) ?_)
        first | (refine fw_takeT 10 9 rfl (by kernel_rfl) (by kernel_rfl) rfl rfl (by kernel_rfl) (by kernel_rfl) (by kernel_rfl) hNP hU rfl (fun w' hq => pv_load (t1 rfl) rfl (by first | exact PT.ld0 (HY.mono hq.1) rfl | exact PT.ld (HY.mono hq.1) rfl | exact SlR.ld (r5.mono hq.1) hx2 rfl | exact SlR.ld1 (r5.mono hq.1) hx2 rfl | exact SlR.ld (r5.mono hq.1) hx3 rfl | exact SlR.ld1 (r5.mono hq.1) hx3 rfl | exact SlR.ld (r5.mono hq.1) hx4 rfl | exact SlR.ld1 (r5.mono hq.1) hx4 rfl)) ?_)
        first | (refine fw_takeT 11 9 rfl (by kernel_rfl) (by kernel_rfl) rfl rfl (by kernel_rfl) (by kernel_rfl) (by kernel_rfl) hNP hU rfl (fun w' hq => pv_move rfl) ?_)
        first | (refine fw_takeT 12 9 rfl (by kernel_rfl) (by kernel_rfl) rfl rfl (by kernel_rfl) (by kernel_rfl) (by kernel_rfl) hNP hU rfl (fun w' hq => pv_ia (tS rfl) rfl rfl (by omega)) ?_)
        first | (refine fw_takeT 13 9 rfl (by kernel_rfl) (by kernel_rfl) rfl rfl (by kernel_rfl) (by kernel_rfl) (by kernel_rfl) hNP hU rfl (fun w' hq => pv_load (t1 rfl) rfl (by first | exact PT.ld0 (HY.mono hq.1) rfl | exact PT.ld (HY.mono hq.1) rfl | exact SlR.ld (r5.mono hq.1) hx2 rfl | exact SlR.ld1 (r5.mono hq.1) hx2 rfl | exact SlR.ld (r5.mono hq.1) hx3 rfl | exact SlR.ld1 (r5.mono hq.1) hx3 rfl | exact SlR.ld (r5.mono hq.1) hx4 rfl | exact SlR.ld1 (r5.mono hq.1) hx4 rfl)) ?_)
        first | (refine fw_takeT 14 9 rfl (by kernel_rfl) (by kernel_rfl) rfl rfl (by kernel_rfl) (by kernel_rfl) (by kernel_rfl) hNP hU rfl (fun w' hq => pv_mul rfl rfl (by omega)) ?_)
        first | (refine fw_takeT 15 9 rfl (by kernel_rfl) (by kernel_rfl) rfl rfl (by kernel_rfl) (by kernel_rfl) (by kernel_rfl) hNP hU rfl (fun w' hq => pv_move rfl) ?_)
        first | (refine fw_takeT 16 9 rfl (by kernel_rfl) (by kernel_rfl) rfl rfl (by kernel_rfl) (by kernel_rfl) (by kernel_rfl) hNP hU rfl (fun w' hq => pv_ia (tS rfl) rfl rfl (by omega)) ?_)
        first | (refine fw_takeT 17 9 rfl (by kernel_rfl) (by kernel_rfl) rfl rfl (by kernel_rfl) (by kernel_rfl) (by kernel_rfl) hNP hU rfl (fun w' hq => pv_load (t1 rfl) rfl (by first | exact PT.ld0 (HY.mono hq.1) rfl | exact PT.ld (HY.mono hq.1) rfl | exact SlR.ld (r5.mono hq.1) hx2 rfl | exact SlR.ld1 (r5.mono hq.1) hx2 rfl | exact SlR.ld (r5.mono hq.1) hx3 rfl | exact SlR.ld1 (r5.mono hq.1) hx3 rfl | exact SlR.ld (r5.mono hq.1) hx4 rfl | exact SlR.ld1 (r5.mono hq.1) hx4 rfl)) ?_)
        first | (refine fw_takeT 18 9 rfl (by kernel_rfl) (by kernel_rfl) rfl rfl (by kernel_rfl) (by kernel_rfl) (by kernel_rfl) hNP hU rfl (fun w' hq => pv_sub rfl rfl (by omega)) ?_)
        obtain ⟨hw, -⟩ := hU; clear hNP
        refine fw_one 19 (by kernel_rfl) rfl rfl rfl (by kernel_rfl) ?_
        refine act_callw (f := 19) rfl (by kernel_rfl) rfl (addM_c (p := ⟨b'.acct, b'.inst, 0, n3, 0, n2 * n3 - n4⟩) (K3.mono hw).n (K3.mono hw).m hS3 hL3 (by omega) (by dsimp only; omega) (by dsimp only; omega) (by dsimp only; omega)) ?_; rintro e6 w6 ⟨rfl, hM6, hg6⟩; rw [hYI] at hM6; refine ⟨_, rfl, ?_⟩
        refine fw_done (by kernel_rfl) ?_
        have K4 := (K3.mono hw).upd hg6 hM6
        have HX9'' := pt_keptM (HX9'.mono hw) hg6 (K3.mono hw).m
        have hS4 := sums_add hS3 hL3 hD.oks (by dsimp only; omega) (by show _ ∧ _ ≤ (4611686018427387904 : Int); omega)
        have hL4 := addS_may hL3 hD.oks
        rw [← hD.out] at hS4 hL4
        have hlen4 : Rp.1.length ≤ L.length + 2 := by
          rw [hD.out]
          exact Nat.le_trans (addS_len _ _) (by have := addS_len (⟨a'.acct, a'.inst, n3, 0, n2 * n3, 0⟩ : Pos) L; omega)
        clear hw
        have hw := Below.refl w6.heap.size w6
        repeat' (first | (refine lw_pure rfl (pv_move rfl) ?_) | (refine lw_pure rfl (pv_assign rfl) ?_) | (refine is_cw ?_; first | (refine cw_seq ?_) | (refine cw_region ?_) | (refine is_cd ?_; refine cw_false rfl (by first | assumption | exact decide_eq_false (by omega) | exact dec_notF (by omega)) ?_) | (refine cw_skip ?_)) | (refine is_qw ?_; first | (with_reducible refine qw_then ?_) | (with_reducible refine qw_in ?_)) | (refine lw_nil ?_) | ((refine is_bin ?_; first | (refine lw_pure rfl (pv_eql rfl rfl) ?_) | (refine lw_pure rfl (pv_inc rfl rfl (by omega)) ?_))) | ((refine is_load ?_; first | (refine lw_pure rfl (pv_load (t1 rfl) rfl (by first | exact PT.ld0 (HX9''.mono hw) rfl | exact PT.ld (HX9''.mono hw) rfl)) ?_))) | ((refine is_fa ?_; first | (refine lw_pure rfl (pv_fa (tF rfl) rfl) ?_))))
        exact qw_round (k + 1, .slice a6 Rp.1.length c6, .slice a7 E2.1.length c7, .slice a8 E2.2.1.length c8) (by repeat' (first | exact trivial | refine ⟨rfl, ?_⟩)) ⟨by show k + 1 ≤ _; omega, Rp.1, E2.1, E2.2.1, _, K4.mono hw, hS4.weaken (by show _ ≤ ((k + 1 : Nat) : Int) * _; omega), hL4, by show _ ≤ 2 * (k + 1); omega⟩ (by show xs.length - (k + 1) < xs.length - k; omega)
    · obtain ⟨n0, n1, n2, n3, x', hT⟩ := hsl q1 k18
      have e0 : nth e 0 = n0 := by simp [nth, hT.nums]
      have e1 : nth e 1 = n1 := by simp [nth, hT.nums]
      have e2 : nth e 2 = n2 := by simp [nth, hT.nums]
      have e3 : nth e 3 = n3 := by simp [nth, hT.nums]
      rw [e0] at fx
      obtain rfl : x' = x := Option.some.inj (hT.fx.symm.trans fx)
      rw [e1, e2, e3] at hD
      have hx0 : e.nums[0]? = some n0 := by rw [hT.nums]; rfl
      have hx1 : e.nums[1]? = some n1 := by rw [hT.nums]; rfl
      have hx2 : e.nums[2]? = some n2 := by rw [hT.nums]; rfl
      have hx3 : e.nums[3]? = some n3 := by rw [hT.nums]; rfl
      have hlen : e.nums.length = 4 := by rw [hT.nums]; rfl
      have gm := hT.mx
      have g1' := hT.g1
      have g2' := hT.g2
      have g3' := hT.g3
      have hfe := hD.fe
      clear e0 e1 e2 e3 hT htr hsl hcs
      obtain ⟨nb, no, rfl, -, -⟩ := r5.at (by intro h; rw [h] at hlen; cases hlen)
      repeat' (first | (refine lw_pure rfl (pv_move rfl) ?_) | (refine lw_pure rfl (pv_assign rfl) ?_) | (refine is_cw ?_; first | (refine cw_seq ?_) | (refine cw_region ?_) | (refine is_cd ?_; refine cw_true rfl (by first | assumption | exact decide_eq_true (by omega) | exact dec_notT (by omega)) ?_) | (refine is_cd ?_; refine cw_false rfl (by first | assumption | exact decide_eq_false (by omega) | exact dec_notF (by omega)) ?_) | (refine cw_skip ?_)) | (refine is_qw ?_; first | (with_reducible refine qw_then ?_)) | (refine lw_nil ?_) | (refine is_guarded ?_; first | (refine lw_on rfl rfl (by first | assumption | exact decide_eq_true (by omega) | exact decide_eq_false (by omega) | exact dec_notT (by omega) | exact dec_notF (by omega)) ?_)) | ((refine is_bin ?_; first | (refine lw_pure rfl (pv_eql rfl rfl) ?_) | (refine lw_pure rfl (pv_neq rfl rfl) ?_))) | ((refine is_load ?_; first | (refine lw_pure rfl (pv_load (t1 rfl) rfl (by first | exact PT.ld0 (HX9.mono hw) rfl | exact PT.ld (HX9.mono hw) rfl | exact SlR.ld (r5.mono hw) hx0 rfl | exact SlR.ld1 (r5.mono hw) hx0 rfl)) ?_))) | ((refine is_fa ?_; first | (refine lw_pure rfl (pv_fa (tF rfl) rfl) ?_))) | ((refine is_ia ?_; first | (refine lw_pure rfl (pv_ia (tS rfl) rfl rfl (by omega)) ?_))) | (refine is_pk ?_; refine lw_pure rfl (pv_pick_f rfl (by first | assumption | exact decide_eq_false (by omega) | exact dec_notF (by omega)) rfl) ?_) | (refine lw_pure rfl (pv_extract rfl rfl) ?_))
      refine lw_call (f := 22) (by kernel_rfl) rfl rfl (lot_e fx rfl (H5.mono hw)) ?_; rintro e1 wq ⟨rfl, hb⟩; refine ⟨_, rfl, ?_⟩; replace hw := grow_trans hw hb; clear hb
      repeat' (first | (refine lw_pure rfl (pv_move rfl) ?_) | (refine lw_pure rfl (pv_extract rfl rfl) ?_))
      refine lw_varN rfl (by first | exact tyv_27 | exact tyv_28 | exact tyv_38 | exact tyv_39 | exact tyv_48 | exact tyv_49 | exact tyv_52 | exact tyv_53 | exact tyv_68 | exact tyv_69 | exact tyv_79 | exact tyv_80 | exact tyv_94 | exact tyv_95 | exact tyv_131 | exact tyv_132) rfl (tZ rfl) (fun _ => rfl) rfl rfl ?_; intro N20 wm hN20 HF hb; replace hw := grow_trans hw hb; clear hb
      replace K2 := K2.mono hw
      replace HX9 := HX9.mono hw
      clear hw r5 H4 H5 hN20
      have r5 := r5z.mono K2.b
      have hw := Below.refl wm.heap.size wm
      repeat' (first | (refine lw_pure rfl (pv_assign rfl) ?_) | (refine is_cw ?_; first | (refine cw_seq ?_)) | (refine is_qw ?_; first | (with_reducible refine qw_then ?_)) | (refine lw_nil ?_))
      refine cw_drawnF 11 (fun w' => Below wm.heap.size wm w' ∧ True) (by kernel_rfl) (by repeat (first | exact NoPanic.body | with_reducible refine NoPanic.then ?_ | with_reducible refine NoPanic.inBlock ?_)) (fun hNP => ?_)
      have hU := And.intro hw.drew trivial
      first | (refine fw_takeT 0 9 rfl (by kernel_rfl) (by kernel_rfl) rfl rfl (by kernel_rfl) (by kernel_rfl) (by kernel_rfl) hNP hU rfl (fun w' hq => pv_move rfl) ?_)
      first | (refine fw_takeT 1 9 rfl (by kernel_rfl) (by kernel_rfl) rfl rfl (by kernel_rfl) (by kernel_rfl) (by kernel_rfl) hNP hU rfl (fun w' hq => pv_move rfl) ?_)
      first | (refine fw_takeT 2 9 rfl (by kernel_rfl) (by kernel_rfl) rfl rfl (by kernel_rfl) (by kernel_rfl) (by kernel_rfl) hNP hU rfl (fun w' hq => pv_ia (tS rfl) rfl rfl (by omega)) ?_)
      first | (refine fw_takeT 3 9 rfl (by kernel_rfl) (by kernel_rfl) rfl rfl (by kernel_rfl) (by kernel_rfl) (by kernel_rfl) hNP hU rfl (fun w' hq => pv_load (t1 rfl) rfl (by first | exact PT.ld0 (HF.mono hq.1) rfl | exact PT.ld (HF.mono hq.1) rfl | exact SlR.ld (r5.mono hq.1) hx1 rfl | exact SlR.ld1 (r5.mono hq.1) hx1 rfl | exact SlR.ld (r5.mono hq.1) hx2 rfl | exact SlR.ld1 (r5.mono hq.1) hx2 rfl)) ?_)
      first | (refine fw_takeT 4 9 rfl (by kernel_rfl) (by kernel_rfl) rfl rfl (by kernel_rfl) (by kernel_rfl) (by kernel_rfl) hNP hU rfl (fun w' hq => pv_fa (tF rfl) rfl) ?_)
      first | (refine fw_takeT 5 9 rfl (by kernel_rfl) (by kernel_rfl) rfl rfl (by kernel_rfl) (by kernel_rfl) (by kernel_rfl) hNP hU rfl (fun w' hq => pv_load (t1 rfl) rfl (by first | exact PT.ld0 (HF.mono hq.1) rfl | exact PT.ld (HF.mono hq.1) rfl | exact SlR.ld (r5.mono hq.1) hx1 rfl | exact SlR.ld1 (r5.mono hq.1) hx1 rfl | exact SlR.ld (r5.mono hq.1) hx2 rfl | exact SlR.ld1 (r5.mono hq.1) hx2 rfl)) ?_)
      first | (refine fw_takeT 6 9 rfl (by kernel_rfl) (by kernel_rfl) rfl rfl (by kernel_rfl) (by kernel_rfl) (by kernel_rfl) hNP hU rfl (fun w' hq => pv_fa (tF rfl) rfl) ?_)
      first | (refine fw_takeT 7 9 rfl (by kernel_rfl) (by kernel_rfl) rfl rfl (by kernel_rfl) (by kernel_rfl) (by kernel_rfl) hNP hU rfl (fun w' hq => pv_load (t1 rfl) rfl (by first | exact PT.ld0 (HF.mono hq.1) rfl | exact PT.ld (HF.mono hq.1) rfl | exact SlR.ld (r5.mono hq.1) hx1 rfl | exact SlR.ld1 (r5.mono hq.1) hx1 rfl | exact SlR.ld (r5.mono hq.1) hx2 rfl | exact SlR.ld1 (r5.mono hq.1) hx2 rfl)) ?_)
      first | (refine fw_takeT 8 9 rfl (by kernel_rfl) (by kernel_rfl) rfl rfl (by kernel_rfl) (by kernel_rfl) (by kernel_rfl) hNP hU rfl (fun w' hq => pv_move rfl) ?_)
      first | (refine fw_takeT 9 9 rfl (by kernel_rfl) (by kernel_rfl) rfl rfl (by kernel_rfl) (by kernel_rfl) (by kernel_rfl) hNP hU rfl (fun w' hq => pv_ia (tS rfl) rfl rfl (by omega)) ?_)
      first | (refine fw_takeT 10 9 rfl (by kernel_rfl) (by kernel_rfl) rfl rfl (by kernel_rfl) (by kernel_rfl) (by kernel_rfl) hNP hU rfl (fun w' hq => pv_load (t1 rfl) rfl (by first | exact PT.ld0 (HF.mono hq.1) rfl | exact PT.ld (HF.mono hq.1) rfl | exact SlR.ld (r5.mono hq.1) hx1 rfl | exact SlR.ld1 (r5.mono hq.1) hx1 rfl | exact SlR.ld (r5.mono hq.1) hx2 rfl | exact SlR.ld1 (r5.mono hq.1) hx2 rfl)) ?_)
      obtain ⟨hw, -⟩ := hU; clear hNP
      refine fw_one 11 (by kernel_rfl) rfl rfl rfl (by kernel_rfl) ?_
      refine act_callw (f := 19) rfl (by kernel_rfl) rfl (addM_c (p := ⟨n1, x'.inst, x'.qty, 0, n2, 0⟩) (K2.mono hw).n (K2.mono hw).m hS hL (by omega) (by dsimp only; omega) (by dsimp only; omega) (by dsimp only; omega)) ?_; rintro e5 w5 ⟨rfl, hM5, hg5⟩; refine ⟨_, rfl, ?_⟩
      refine fw_done (by kernel_rfl) ?_
      have K3 := (K2.mono hw).upd hg5 hM5
      have HY := pt_keptM (HF.mono hw) hg5 (K2.mono hw).m
      have HX9' := pt_keptM (HX9.mono hw) hg5 (K2.mono hw).m
      have hS3 := sums_add hS hL hD.okb (by dsimp only; omega) (by show _ ∧ _ ≤ (4611686018427387904 : Int); omega)
      have hL3 := addS_may hL hD.okb
      clear hw r5
      have r5 := r5z.mono K3.b
      have hw := Below.refl w5.heap.size w5
      repeat' (first | (refine is_qw ?_; first | (with_reducible refine qw_then ?_)))
      refine cw_drawnF 14 (fun w' => Below w5.heap.size w5 w' ∧ True) (by kernel_rfl) (by repeat (first | exact NoPanic.body | with_reducible refine NoPanic.then ?_ | with_reducible refine NoPanic.inBlock ?_)) (fun hNP => ?_)
      have hU := And.intro hw.drew trivial
      first | (refine fw_takeT 0 9 rfl (by kernel_rfl) (by kernel_rfl) rfl rfl (by kernel_rfl) (by kernel_rfl) (by kernel_rfl) hNP hU rfl (fun w' hq => pv_move rfl) ?_)
      first | (refine fw_takeT 1 9 rfl (by kernel_rfl) (by kernel_rfl) rfl rfl (by kernel_rfl) (by kernel_rfl) (by kernel_rfl) hNP hU rfl (fun w' hq => pv_fa (tF rfl) rfl) ?_)
      first | (refine fw_takeT 2 9 rfl (by kernel_rfl) (by kernel_rfl) rfl rfl (by kernel_rfl) (by kernel_rfl) (by kernel_rfl) hNP hU rfl (fun w' hq => pv_load (t1 rfl) rfl (by first | exact PT.ld0 (HY.mono hq.1) rfl | exact PT.ld (HY.mono hq.1) rfl | exact SlR.ld (r5.mono hq.1) hx2 rfl | exact SlR.ld1 (r5.mono hq.1) hx2 rfl | exact SlR.ld (r5.mono hq.1) hx3 rfl | exact SlR.ld1 (r5.mono hq.1) hx3 rfl)) ?_)
      first | (refine fw_takeT 3 9 rfl (by kernel_rfl) (by kernel_rfl) rfl rfl (by kernel_rfl) (by kernel_rfl) (by kernel_rfl) hNP hU rfl (fun w' hq => pv_fa (tF rfl) rfl) ?_)
      first | (refine fw_takeT 4 9 rfl (by kernel_rfl) (by kernel_rfl) rfl rfl (by kernel_rfl) (by kernel_rfl) (by kernel_rfl) hNP hU rfl (fun w' hq => pv_load (t1 rfl) rfl (by first | exact PT.ld0 (HY.mono hq.1) rfl | exact PT.ld (HY.mono hq.1) rfl | exact SlR.ld (r5.mono hq.1) hx2 rfl | exact SlR.ld1 (r5.mono hq.1) hx2 rfl | exact SlR.ld (r5.mono hq.1) hx3 rfl | exact SlR.ld1 (r5.mono hq.1) hx3 rfl)) ?_)
      first | (refine fw_takeT 5 9 rfl (by kernel_rfl) (by kernel_rfl) rfl rfl (by kernel_rfl) (by kernel_rfl) (by kernel_rfl) hNP hU rfl (fun w' hq => pv_fa (tF rfl) rfl) ?_)
      first | (refine fw_takeT 6 9 rfl (by kernel_rfl) (by kernel_rfl) rfl rfl (by kernel_rfl) (by kernel_rfl) (by kernel_rfl) hNP hU rfl (fun w' hq => pv_load (t1 rfl) rfl (by first | exact PT.ld0 (HY.mono hq.1) rfl | exact PT.ld (HY.mono hq.1) rfl | exact SlR.ld (r5.mono hq.1) hx2 rfl | exact SlR.ld1 (r5.mono hq.1) hx2 rfl | exact SlR.ld (r5.mono hq.1) hx3 rfl | exact SlR.ld1 (r5.mono hq.1) hx3 rfl)) ?_)
      first | (refine fw_takeT 7 9 rfl (by kernel_rfl) (by kernel_rfl) rfl rfl (by kernel_rfl) (by kernel_rfl) (by kernel_rfl) hNP hU rfl (fun w' hq => pv_move rfl) ?_)
      first | (refine fw_takeT 8 9 rfl (by kernel_rfl) (by kernel_rfl) rfl rfl (by kernel_rfl) (by kernel_rfl) (by kernel_rfl) hNP hU rfl (fun w' hq => pv_ia (tS rfl) rfl rfl (by omega)) ?_)
      first | (refine fw_takeT 9 9 rfl (by kernel_rfl) (by kernel_rfl) rfl rfl (by kernel_rfl) (by kernel_rfl) (by kernel_rfl) hNP hU rfl (fun w' hq => pv_load (t1 rfl) rfl (by first | exact PT.ld0 (HY.mono hq.1) rfl | exact PT.ld (HY.mono hq.1) rfl | exact SlR.ld (r5.mono hq.1) hx2 rfl | exact SlR.ld1 (r5.mono hq.1) hx2 rfl | exact SlR.ld (r5.mono hq.1) hx3 rfl | exact SlR.ld1 (r5.mono hq.1) hx3 rfl)) ?_)
      first | (refine fw_takeT 10 9 rfl (by kernel_rfl) (by kernel_rfl) rfl rfl (by kernel_rfl) (by kernel_rfl) (by kernel_rfl) hNP hU rfl (fun w' hq => pv_move rfl) ?_)
      first | (refine fw_takeT 11 9 rfl (by kernel_rfl) (by kernel_rfl) rfl rfl (by kernel_rfl) (by kernel_rfl) (by kernel_rfl) hNP hU rfl (fun w' hq => pv_ia (tS rfl) rfl rfl (by omega)) ?_)
      first | (refine fw_takeT 12 9 rfl (by kernel_rfl) (by kernel_rfl) rfl rfl (by kernel_rfl) (by kernel_rfl) (by kernel_rfl) hNP hU rfl (fun w' hq => pv_load (t1 rfl) rfl (by first | exact PT.ld0 (HY.mono hq.1) rfl | exact PT.ld (HY.mono hq.1) rfl | exact SlR.ld (r5.mono hq.1) hx2 rfl | exact SlR.ld1 (r5.mono hq.1) hx2 rfl | exact SlR.ld (r5.mono hq.1) hx3 rfl | exact SlR.ld1 (r5.mono hq.1) hx3 rfl)) ?_)
      first | (refine fw_takeT 13 9 rfl (by kernel_rfl) (by kernel_rfl) rfl rfl (by kernel_rfl) (by kernel_rfl) (by kernel_rfl) hNP hU rfl (fun w' hq => pv_sub rfl rfl (by omega)) ?_)
      obtain ⟨hw, -⟩ := hU; clear hNP
      refine fw_one 14 (by kernel_rfl) rfl rfl rfl (by kernel_rfl) ?_
      refine act_callw (f := 19) rfl (by kernel_rfl) rfl (addM_c (p := ⟨x'.seller, x'.inst, 0, x'.qty, 0, n2 - n3⟩) (K3.mono hw).n (K3.mono hw).m hS3 hL3 (by omega) (by dsimp only; omega) (by dsimp only; omega) (by dsimp only; omega)) ?_; rintro e6 w6 ⟨rfl, hM6, hg6⟩; refine ⟨_, rfl, ?_⟩
      refine fw_done (by kernel_rfl) ?_
      have K4 := (K3.mono hw).upd hg6 hM6
      have hS4 := sums_add hS3 hL3 hD.oks (by dsimp only; omega) (by show _ ∧ _ ≤ (4611686018427387904 : Int); omega)
      have hL4 := addS_may hL3 hD.oks
      rw [← hD.out] at hS4 hL4
      have hlen4 : Rp.1.length ≤ L.length + 2 := by
        rw [hD.out]
        exact Nat.le_trans (addS_len _ _) (by have := addS_len (⟨n1, x'.inst, x'.qty, 0, n2, 0⟩ : Pos) L; omega)
      clear hw
      have hw := Below.refl w6.heap.size w6
      repeat' (first | (refine lw_pure rfl (pv_move rfl) ?_) | (refine lw_pure rfl (pv_assign rfl) ?_) | (refine is_cw ?_; first | (refine cw_region ?_)) | (refine is_qw ?_; first | (with_reducible refine qw_then ?_) | (with_reducible refine qw_in ?_)) | (refine lw_nil ?_) | ((refine is_bin ?_; first | (refine lw_pure rfl (pv_inc rfl rfl (by omega)) ?_))))
      exact qw_round (k + 1, .slice a6 Rp.1.length c6, .slice a7 E2.1.length c7, .slice a8 E2.2.1.length c8) (by repeat' (first | exact trivial | refine ⟨rfl, ?_⟩)) ⟨by show k + 1 ≤ _; omega, Rp.1, E2.1, E2.2.1, _, K4.mono hw, hS4.weaken (by show _ ≤ ((k + 1 : Nat) : Int) * _; omega), hL4, by show _ ≤ 2 * (k + 1); omega⟩ (by show xs.length - (k + 1) < xs.length - k; omega)
  · have hkl : k = xs.length := by omega
    subst hkl
    obtain ⟨a3, c3, rfl, H3, -⟩ := Own.slR encS_len hI.o3
    have h3l := H3.le
    have h3m := H3.max
    have hsl := sums_len hS hL
    have hb3 := hI.b
    have HN6 := hI.n
    have HM := hI.m
    clear hI
    repeat' (first | (refine lw_pure rfl (pv_move rfl) ?_) | (refine is_cw ?_; first | (refine cw_seq ?_) | (refine cw_region ?_) | (refine is_cd ?_; refine cw_false rfl (by first | assumption | exact decide_eq_false (by omega) | exact dec_notF (by omega)) ?_) | (refine cw_exit ?_)) | (refine is_qw ?_; first | (with_reducible refine qw_then ?_) | (with_reducible refine qw_in_hit ?_) | (with_reducible refine qw_then_exit ?_)) | (refine lw_nil ?_) | ((refine is_bin ?_; first | (refine lw_pure rfl (pv_lss rfl rfl) ?_))) | ((refine is_load ?_; first | (refine lw_pure rfl (pv_load (t1 rfl) rfl (by first | exact PT.ld0 (HN6.mono hw) rfl | exact PT.ld (HN6.mono hw) rfl)) ?_))) | ((refine is_bi ?_; first | (refine lw_pure rfl (pv_lenl (tS rfl) rfl) ?_))))
    refine lw_pure rfl (pv_lenM rfl Tryz.underlying43 rfl HM) ?_
    rw [← hsl]
    repeat' (first | (refine lw_pure rfl (pv_assign rfl) ?_) | (refine is_cw ?_; first | (refine cw_seq ?_) | (refine cw_region ?_) | (refine is_cd ?_; refine cw_false rfl (by first | assumption | exact decide_eq_false (by omega) | exact dec_notF (by omega)) ?_) | (refine cw_skip ?_) | (refine cw_block ?_)) | (refine is_qw ?_; first | (with_reducible refine qw_then ?_)) | (refine lw_nil ?_) | ((refine is_bin ?_; first | (refine lw_pure rfl (pv_neq rfl rfl) ?_))))
    refine cw_loop (σ := Nat) (fun i => [(3, .slice a3 L.length c3), (6, .pointer (some ⟨N6, 0, none⟩)), (22, .int .i64 (i : Nat))]) (fun i wq => i ≤ L.length ∧ Below wr.heap.size wr wq) (fun i => L.length - i) 0 (by repeat' (first | exact trivial | refine ⟨rfl, ?_⟩)) ⟨Nat.zero_le _, hw⟩ ?_
    clear hw
    rintro i wq ⟨hi, hw⟩
    by_cases hlt2 : i < L.length
    · have hxk : L[i]? = some L[i] := List.getElem?_eq_getElem hlt2
      have hmem := List.getElem_mem hlt2
      obtain ⟨ab, ao, rfl, -, -⟩ := H3.at (by intro h; rw [h] at hlt2; simp at hlt2)
      generalize L[i] = x at hxk hmem
      have hat := sums_at hS hL hmem
      have hmx := hL.2 x hmem
      have hk := kX_of (a := x.acct) (i := x.inst) (by have := hmx.1; omega) (by have := hmx.2.1; omega)
      have hgd : (getM m (kk x.acct x.inst)).getD z0 = x := by rw [hat]; rfl
      generalize kk x.acct x.inst = q at hat hk hgd
      replace HN6 := HN6.mono hw
      replace HM := HM.mono hw
      replace H3 := H3.mono hw
      have hB := hw
      clear hw
      have hw := Below.refl wq.heap.size wq
      repeat' (first | (refine lw_pure rfl (pv_move rfl) ?_) | (refine is_cw ?_; first | (refine cw_seq ?_) | (refine cw_region ?_) | (refine is_cd ?_; refine cw_true rfl (by first | assumption | exact decide_eq_true (by omega) | exact dec_notT (by omega)) ?_) | (refine cw_skip ?_) | (refine cw_block ?_)) | (refine is_qw ?_; first | (with_reducible refine qw_then ?_)) | (refine lw_nil ?_) | ((refine is_bin ?_; first | (refine lw_pure rfl (pv_lss rfl rfl) ?_))) | ((refine is_bi ?_; first | (refine lw_pure rfl (pv_lenl (tS rfl) rfl) ?_))))
      refine cw_drawn (fun w' => Below wq.heap.size wq w') (by kernel_rfl) (by repeat (first | exact NoPanic.body | with_reducible refine NoPanic.then ?_ | with_reducible refine NoPanic.inBlock ?_)) (fun hNP => ?_)
      have hS := hw.drew
      (refine at0 0 rfl (fun w' hq => pv_load (t1 rfl) rfl (by first | exact PT.ld0 (HN6.mono hq) rfl | exact PT.ld (HN6.mono hq) rfl | exact SlR.ld (H3.mono hq) hxk rfl | exact SlR.ld1 (H3.mono hq) hxk rfl)) ?_)
      (refine at0 1 rfl (fun w' hq => pv_move rfl) ?_)
      (refine at0 2 rfl (fun w' hq => pv_move rfl) ?_)
      (refine at0 3 rfl (fun w' hq => pv_ian (tS rfl) rfl rfl (by omega)) ?_)
      (refine at0 4 rfl (fun w' hq => pv_fa (tF rfl) rfl) ?_)
      (refine at0 5 rfl (fun w' hq => pv_load (t1 rfl) rfl (by first | exact PT.ld0 (HN6.mono hq) rfl | exact PT.ld (HN6.mono hq) rfl | exact SlR.ld (H3.mono hq) hxk rfl | exact SlR.ld1 (H3.mono hq) hxk rfl)) ?_)
      (refine at0 6 rfl (fun w' hq => pv_move rfl) ?_)
      (refine at0 7 rfl (fun w' hq => pv_move rfl) ?_)
      (refine at0 8 rfl (fun w' hq => pv_ian (tS rfl) rfl rfl (by omega)) ?_)
      (refine at0 9 rfl (fun w' hq => pv_fa (tF rfl) rfl) ?_)
      (refine at0 10 rfl (fun w' hq => pv_load (t1 rfl) rfl (by first | exact PT.ld0 (HN6.mono hq) rfl | exact PT.ld (HN6.mono hq) rfl | exact SlR.ld (H3.mono hq) hxk rfl | exact SlR.ld1 (H3.mono hq) hxk rfl)) ?_)
      (refine at0 11 rfl (fun w' hq => pv_arr2 rfl rfl) ?_)
      (refine at0 12 rfl (fun w' hq => pv_lookX hk hgd rfl rfl (HM.mono hq)) ?_)
      (refine at0 13 rfl (fun w' hq => pv_move rfl) ?_)
      (refine at0 14 rfl (fun w' hq => pv_move rfl) ?_)
      (refine at0 15 rfl (fun w' hq => pv_ian (tS rfl) rfl rfl (by omega)) ?_)
      (refine at0 16 rfl (fun w' hq => pv_loada (tA rfl) rfl (by first | exact PT.lda (HN6.mono hq) | exact SlR.lda (H3.mono hq) hxk) (by rfl)) ?_)
      (refine at0 17 rfl (fun w' hq => pv_neqX x rfl rfl) ?_)
      refine aw_done (by kernel_rfl) ?_
      replace hw := hS; clear hS hNP
      repeat' (first | (refine lw_pure rfl (pv_move rfl) ?_) | (refine lw_pure rfl (pv_assign rfl) ?_) | (refine is_cw ?_; first | (refine cw_region ?_) | (refine cw_false rfl rfl ?_) | (refine cw_skip ?_)) | (refine is_qw ?_; first | (with_reducible refine qw_then ?_) | (with_reducible refine qw_in ?_)) | (refine lw_nil ?_) | ((refine is_bin ?_; first | (refine lw_pure rfl (pv_inc rfl rfl (by omega)) ?_))))
      exact qw_round (i + 1) (by repeat' (first | exact trivial | refine ⟨rfl, ?_⟩)) ⟨by omega, grow_trans hB hw⟩ (by omega)
    · repeat' (first | (refine lw_pure rfl (pv_move rfl) ?_) | (refine lw_pure rfl (pv_assign rfl) ?_) | (refine is_cw ?_; first | (refine cw_seq ?_) | (refine cw_region ?_) | (refine is_cd ?_; refine cw_false rfl (by first | assumption | exact decide_eq_false (by omega) | exact dec_notF (by omega)) ?_) | (refine cw_exit ?_) | (refine cw_ret ?_)) | (refine is_qw ?_; first | (with_reducible refine qw_then ?_) | (with_reducible refine qw_in_hit ?_) | (with_reducible refine qw_then_exit ?_)) | (refine lw_nil ?_) | ((refine is_bin ?_; first | (refine lw_pure rfl (pv_lss rfl rfl) ?_))) | ((refine is_bi ?_; first | (refine lw_pure rfl (pv_lenl (tS rfl) rfl) ?_))))
      exact qw_ret1 rfl rfl ⟨rfl, grow_trans hW (grow_trans hb3 hw)⟩
end Go.Proofs.YtemngicaoacfaaaGreatDoor
namespace Go.Proofs.YtemngicaoacfaaaGreatDoor
open Go.ChangeShapes Go.WideShapes Go.ChangeAt Go.RowKit

set_option maxRecDepth 100000 in
theorem positAll_lifted (os : Os) (started : os.Started) (H : Type) (enc : TypeId × Value → H) :
    ReturnsInHanded {} Tryz.checked os 5 .any (fun w args => (Rows.positAllSpec.pre enc Tryz.prog Tryz.f5 [] false w args ∧ laidMetH Tryz.prog Rows.positAllRow.laid w) ∧ sizedMet enc Tryz.prog Tryz.f5 (OpenSpec.ofChange Rows.positAllSpec) false w args)
      (Rows.positAllSpec.post enc Tryz.prog Tryz.f5 false true false false) := by
  refine returnsInHanded_of_change_and (C := Tryz.checked) (X := fun w _ => laidMetH Tryz.prog Rows.positAllRow.laid w) (fun _ _ _ hh h => h.of_heap hh) seatOwn started (by kernel_rfl) Tryz.func5
    (ChangeSpec.witness_shaped (enc := enc) (C := Tryz.checked) (os := os) (X := fun w _ => laidMetH Tryz.prog Rows.positAllRow.laid w) false (World.doorLaid Tryz.prog 200 os) #[.slice none 0 0] 8 rfl (World.shaped_of_RefB (by kernel_rfl) (by kernel_rfl)) (by kernel_rfl) (by kernel_rfl) (by kernel_rfl) (door_met os _)) ?_
  intro W base args ds gs before hval0 hW _ hZ hL _
  have hval : ∀ (j : Nat) t v, Tryz.f5.params[j]? = some t → args[j]? = some v → Value.okWide Tryz.prog W .any base t v := hval0
  have hW' := hW
  obtain ⟨p, q, hA0, hV, hpq, hfz, hnd⟩ := hW
  have hA : DataW.TrodAll enc Tryz.prog W 0 (fun _ => true) true Tryz.f5.params.toList args.toList ds p := hA0
  rw [Tryz.params5] at hA hval
  obtain ⟨args⟩ := args
  have hA1 : DataW.TrodAll enc Tryz.prog W 0 (fun _ => true) true _ args ds p := hA
  clear hA
  obtain ⟨v0, vs0, d0, ds0, p0, q0, hv0, hd0, hp0, h0, hr0⟩ := trodAll_cons hA1
  obtain ⟨hvn, hdn, hpn⟩ := trodAll_nil hr0
  subst hvn hdn hpn
  subst hv0 hd0 hp0
  obtain ⟨rfl, rfl⟩ := trodVars_none hV
  obtain ⟨lla, llc, llx, ll, rfl, lls, lle⟩ := evs_open (hval 0 _ v0 rfl rfl) h0 (wt_of hZ (j := 0) (by kernel_rfl) rfl)
  have hpr := knW_of hL
  subst hpq
  refine (pall_c rfl lls lle hpr).mono fun e W' ⟨he, hw⟩ => ?_
  subst he
  have hB := below_trodAll hw (by decide +kernel) hA1
  rw [← Tryz.params5] at hB
  exact ⟨_, rfl, _, _, _, [], _, [], hW', trodAll_mk1 (shut_bool Tryz.underlying4 true), hB, rfl, hw.frame _, fun h => by cases h⟩
theorem positAll_holds : Rows.PositAllSaid :=
  OpenClaim.holds_of_wide 5 Tryz.f5 rfl rfl rfl rfl rfl rfl rfl ⟨rfl, rfl, rfl, rfl, rfl⟩ rfl rfl rfl rfl rfl (by kernel_rfl) Tryz.func5 (by kernel_rfl)
    (of_decide_eq_true (by kernel_rfl)) (by unfold Func.isWrapper; first | (rw [if_pos (by decide +kernel)]; kernel_rfl) | (rw [if_neg (by decide +kernel)]; exact ⟨rfl, rfl⟩))
    (fun os started H enc _ => positAll_lifted os started H enc)
theorem positAll_card : Rows.PositAllCardSaid :=
  Claim7.holds_tied_plain_at .later [] [.data] true (true, "bc14626de8671fe056bc101160101831099c9fba5249131a73b1c47841d3af97") false
    positAll_holds (fun _ h => by cases h) (by kernel_rfl) (fun _ h => by cases h) positAll_row_tie rfl ⟨rfl, rfl⟩ (by kernel_rfl) rfl
    (fun f fn hf hfn => by
      obtain rfl : f = 5 := Option.some.inj ((show Tryz.prog.funcNamed Rows.positAllRow.func = some 5 by kernel_rfl).symm.trans hf) |>.symm
      obtain rfl : fn = Tryz.f5 := (Option.some.inj (Tryz.func5.symm.trans hfn)).symm
      exact ⟨by kernel_rfl, fun j t ht => by
        have hall : (Tryz.f5.params.toList.all fun u => !Tryz.prog.wantsStandIn u) = true := by kernel_rfl
        have hm : t ∈ Tryz.f5.params.toList := Array.mem_toList_iff.2 (Array.mem_of_getElem? ht)
        exact (show Tryz.prog.wantsStandIn t = false by simpa using List.all_eq_true.1 hall t hm)⟩)
    (by kernel_rfl)
#print axioms positAll_card
end Go.Proofs.YtemngicaoacfaaaGreatDoor
