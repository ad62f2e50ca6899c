/-
  StateCopies: its row: whatever the input: true; the input reads as it did. Conditions: none.
-/
import Derived.Test.YtekomjnjddhfmaaGreatZT3
import Derived.SizedLaws
namespace Go.Proofs.YtekomjnjddhfmaaGreat
open Go.RowKit Go.PlainAid

structure StBg (t : Stt) : Prop where
  rl : t.rows.length ≤ 140737488355328
  ol : t.ords.length ≤ 140737488355328
  an : ∀ x ∈ t.accs, x.name.size ≤ 140737488355328
  im : ∀ x ∈ t.inss, x.name.size ≤ 140737488355328
  r : In64R t.rows
def sumX (l : List Auc) : Nat := (l.map fun a => 1 + a.bids.length).sum
theorem sumX_snoc {l : List Auc} {k : Nat} {a : Auc} (h : l[k]? = some a) : sumX (l.take (k + 1)) = sumX (l.take k) + (1 + a.bids.length) := by
  unfold sumX; rw [List.take_add_one, h]; simp
structure Wg (t : Stt) (ka ki kx n : Nat) : Prop where
  z : t.rows.length + t.ords.length ≤ n
  f : n < 3000 → t.rows.length + t.ords.length + ka + ki ≤ n ∧ (∀ (j : Nat) x, j < ka → t.accs[j]? = some x → x.name.size ≤ n) ∧ (∀ (j : Nat) x, j < ki → t.inss[j]? = some x → x.name.size ≤ n) ∧ sumX (t.aucs.take kx) ≤ n
structure StSm (t : Stt) : Prop where
  ro : t.rows.length + t.ords.length < 1500
  al : t.accs.length < 1500
  il : t.inss.length < 1500
  an : ∀ x ∈ t.accs, x.name.size < 1500
  im : ∀ x ∈ t.inss, x.name.size < 1500
  xs : sumX t.aucs < 1500
theorem pv_minK {P : Program} {n : Nat} {l : Fr} {w : World} {d : Option Nat} {g : Option (Nat × Bool)} {ty : TypeId} {pos : String} {af : Array Edge} {x y : Operand} {ts : Array TypeId} {m : Nat} (hx : ev l x = some (.int .i64 3000)) (hy : ev l y = some (.int .i64 (m : Int))) : Pv P n l ⟨d, .call ⟨.builtin .min, #[x, y], ts⟩, ty, pos, af, g⟩ (.int .i64 ((min 3000 m : Nat) : Int)) w := by
  have h := pv_min (P := P) (n := n) (w := w) (d := d) (g := g) (ty := ty) (pos := pos) (af := af) (ts := ts) hx hy
  rwa [show (if (m : Int) < 3000 then (m : Int) else 3000) = ((min 3000 m : Nat) : Int) by split <;> omega] at h
theorem pv_minL {P : Program} {n : Nat} {l : Fr} {w : World} {d : Option Nat} {g : Option (Nat × Bool)} {ty : TypeId} {pos : String} {af : Array Edge} {x y : Operand} {ts : Array TypeId} {m : Nat} (hx : ev l x = some (.int .i64 (m : Int))) (hy : ev l y = some (.int .i64 3000)) : Pv P n l ⟨d, .call ⟨.builtin .min, #[x, y], ts⟩, ty, pos, af, g⟩ (.int .i64 ((min 3000 m : Nat) : Int)) w := by
  have h := pv_min (P := P) (n := n) (w := w) (d := d) (g := g) (ty := ty) (pos := pos) (af := af) (ts := ts) hx hy
  rwa [show (if (3000 : Int) < (m : Int) then (3000 : Int) else (m : Int)) = ((min 3000 m : Nat) : Int) by split <;> omega] at h
theorem pv_addN {P : Program} {n : Nat} {l : Fr} {w : World} {d : Option Nat} {g : Option (Nat × Bool)} {t t' ty : TypeId} {pos : String} {af : Array Edge} {x y : Operand} {a b : Nat} (hx : ev l x = some (.int .i64 (a : Int))) (hy : ev l y = some (.int .i64 (b : Int))) (h : a + b ≤ 9223372036854775807) : Pv P n l ⟨d, .binOp .add t x y t', ty, pos, af, g⟩ (.int .i64 ((a + b : Nat) : Int)) w := by
  have h2 := pv_add (P := P) (n := n) (w := w) (d := d) (g := g) (t := t) (t' := t') (ty := ty) (pos := pos) (af := af) hx hy (by omega)
  rwa [show (a : Int) + (b : Int) = ((a + b : Nat) : Int) by omega] at h2
set_option maxRecDepth 20000 in
set_option maxHeartbeats 4000000 in
theorem weigh_c {s : SttC} {t : Stt} {w : World} (hS0 : StR w s t) (hB : StBg t) : Calls Tryz.prog 16 #[(.agg (encS s).toArray)] w fun e w' => (∃ n : Nat, e = .returned (.int .i64 (n : Int)) ∧ (n < 1500 → StSm t)) ∧ Below w.heap.size w w' := by
  have hE := Ext.refl w
  have hw := Below.refl w.heap.size w
  obtain ⟨c1, c2, c3, c4, pa, ma, ca, pi, mi, ci, pr, mr, cr, po, mo, co, px, mx, cx⟩ := s; obtain ⟨⟨e1, e2, e3, e4⟩, hma, hmi, hmr, hmo, hmx, HA, HI, HR, HO, HXs⟩ := hS0; simp only at e1 e2 e3 e4 hma hmi hmr hmo hmx HA HI HR HO HXs; subst e1 e2 e3 e4 hma hmi hmr hmo hmx
  have hal := HA.le
  have ham := HA.max
  have hil := HI.le
  have him := HI.max
  have hB1 := hB.rl
  have hB2 := hB.ol
  obtain ⟨xs, HX9, HAs⟩ := HXs
  have hxl := HX9.le
  have hxm := HX9.max
  have hxn := HAs.1
  refine fn_enter 82 Tryz.func16 rfl rfl rfl ?_
  repeat' (first | (refine is_cw ?_; first | (refine cw_seq ?_) | (refine cw_region ?_)))
  refine lw_boxN rfl rfl (cs := [.int .i64 t.clock, .int .i64 t.fee, .int .i64 t.nord, .int .i64 t.nauc, .slice pa t.accs.length ca, .slice pi t.inss.length ci, .slice pr t.rows.length cr, .slice po t.ords.length co, .slice px t.aucs.length cx]) rfl ?_; intro N2 wn hN2 HX hb; replace hN2 := Nat.le_trans hw.size hN2; replace hw := grow_trans hw hb; clear hb
  replace hE := hE.mono hw; replace HA := HA.mono hw; replace HI := HI.mono hw; replace HX9 := HX9.mono hw; replace HAs := HAs.mono hw; clear hw; have hw := Below.refl wn.heap.size wn
  repeat' ((fail_if_success (refine is_seqb ?_)); (fail_if_success (refine is_blk ?_)); first | (refine lw_pure rfl (pv_assign rfl) ?_) | (refine is_cw ?_; first | (refine cw_seq ?_) | (refine cw_region ?_)) | (refine is_qw ?_; first | (with_reducible refine qw_then ?_)) | (refine lw_nil ?_) | ((refine is_bin ?_; first | (refine lw_pure rfl (pv_add rfl rfl (by omega)) ?_))) | ((refine is_load ?_; first | (refine lw_pure rfl (pv_load (t1 rfl) rfl (by first | exact PT.ld0 (HX.mono hw) rfl | exact PT.ld (HX.mono hw) rfl)) ?_))) | ((refine is_fa ?_; first | (refine lw_pure rfl (pv_fa (tF rfl) rfl) ?_))) | ((refine is_bi ?_; first | (refine lw_pure rfl (pv_lenl (tS rfl) rfl) ?_))))
  refine cw_cutq (σ := Nat) (fun n => [(1, .pointer (some ⟨N2, 0, none⟩)), (3, .int .i64 (n : Int))]) (fun n wr => Below wn.heap.size wn wr ∧ Wg t t.accs.length 0 0 n ∧ n ≤ 281474976720000) ?_ ?_
  · repeat' (first | (refine is_cw ?_; first | (refine cw_block ?_)))
    refine cw_loop (σ := Nat × Nat) (fun q => [(1, .pointer (some ⟨N2, 0, none⟩)), (3, .int .i64 (q.2 : Int)), (4, .int .i64 (q.1 : Nat))]) (fun q wr => q.1 ≤ t.accs.length ∧ Below wn.heap.size wn wr ∧ Wg t q.1 0 0 q.2 ∧ q.2 ≤ 281474976720000) (fun q => t.accs.length - q.1) (0, t.rows.length + t.ords.length) (by repeat' (first | exact trivial | refine ⟨rfl, ?_⟩)) ⟨Nat.zero_le _, hw, ⟨Nat.le_refl _, fun _ => ⟨by omega, fun j x hj => by omega, fun j x hj => by omega, by simp [sumX]⟩⟩, by omega⟩ ?_
    clear hw
    rintro ⟨k, n⟩ wr ⟨hk, hw, hG, hn⟩
    dsimp only at hk hG hn
    change CW _ _ _ _ [(1, .pointer (some ⟨N2, 0, none⟩)), (3, .int .i64 (n : Int)), (4, .int .i64 (k : Nat))] wr
    by_cases hlt : k < t.accs.length ∧ n < 3000
    · obtain ⟨hlt, hn3⟩ := hlt
      have hxk : t.accs[k]? = some (t.accs[k]'(by omega)) := List.getElem?_eq_getElem _
      obtain ⟨ab, ao, rfl, -, -⟩ := HA.at (by intro h; rw [h] at hlt; simp at hlt)
      generalize t.accs[k]'(by omega) = x at hxk
      repeat' (first | (refine lw_pure rfl (pv_move rfl) ?_) | (refine lw_pure rfl (pv_assign rfl) ?_) | (refine is_cw ?_; first | (refine cw_seq ?_) | (refine cw_region ?_) | (refine is_cd ?_; refine cw_true rfl (by first | assumption | exact decide_eq_true (by omega) | exact dec_notT (by omega)) ?_) | (refine cw_skip ?_) | (refine cw_block ?_)) | (refine is_qw ?_; first | (with_reducible refine qw_then ?_) | (with_reducible refine qw_in ?_)) | (refine lw_nil ?_) | (refine is_guarded ?_; first | (refine lw_on rfl rfl (by first | assumption | exact decide_eq_true (by omega) | exact decide_eq_false (by omega) | exact dec_notT (by omega) | exact dec_notF (by omega)) ?_)) | ((refine is_bin ?_; first | (refine lw_pure rfl (pv_lss rfl rfl) ?_) | (refine lw_pure rfl (pv_inc rfl rfl (by omega)) ?_) | (refine lw_pure rfl (pv_add rfl rfl (by omega)) ?_))) | ((refine is_load ?_; first | (refine lw_pure rfl (pv_load (t1 rfl) rfl (by first | exact PT.ld0 (HX.mono hw) rfl | exact PT.ld (HX.mono hw) rfl | exact SlR.ld (HA.mono hw) hxk rfl | exact SlR.ld1 (HA.mono hw) hxk rfl)) ?_))) | ((refine is_fa ?_; first | (refine lw_pure rfl (pv_fa (tF rfl) rfl) ?_))) | ((refine is_ia ?_; first | (refine lw_pure rfl (pv_ian (tS rfl) rfl rfl (by omega)) ?_))) | ((refine is_bi ?_; first | (refine lw_pure rfl (pv_minK rfl rfl) ?_) | (refine lw_pure rfl (pv_lenl (tS rfl) rfl) ?_) | (refine lw_pure rfl (pv_lens (tStr rfl) rfl) ?_))) | (refine is_pk ?_; refine lw_pure rfl (pv_pick_t rfl (by first | assumption | exact decide_eq_true (by omega) | exact dec_notT (by omega)) rfl) ?_))
      obtain ⟨f1, f2, f3, f4⟩ := hG.f hn3
      refine qw_round (k + 1, n + 1 + min 3000 x.name.size) (by repeat' (first | exact trivial | refine ⟨rfl, ?_⟩)) ⟨by show k + 1 ≤ _; omega, hw, ⟨by have := hG.z; omega, fun hn9 => ⟨by omega, fun j u hj hu => ?_, fun j u hj hu => by omega, by simp [sumX]⟩⟩, by show n + 1 + _ ≤ _; omega⟩ (by show t.accs.length - (k + 1) < t.accs.length - k; omega)
      by_cases hjk : j = k
      · subst hjk; rw [hxk] at hu; injection hu with hu; subst hu; omega
      · have := f2 j u (by omega) hu; omega
    · have hA : Wg t t.accs.length 0 0 n := by
        refine ⟨hG.z, fun hn9 => ?_⟩
        have hkl : k = t.accs.length := by omega
        have := hG.f hn9
        rw [hkl] at this; exact this
      repeat' (first | (refine lw_pure rfl (pv_move rfl) ?_) | (refine is_cw ?_; first | (refine cw_seq ?_) | (refine cw_region ?_) | (refine cw_false rfl rfl ?_) | (refine is_cd ?_; refine cw_false rfl (by first | assumption | exact decide_eq_false (by omega) | exact dec_notF (by omega)) ?_) | (refine cw_exit ?_)) | (refine is_qw ?_; first | (with_reducible refine qw_then ?_) | (with_reducible refine qw_in_hit ?_) | (with_reducible refine qw_then_exit ?_)) | (refine lw_nil ?_) | (refine is_guarded ?_; first | (refine lw_on rfl rfl (by first | assumption | exact decide_eq_true (by omega) | exact decide_eq_false (by omega) | exact dec_notT (by omega) | exact dec_notF (by omega)) ?_) | (refine lw_not rfl rfl rfl (by first | assumption | exact decide_eq_true (by omega) | exact decide_eq_false (by omega) | exact dec_notT (by omega) | exact dec_notF (by omega)) ?_) | (refine lw_gs_t rfl rfl rfl (fun hc => ?_) (fun hc => ?_) <;> (first | replace hc := of_decide_eq_true hc | replace hc := of_decide_eq_false hc | replace hc := dec_nT hc | replace hc := dec_nF hc | skip) <;> (try (exfalso; omega)))) | ((refine is_bin ?_; first | (refine lw_pure rfl (pv_lss rfl rfl) ?_))) | ((refine is_load ?_; first | (refine lw_pure rfl (pv_load (t1 rfl) rfl (by first | exact PT.ld0 (HX.mono hw) rfl | exact PT.ld (HX.mono hw) rfl)) ?_))) | ((refine is_fa ?_; first | (refine lw_pure rfl (pv_fa (tF rfl) rfl) ?_))) | ((refine is_bi ?_; first | (refine lw_pure rfl (pv_lenl (tS rfl) rfl) ?_))) | (refine is_pk ?_; refine lw_pure rfl (pv_pick_t rfl (by first | assumption | exact decide_eq_true (by omega) | exact dec_notT (by omega)) rfl) ?_) | (refine is_pk ?_; refine lw_pure rfl (pv_pick_f rfl (by first | assumption | exact decide_eq_false (by omega) | exact dec_notF (by omega)) rfl) ?_))
      all_goals exact qw_join n (by repeat' (first | exact trivial | refine ⟨rfl, ?_⟩)) ⟨hw, hA, hn⟩
  clear hw
  rintro n wr ⟨hw, hG, hn⟩
  repeat' ((fail_if_success (refine is_seqb ?_)); (fail_if_success (refine is_blk ?_)); first | (refine lw_pure rfl (pv_assign rfl) ?_) | (refine is_cw ?_; first | (refine cw_seq ?_) | (refine cw_region ?_)) | (refine is_qw ?_; first | (with_reducible refine qw_then ?_)) | (refine lw_nil ?_))
  refine cw_cutq (σ := Nat) (fun n => [(1, .pointer (some ⟨N2, 0, none⟩)), (3, .int .i64 (n : Int))]) (fun n wr => Below wn.heap.size wn wr ∧ Wg t t.accs.length t.inss.length 0 n ∧ n ≤ 281474976730000) ?_ ?_
  · repeat' (first | (refine is_cw ?_; first | (refine cw_block ?_)))
    refine cw_loop (σ := Nat × Nat) (fun q => [(1, .pointer (some ⟨N2, 0, none⟩)), (3, .int .i64 (q.2 : Int)), (5, .int .i64 (q.1 : Nat))]) (fun q wr => q.1 ≤ t.inss.length ∧ Below wn.heap.size wn wr ∧ Wg t t.accs.length q.1 0 q.2 ∧ q.2 ≤ 281474976730000) (fun q => t.inss.length - q.1) (0, n) (by repeat' (first | exact trivial | refine ⟨rfl, ?_⟩)) ⟨Nat.zero_le _, hw, hG, by omega⟩ ?_
    clear hw
    rintro ⟨k, n⟩ wr ⟨hk, hw, hG, hn⟩
    dsimp only at hk hG hn
    change CW _ _ _ _ [(1, .pointer (some ⟨N2, 0, none⟩)), (3, .int .i64 (n : Int)), (5, .int .i64 (k : Nat))] wr
    by_cases hlt : k < t.inss.length ∧ n < 3000
    · obtain ⟨hlt, hn3⟩ := hlt
      have hxk : t.inss[k]? = some (t.inss[k]'(by omega)) := List.getElem?_eq_getElem _
      obtain ⟨ab, ao, rfl, -, -⟩ := HI.at (by intro h; rw [h] at hlt; simp at hlt)
      generalize t.inss[k]'(by omega) = x at hxk
      repeat' (first | (refine lw_pure rfl (pv_move rfl) ?_) | (refine lw_pure rfl (pv_assign rfl) ?_) | (refine is_cw ?_; first | (refine cw_seq ?_) | (refine cw_region ?_) | (refine is_cd ?_; refine cw_true rfl (by first | assumption | exact decide_eq_true (by omega) | exact dec_notT (by omega)) ?_) | (refine cw_skip ?_) | (refine cw_block ?_)) | (refine is_qw ?_; first | (with_reducible refine qw_then ?_) | (with_reducible refine qw_in ?_)) | (refine lw_nil ?_) | (refine is_guarded ?_; first | (refine lw_on rfl rfl (by first | assumption | exact decide_eq_true (by omega) | exact decide_eq_false (by omega) | exact dec_notT (by omega) | exact dec_notF (by omega)) ?_)) | ((refine is_bin ?_; first | (refine lw_pure rfl (pv_lss rfl rfl) ?_) | (refine lw_pure rfl (pv_inc rfl rfl (by omega)) ?_) | (refine lw_pure rfl (pv_add rfl rfl (by omega)) ?_))) | ((refine is_load ?_; first | (refine lw_pure rfl (pv_load (t1 rfl) rfl (by first | exact PT.ld0 (HX.mono hw) rfl | exact PT.ld (HX.mono hw) rfl | exact SlR.ld (HI.mono hw) hxk rfl | exact SlR.ld1 (HI.mono hw) hxk rfl)) ?_))) | ((refine is_fa ?_; first | (refine lw_pure rfl (pv_fa (tF rfl) rfl) ?_))) | ((refine is_ia ?_; first | (refine lw_pure rfl (pv_ian (tS rfl) rfl rfl (by omega)) ?_))) | ((refine is_bi ?_; first | (refine lw_pure rfl (pv_minK rfl rfl) ?_) | (refine lw_pure rfl (pv_lenl (tS rfl) rfl) ?_) | (refine lw_pure rfl (pv_lens (tStr rfl) rfl) ?_))) | (refine is_pk ?_; refine lw_pure rfl (pv_pick_t rfl (by first | assumption | exact decide_eq_true (by omega) | exact dec_notT (by omega)) rfl) ?_))
      obtain ⟨f1, f2, f3, f4⟩ := hG.f hn3
      refine qw_round (k + 1, n + 1 + min 3000 x.name.size) (by repeat' (first | exact trivial | refine ⟨rfl, ?_⟩)) ⟨by show k + 1 ≤ _; omega, hw, ⟨by have := hG.z; omega, fun hn9 => ⟨by omega, fun j u hj hu => by have := f2 j u hj hu; omega, fun j u hj hu => ?_, by simp [sumX]⟩⟩, by show n + 1 + _ ≤ _; omega⟩ (by show t.inss.length - (k + 1) < t.inss.length - k; omega)
      by_cases hjk : j = k
      · subst hjk; rw [hxk] at hu; injection hu with hu; subst hu; omega
      · have := f3 j u (by omega) hu; omega
    · have hA : Wg t t.accs.length t.inss.length 0 n := by
        refine ⟨hG.z, fun hn9 => ?_⟩
        have hkl : k = t.inss.length := by omega
        have := hG.f hn9
        rw [hkl] at this; exact this
      repeat' (first | (refine lw_pure rfl (pv_move rfl) ?_) | (refine is_cw ?_; first | (refine cw_seq ?_) | (refine cw_region ?_) | (refine cw_false rfl rfl ?_) | (refine is_cd ?_; refine cw_false rfl (by first | assumption | exact decide_eq_false (by omega) | exact dec_notF (by omega)) ?_) | (refine cw_exit ?_)) | (refine is_qw ?_; first | (with_reducible refine qw_then ?_) | (with_reducible refine qw_in_hit ?_) | (with_reducible refine qw_then_exit ?_)) | (refine lw_nil ?_) | (refine is_guarded ?_; first | (refine lw_on rfl rfl (by first | assumption | exact decide_eq_true (by omega) | exact decide_eq_false (by omega) | exact dec_notT (by omega) | exact dec_notF (by omega)) ?_) | (refine lw_not rfl rfl rfl (by first | assumption | exact decide_eq_true (by omega) | exact decide_eq_false (by omega) | exact dec_notT (by omega) | exact dec_notF (by omega)) ?_) | (refine lw_gs_t rfl rfl rfl (fun hc => ?_) (fun hc => ?_) <;> (first | replace hc := of_decide_eq_true hc | replace hc := of_decide_eq_false hc | replace hc := dec_nT hc | replace hc := dec_nF hc | skip) <;> (try (exfalso; omega)))) | ((refine is_bin ?_; first | (refine lw_pure rfl (pv_lss rfl rfl) ?_))) | ((refine is_load ?_; first | (refine lw_pure rfl (pv_load (t1 rfl) rfl (by first | exact PT.ld0 (HX.mono hw) rfl | exact PT.ld (HX.mono hw) rfl)) ?_))) | ((refine is_fa ?_; first | (refine lw_pure rfl (pv_fa (tF rfl) rfl) ?_))) | ((refine is_bi ?_; first | (refine lw_pure rfl (pv_lenl (tS rfl) rfl) ?_))) | (refine is_pk ?_; refine lw_pure rfl (pv_pick_t rfl (by first | assumption | exact decide_eq_true (by omega) | exact dec_notT (by omega)) rfl) ?_) | (refine is_pk ?_; refine lw_pure rfl (pv_pick_f rfl (by first | assumption | exact decide_eq_false (by omega) | exact dec_notF (by omega)) rfl) ?_))
      all_goals exact qw_join n (by repeat' (first | exact trivial | refine ⟨rfl, ?_⟩)) ⟨hw, hA, hn⟩
  clear hw
  rintro n wr ⟨hw, hG, hn⟩
  repeat' ((fail_if_success (refine is_seqb ?_)); (fail_if_success (refine is_blk ?_)); first | (refine lw_pure rfl (pv_assign rfl) ?_) | (refine is_cw ?_; first | (refine cw_seq ?_) | (refine cw_region ?_)) | (refine is_qw ?_; first | (with_reducible refine qw_then ?_)) | (refine lw_nil ?_))
  refine cw_cutq (σ := Nat) (fun n => [(1, .pointer (some ⟨N2, 0, none⟩)), (3, .int .i64 (n : Int))]) (fun n wr => Below wn.heap.size wn wr ∧ Wg t t.accs.length t.inss.length t.aucs.length n ∧ n ≤ 281474976740000) ?_ ?_
  · repeat' (first | (refine is_cw ?_; first | (refine cw_block ?_)))
    refine cw_loop (σ := Nat × Nat) (fun q => [(1, .pointer (some ⟨N2, 0, none⟩)), (3, .int .i64 (q.2 : Int)), (6, .int .i64 (q.1 : Nat))]) (fun q wr => q.1 ≤ t.aucs.length ∧ Below wn.heap.size wn wr ∧ Wg t t.accs.length t.inss.length q.1 q.2 ∧ q.2 ≤ 281474976740000) (fun q => t.aucs.length - q.1) (0, n) (by repeat' (first | exact trivial | refine ⟨rfl, ?_⟩)) ⟨Nat.zero_le _, hw, hG, by omega⟩ ?_
    clear hw
    rintro ⟨k, n⟩ wr ⟨hk, hw, hG, hn⟩
    dsimp only at hk hG hn
    change CW _ _ _ _ [(1, .pointer (some ⟨N2, 0, none⟩)), (3, .int .i64 (n : Int)), (6, .int .i64 (k : Nat))] wr
    by_cases hlt : k < t.aucs.length ∧ n < 3000
    · obtain ⟨hlt, hn3⟩ := hlt
      have hak : t.aucs[k]? = some (t.aucs[k]'(by omega)) := List.getElem?_eq_getElem _
      obtain ⟨ab, ao, rfl, -, -⟩ := HX9.at (by intro h; rw [h] at hxn; simp at hxn; omega)
      generalize t.aucs[k]'(by omega) = a at hak
      obtain ⟨x, hxk, hR⟩ := HAs.at hak
      obtain ⟨xh, ba, bm, bc⟩ := x
      obtain ⟨hh, hm, HB⟩ := hR
      simp only at hh hm HB
      subst hh hm
      repeat' (first | (refine lw_pure rfl (pv_move rfl) ?_) | (refine lw_pure rfl (pv_assign rfl) ?_) | (refine is_cw ?_; first | (refine cw_seq ?_) | (refine cw_region ?_) | (refine is_cd ?_; refine cw_true rfl (by first | assumption | exact decide_eq_true (by omega) | exact dec_notT (by omega)) ?_) | (refine cw_skip ?_) | (refine cw_block ?_)) | (refine is_qw ?_; first | (with_reducible refine qw_then ?_) | (with_reducible refine qw_in ?_)) | (refine lw_nil ?_) | (refine is_guarded ?_; first | (refine lw_on rfl rfl (by first | assumption | exact decide_eq_true (by omega) | exact decide_eq_false (by omega) | exact dec_notT (by omega) | exact dec_notF (by omega)) ?_)) | ((refine is_bin ?_; first | (refine lw_pure rfl (pv_lss rfl rfl) ?_) | (refine lw_pure rfl (pv_inc rfl rfl (by omega)) ?_) | (refine lw_pure rfl (pv_add rfl rfl (by omega)) ?_))) | ((refine is_load ?_; first | (refine lw_pure rfl (pv_load (t1 rfl) rfl (by first | exact PT.ld0 (HX.mono hw) rfl | exact PT.ld (HX.mono hw) rfl | exact SlR.ld (HX9.mono hw) hxk rfl | exact SlR.ld1 (HX9.mono hw) hxk rfl)) ?_))) | ((refine is_fa ?_; first | (refine lw_pure rfl (pv_fa (tF rfl) rfl) ?_))) | ((refine is_ia ?_; first | (refine lw_pure rfl (pv_ian (tS rfl) rfl rfl (by omega)) ?_))) | ((refine is_bi ?_; first | (refine lw_pure rfl (pv_minK rfl rfl) ?_) | (refine lw_pure rfl (pv_lenl (tS rfl) rfl) ?_))) | (refine is_pk ?_; refine lw_pure rfl (pv_pick_t rfl (by first | assumption | exact decide_eq_true (by omega) | exact dec_notT (by omega)) rfl) ?_))
      obtain ⟨f1, f2, f3, f4⟩ := hG.f hn3
      have hsn := sumX_snoc hak
      exact qw_round (k + 1, n + 1 + min 3000 a.bids.length) (by repeat' (first | exact trivial | refine ⟨rfl, ?_⟩)) ⟨by show k + 1 ≤ _; omega, hw, ⟨by have := hG.z; omega, fun hn9 => ⟨by omega, fun j u hj hu => by have := f2 j u hj hu; omega, fun j u hj hu => by have := f3 j u hj hu; omega, by show sumX (t.aucs.take (k + 1)) ≤ n + 1 + min 3000 a.bids.length; omega⟩⟩, by show n + 1 + _ ≤ _; omega⟩ (by show t.aucs.length - (k + 1) < t.aucs.length - k; omega)
    · have hA : Wg t t.accs.length t.inss.length t.aucs.length n := by
        refine ⟨hG.z, fun hn9 => ?_⟩
        have hkl : k = t.aucs.length := by omega
        have := hG.f hn9
        rw [hkl] at this; exact this
      repeat' (first | (refine lw_pure rfl (pv_move rfl) ?_) | (refine is_cw ?_; first | (refine cw_seq ?_) | (refine cw_region ?_) | (refine cw_false rfl rfl ?_) | (refine is_cd ?_; refine cw_false rfl (by first | assumption | exact decide_eq_false (by omega) | exact dec_notF (by omega)) ?_) | (refine cw_exit ?_)) | (refine is_qw ?_; first | (with_reducible refine qw_then ?_) | (with_reducible refine qw_in_hit ?_) | (with_reducible refine qw_then_exit ?_)) | (refine lw_nil ?_) | (refine is_guarded ?_; first | (refine lw_on rfl rfl (by first | assumption | exact decide_eq_true (by omega) | exact decide_eq_false (by omega) | exact dec_notT (by omega) | exact dec_notF (by omega)) ?_) | (refine lw_not rfl rfl rfl (by first | assumption | exact decide_eq_true (by omega) | exact decide_eq_false (by omega) | exact dec_notT (by omega) | exact dec_notF (by omega)) ?_) | (refine lw_gs_t rfl rfl rfl (fun hc => ?_) (fun hc => ?_) <;> (first | replace hc := of_decide_eq_true hc | replace hc := of_decide_eq_false hc | replace hc := dec_nT hc | replace hc := dec_nF hc | skip) <;> (try (exfalso; omega)))) | ((refine is_bin ?_; first | (refine lw_pure rfl (pv_lss rfl rfl) ?_))) | ((refine is_load ?_; first | (refine lw_pure rfl (pv_load (t1 rfl) rfl (by first | exact PT.ld0 (HX.mono hw) rfl | exact PT.ld (HX.mono hw) rfl)) ?_))) | ((refine is_fa ?_; first | (refine lw_pure rfl (pv_fa (tF rfl) rfl) ?_))) | ((refine is_bi ?_; first | (refine lw_pure rfl (pv_lenl (tS rfl) rfl) ?_))) | (refine is_pk ?_; refine lw_pure rfl (pv_pick_t rfl (by first | assumption | exact decide_eq_true (by omega) | exact dec_notT (by omega)) rfl) ?_) | (refine is_pk ?_; refine lw_pure rfl (pv_pick_f rfl (by first | assumption | exact decide_eq_false (by omega) | exact dec_notF (by omega)) rfl) ?_))
      all_goals exact qw_join n (by repeat' (first | exact trivial | refine ⟨rfl, ?_⟩)) ⟨hw, hA, hn⟩
  clear hw
  rintro n wr ⟨hw, hG, hn⟩
  repeat' (first | (refine lw_pure rfl (pv_move rfl) ?_) | (refine lw_pure rfl (pv_assign rfl) ?_) | (refine is_cw ?_; first | (refine cw_seq ?_) | (refine cw_region ?_) | (refine cw_ret ?_)) | (refine is_qw ?_; first | (with_reducible refine qw_then ?_)) | (refine lw_nil ?_) | ((refine is_bi ?_; first | (refine lw_pure rfl (pv_minL rfl rfl) ?_))))
  refine qw_ret1 rfl rfl ⟨⟨min 3000 n, rfl, fun h => ?_⟩, (hE.mono hw).b⟩
  obtain ⟨f1, f2, f3, f4⟩ := hG.f (by omega)
  rw [List.take_of_length_le (Nat.le_refl _)] at f4
  exact ⟨by omega, by omega, by omega, all_get fun j x hj => by have := f2 j x (List.getElem?_eq_some_iff.1 hj).1 hj; omega, all_get fun j x hj => by have := f3 j x (List.getElem?_eq_some_iff.1 hj).1 hj; omega, by omega⟩
end Go.Proofs.YtekomjnjddhfmaaGreat
namespace Go.Proofs.YtekomjnjddhfmaaGreat
open Go.ChangeShapes Go.WideShapes Go.ChangeAt Go.RowKit Go.Deep Go.WideElems Go.Joins
section
variable {H : Type} {enc : TypeId × Value → H} {P : Program} {w : World} {base : Nat} {held : Bool}
theorem mem_weightsAll {e : TypeId} {n : Nat} {y : DataW H} (hn : n ∈ DataW.weights P e y) : ∀ {ds : List (DataW H)}, y ∈ ds → n ∈ DataW.weightsAll P e ds
  | [], h => by cases h
  | d :: r, h => by
    rw [DataW.weightsAll]
    rcases List.mem_cons.1 h with rfl | h
    · exact List.mem_append_left _ hn
    · exact List.mem_append_right _ (mem_weightsAll hn h)
theorem cell_in {a : Addr} {v : Value} (h : w.cell? a = some v) : a.spot = none ∧ a.block < w.heap.size := by
  unfold World.cell? at h
  cases hb : w.heap[a.block]? with
  | none => rw [hb] at h; cases h
  | some o =>
    refine ⟨?_, (Array.getElem?_eq_some_iff.1 hb).1⟩
    rw [hb] at h
    cases o <;> first | (cases h; done) | (cases hs : a.spot with | none => rfl | some s => rw [hs] at h; simp at h)
theorem open_slV {α : Type} (encE : α → List Value) (k B : Nat) (Pr : α → Prop) {t e : TypeId} {fuel : Nat} {c : Value} {x : DataW H × List MemPlace} (hk : ∀ x, (encE x).length = k) (hk0 : 0 < k) (ht : P.underlying t = some (.slice e)) (hC : P.cellsOf e = k) (hby : Nat.ble 1 (P.bytesOf e) = true)
    (hdec : ∀ n cs y, DataW.trod enc P w base (fun _ => true) held n e cs = some y → (∀ n ∈ DataW.weights P e y.1, n ≤ B) → ∃ x : α, cs = encE x ∧ Pr x)
    (h : DataW.trod enc P w base (fun _ => true) held fuel t [c] = some x) (hwt : ∀ n ∈ DataW.weights P t x.1, n ≤ B) : ∃ a cap, ∃ xs : List α, c = .slice a xs.length cap ∧ SlR encE k w a cap xs ∧ (∀ z ∈ xs, Pr z) ∧ xs.length ≤ B := by
  rcases open_slice ht h with ⟨h0, _⟩ | ⟨a, len, cap, m, n, D, Pl, hcs, hb, hl, hm, hmm, hx, hi⟩
  · simp only [List.cons.injEq, and_true] at h0
    exact ⟨none, 0, [], h0, SlR.nil w, by simp, Nat.zero_le _⟩
  · simp only [List.cons.injEq, and_true] at hcs
    subst hcs
    simp only [if_true] at hmm
    subst hmm
    subst hx
    rw [DataW.weights, ht] at hwt
    have hlen0 : len ≤ B := by
      have h1 := hwt _ List.mem_cons_self
      simp only [List.length_map, List.length_range] at h1
      have h2 : len * 1 ≤ (len + (m - len)) * P.bytesOf e := Nat.mul_le_mul (by omega) (Nat.le_of_ble_eq_true hby)
      omega
    have hE : ∀ i, i < len → ∃ x : α, w.cells? base (a.add (i * P.cellsOf e)) (P.cellsOf e) = some (encE x) ∧ Pr x := fun i h => by
      obtain ⟨cs', h1, h2⟩ := hi i (by omega)
      obtain ⟨x, rfl, hp⟩ := hdec _ _ _ h2 fun q hq => hwt q (List.mem_cons_of_mem _ (List.mem_append_left _ (mem_weightsAll hq (List.mem_map.2 ⟨i, List.mem_range.2 h, rfl⟩))))
      exact ⟨x, h1, hp⟩
    have hL : ∀ m, m ≤ len → ∃ xs : List α, xs.length = m ∧ (∀ j x, xs[j]? = some x → w.cells? base (a.add (j * P.cellsOf e)) (P.cellsOf e) = some (encE x)) ∧ ∀ x ∈ xs, Pr x := by
      intro m hm
      induction m with
      | zero => exact ⟨[], rfl, fun j x hx => by simp at hx, by simp⟩
      | succ m ih =>
        obtain ⟨xs, h1, h2, h3⟩ := ih (by omega)
        obtain ⟨x, hx, hp⟩ := hE m (by omega)
        refine ⟨xs ++ [x], by simp [h1], fun j y hy => ?_, fun y hy => ?_⟩
        · by_cases hj : j < xs.length
          · rw [List.getElem?_append_left hj] at hy; exact h2 j y hy
          · rw [List.getElem?_append_right (by omega)] at hy
            have : j - xs.length = 0 := by
              have := (List.getElem?_eq_some_iff.1 hy).1; simp at this; omega
            rw [this] at hy; simp at hy; subst hy
            have : j = m := by omega
            subst this; exact hx
        · rcases List.mem_append.1 hy with hy | hy
          · exact h3 y hy
          · simp at hy; subst hy; exact hp
    obtain ⟨xs, hlen, hxs, hpr⟩ := hL len (Nat.le_refl _)
    refine ⟨some a, _, xs, by rw [hlen], ⟨by omega, by simpa [maxLen] using hm, (fun h => by cases h), fun ad had hc => ?_⟩, hpr, by omega⟩
    cases had
    obtain ⟨cs0, h1, _⟩ := hi 0 hc
    obtain ⟨_, h2, h3⟩ := World.cells?_some h1
    have h4 := h3 0 (by rw [hC]; exact hk0)
    rw [List.getElem?_eq_getElem (by rw [h2, hC]; exact hk0)] at h4
    obtain ⟨hsp, hlt⟩ := cell_in h4
    obtain ⟨b, off, sp⟩ := a
    have e0 : ((⟨b, off, sp⟩ : Addr).add (0 * P.cellsOf e)).add 0 = ⟨b, off, sp⟩ := by simp [Addr.add]
    rw [e0] at hsp hlt
    have hsp0 : sp = none := hsp
    subst hsp0
    refine ⟨rfl, hlt, fun j x hx i v hv => ?_⟩
    obtain ⟨_, h1, h2⟩ := World.cells?_some (hxs j x hx)
    have hik : i < k := by have := (List.getElem?_eq_some_iff.1 hv).1; rwa [hk] at this
    have h3 := h2 i (by rw [hC]; exact hik)
    rw [hv] at h3
    rw [hC] at h3
    rwa [Addr.add_lit, Addr.add_lit] at h3
theorem SlR.map_fst {α β : Type} {encE : α → List Value} {k : Nat} {a : Option Addr} {cap : Nat} {xs : List β} (f : β → α) (h : SlR (fun x => encE (f x)) k w a cap xs) : SlR encE k w a cap (xs.map f) := by
  refine ⟨by rw [List.length_map]; exact h.le, h.max, fun hn => ?_, fun ad had hc => ?_⟩
  · obtain ⟨h1, h2⟩ := h.ofNone hn; exact ⟨by rw [h1]; rfl, h2⟩
  · obtain ⟨h1, h2, h3⟩ := h.ofSome ad had hc
    refine ⟨h1, h2, fun j x hx i v hv => ?_⟩
    rw [List.getElem?_map] at hx
    cases hq : xs[j]? with
    | none => rw [hq] at hx; cases hx
    | some z => rw [hq, Option.map_some] at hx; injection hx with hx; subst hx; exact h3 j z hq i v hv
theorem wt_in {n : Nat} : ∀ {ts : List TypeId} {ds : List (DataW H)} {j : Nat} {t : TypeId} {d : DataW H}, ts[j]? = some t → ds[j]? = some d → n ∈ DataW.weights P t d → n ∈ DataW.weightsEach P ts ds
  | t :: ts, d :: ds, 0, _, _, h1, h2, hn => by
    simp at h1 h2; subst h1 h2
    rw [DataW.weightsEach]; exact List.mem_append_left _ hn
  | t :: ts, d :: ds, j + 1, _, _, h1, h2, hn => by
    rw [DataW.weightsEach]; exact List.mem_append_right _ (wt_in (by simpa using h1) (by simpa using h2) hn)
  | [], _, _, _, _, h1, _, _ => by simp at h1
  | _ :: _, [], _, _, _, _, h2, _ => by simp at h2
theorem wt_of {ts us : List TypeId} {ds gs : List (DataW H)} (hZ : ((DataW.weightsEach P (ts ++ us) (ds ++ gs)).all fun x => decide (x ≤ reachBytes)) = true) {j : Nat} {t : TypeId} {d : DataW H} (ht : ts[j]? = some t) (hd : ds[j]? = some d) : ∀ n ∈ DataW.weights P t d, n ≤ reachBytes := fun n hn => by
  have h1 : (ts ++ us)[j]? = some t := by rw [List.getElem?_append_left (List.getElem?_eq_some_iff.1 ht).1]; exact ht
  have h2 : (ds ++ gs)[j]? = some d := by rw [List.getElem?_append_left (List.getElem?_eq_some_iff.1 hd).1]; exact hd
  exact of_decide_eq_true (List.all_eq_true.1 hZ n (wt_in h1 h2 hn))
theorem wt_part {B : Nat} {t u : TypeId} {fs : Array Field} {ds : List (DataW H)} (ht : P.underlying t = some (.struct fs)) (hwt : ∀ n ∈ DataW.weights P t (.agg ds), n ≤ B) {j : Nat} {d : DataW H} (hj : (fs.toList.map (·.type))[j]? = some u) (hd : ds[j]? = some d) : ∀ n ∈ DataW.weights P u d, n ≤ B := fun n hn => hwt n (by
  rw [DataW.weights, ht]
  exact wt_in hj hd hn)
theorem trod_u8 {fuel : Nat} {t : TypeId} {c : Value} {x : DataW H × List MemPlace} (ht : P.underlying t = some (.int .u8)) (h : DataW.trod enc P w base (fun _ => true) held fuel t [c] = some x) : ∃ n : Int, c = .int .u8 n ∧ 0 ≤ n ∧ n ≤ 255 := by
  obtain ⟨n, e, _, hw⟩ := DataW.trod_int (k := .u8) ht h
  simp only [List.cons.injEq, and_true] at e
  simp only [Lit.wf, Bool.and_eq_true, decide_eq_true_eq] at hw
  exact ⟨n, e, hw⟩
theorem trod_strW {B fuel : Nat} {t : TypeId} {c : Value} {x : DataW H × List MemPlace} (ht : P.underlying t = some .string) (h : DataW.trod enc P w base (fun _ => true) held fuel t [c] = some x) (hwt : ∀ n ∈ DataW.weights P t x.1, n ≤ B) : ∃ s : ByteArray, c = .string s ∧ s.size ≤ B := by
  obtain ⟨s, e, hx, _⟩ := DataW.trod_string ht h
  simp only [List.cons.injEq, and_true] at e
  refine ⟨s, e, hwt _ ?_⟩
  rw [hx, DataW.weights]
  exact List.mem_singleton.2 Array.length_toList.symm
theorem trod_bool1 {fuel : Nat} {t : TypeId} {c : Value} {x : DataW H × List MemPlace} (ht : P.underlying t = some .bool) (h : DataW.trod enc P w base (fun _ => true) held fuel t [c] = some x) : ∃ b : Bool, c = .bool b := by
  obtain ⟨b, e, _⟩ := DataW.trod_bool ht h
  simp only [List.cons.injEq, and_true] at e
  exact ⟨b, e⟩
end
section
variable {H : Type} {enc : TypeId × Value → H} {W : World} {base : Nat} {held : Bool} {b0 : Nat} {v : Value} {d : DataW H} {p : List MemPlace} {B : Nat}
set_option maxRecDepth 20000 in
theorem acc_dec (n : Nat) (cs : List Value) (y : DataW H × List MemPlace) (h : DataW.trod enc Tryz.prog W base (fun _ => true) held n 34 cs = some y) (hwt : ∀ n ∈ DataW.weights Tryz.prog 34 y.1, n ≤ B) : ∃ r : Acc, cs = encA r ∧ r.name.size ≤ B := by
  obtain ⟨xs, m, _, rfl, hl, hlen, hf⟩ := DataW.trod_struct Tryz.underlying34 h
  rw [show Tryz.prog.cellsOf 34 = 2 by kernel_rfl] at hl
  match xs, hlen, cs, hl with
  | [y0, y1], _, [c0, c1], _ =>
    obtain ⟨a, rfl, ha⟩ := trod_strW (c := c0) (B := B) Tryz.underlying9 (hf 0 _ rfl) (wt_part Tryz.underlying34 hwt (j := 0) rfl rfl)
    obtain ⟨b, rfl⟩ := trod_bool1 (c := c1) Tryz.underlying4 (hf 1 _ rfl)
    exact ⟨⟨a, b⟩, rfl, ha⟩
set_option maxRecDepth 20000 in
theorem ins_dec (n : Nat) (cs : List Value) (y : DataW H × List MemPlace) (h : DataW.trod enc Tryz.prog W base (fun _ => true) held n 37 cs = some y) (hwt : ∀ n ∈ DataW.weights Tryz.prog 37 y.1, n ≤ B) : ∃ r : Ins, cs = encN r ∧ r.name.size ≤ B ∧ (-9223372036854775808 ≤ r.tick ∧ r.tick ≤ 9223372036854775807) := by
  obtain ⟨xs, m, _, rfl, hl, hlen, hf⟩ := DataW.trod_struct Tryz.underlying37 h
  rw [show Tryz.prog.cellsOf 37 = 3 by kernel_rfl] at hl
  match xs, hlen, cs, hl with
  | [y0, y1, y2], _, [c0, c1, c2], _ =>
    obtain ⟨a, rfl, ha⟩ := trod_strW (c := c0) (B := B) Tryz.underlying9 (hf 0 _ rfl) (wt_part Tryz.underlying37 hwt (j := 0) rfl rfl)
    obtain ⟨q, rfl, hq⟩ := trod_i64 (c := c1) Tryz.underlying2 (hf 1 _ rfl)
    obtain ⟨b, rfl⟩ := trod_bool1 (c := c2) Tryz.underlying4 (hf 2 _ rfl)
    exact ⟨⟨a, q, b⟩, rfl, ha, hq⟩
set_option maxRecDepth 20000 in
theorem ord_dec (n : Nat) (cs : List Value) (y : DataW H × List MemPlace) (h : DataW.trod enc Tryz.prog W base (fun _ => true) held n 41 cs = some y) (hwt : ∀ n ∈ DataW.weights Tryz.prog 41 y.1, n ≤ B) : ∃ r : Ord, cs = encO r ∧ (-9223372036854775808 ≤ r.price ∧ r.price ≤ 9223372036854775807) ∧ (-9223372036854775808 ≤ r.left ∧ r.left ≤ 9223372036854775807) := by
  obtain ⟨xs, m, _, rfl, hl, hlen, hf⟩ := DataW.trod_struct Tryz.underlying41 h
  rw [show Tryz.prog.cellsOf 41 = 6 by kernel_rfl] at hl
  match xs, hlen, cs, hl with
  | [y0, y1, y2, y3, y4, y5], _, [c0, c1, c2, c3, c4, c5], _ =>
    obtain ⟨a, rfl, _⟩ := trod_i64 (c := c0) Tryz.underlying2 (hf 0 _ rfl)
    obtain ⟨b, rfl, _⟩ := trod_i64 (c := c1) Tryz.underlying3 (hf 1 _ rfl)
    obtain ⟨i, rfl, _⟩ := trod_i64 (c := c2) Tryz.underlying3 (hf 2 _ rfl)
    obtain ⟨s, rfl, _⟩ := trod_u8 (c := c3) Tryz.underlying5 (hf 3 _ rfl)
    obtain ⟨q, rfl, hq⟩ := trod_i64 (c := c4) Tryz.underlying2 (hf 4 _ rfl)
    obtain ⟨l, rfl, hl⟩ := trod_i64 (c := c5) Tryz.underlying2 (hf 5 _ rfl)
    exact ⟨⟨a, b, i, s, q, l⟩, rfl, hq, hl⟩
set_option maxRecDepth 20000 in
theorem bid_dec (n : Nat) (cs : List Value) (y : DataW H × List MemPlace) (h : DataW.trod enc Tryz.prog W base (fun _ => true) held n 46 cs = some y) (hwt : ∀ n ∈ DataW.weights Tryz.prog 46 y.1, n ≤ B) : ∃ r : Bid, cs = encD r ∧ True := by
  obtain ⟨xs, m, _, rfl, hl, hlen, hf⟩ := DataW.trod_struct Tryz.underlying46 h
  rw [show Tryz.prog.cellsOf 46 = 2 by kernel_rfl] at hl
  match xs, hlen, cs, hl with
  | [y0, y1], _, [c0, c1], _ =>
    obtain ⟨a, rfl, _⟩ := trod_i64 (c := c0) Tryz.underlying3 (hf 0 _ rfl)
    obtain ⟨b, rfl, _⟩ := trod_i64 (c := c1) Tryz.underlying2 (hf 1 _ rfl)
    exact ⟨⟨a, b⟩, rfl, trivial⟩
set_option maxRecDepth 20000 in
theorem auc_dec (n : Nat) (cs : List Value) (y : DataW H × List MemPlace) (h : DataW.trod enc Tryz.prog W base (fun _ => true) held n 44 cs = some y) (hwt : ∀ n ∈ DataW.weights Tryz.prog 44 y.1, n ≤ B) : ∃ r : AucC × List Bid, cs = encC r.1 ∧ AuR W r.1 ⟨r.1.h, r.2⟩ := by
  obtain ⟨xs, m, _, hx, hl, hlen, hf⟩ := DataW.trod_struct Tryz.underlying44 h
  subst hx
  rw [show Tryz.prog.cellsOf 44 = 9 by kernel_rfl] at hl
  match xs, hlen, cs, hl with
  | [y0, y1, y2, y3, y4, y5, y6, y7, y8], _, [c0, c1, c2, c3, c4, c5, c6, c7, c8], _ =>
    obtain ⟨a, rfl, _⟩ := trod_i64 (c := c0) Tryz.underlying2 (hf 0 _ rfl)
    obtain ⟨b, rfl, _⟩ := trod_i64 (c := c1) Tryz.underlying3 (hf 1 _ rfl)
    obtain ⟨i, rfl, _⟩ := trod_i64 (c := c2) Tryz.underlying3 (hf 2 _ rfl)
    obtain ⟨s, rfl⟩ := trod_bool1 (c := c3) Tryz.underlying4 (hf 3 _ rfl)
    obtain ⟨q, rfl, _⟩ := trod_i64 (c := c4) Tryz.underlying2 (hf 4 _ rfl)
    obtain ⟨l, rfl, _⟩ := trod_i64 (c := c5) Tryz.underlying2 (hf 5 _ rfl)
    obtain ⟨e, rfl, _⟩ := trod_i64 (c := c6) Tryz.underlying2 (hf 6 _ rfl)
    obtain ⟨f, rfl, _⟩ := trod_i64 (c := c7) Tryz.underlying2 (hf 7 _ rfl)
    have g8 : DataW.trod enc Tryz.prog W base (fun _ => true) held m 42 [c8] = some y8 := hf 8 _ rfl
    obtain ⟨ka, kc, ks, rfl, S8, -⟩ := open_slV encD 2 B (fun _ => True) encD_len (by omega) Tryz.underlying42 (by kernel_rfl) (by kernel_rfl) bid_dec g8 (wt_part Tryz.underlying44 hwt (j := 8) rfl rfl)
    exact ⟨⟨⟨⟨a, b, i, s, q, l, e, f⟩, ka, ks.length, kc⟩, ks⟩, rfl, ⟨rfl, rfl, S8⟩⟩
theorem row_decW (n : Nat) (cs : List Value) (y : DataW H × List MemPlace) (h : DataW.trod enc Tryz.prog W base (fun _ => true) held n 39 cs = some y) (hwt : ∀ n ∈ DataW.weights Tryz.prog 39 y.1, n ≤ B) : ∃ r : Row, cs = encR r ∧ RIn r := row_dec n cs y h
set_option maxRecDepth 20000 in
set_option maxHeartbeats 1000000 in
theorem state_open (hv : Value.okWide Tryz.prog W .any b0 30 v) (h : DataW.Trod enc Tryz.prog W base (fun _ => true) held 30 v d p) (hwt : ∀ n ∈ DataW.weights Tryz.prog 30 d, n ≤ reachBytes) : ∃ s t, v = (.agg (encS s).toArray) ∧ StR W s t ∧ StBg t ∧ StIn t := by
  obtain ⟨⟨cs⟩, rfl, hsz⟩ := okWide_struct Tryz.underlying30 hv
  obtain ⟨fuel, hf⟩ := h
  obtain ⟨xs, m, _, hx, hl, hlen, hfi⟩ := DataW.trod_struct Tryz.underlying30 hf
  rw [show Tryz.prog.cellsOf 30 = 9 by kernel_rfl] at hl
  have hl2 : cs.length = 9 := hl
  have h7 : reachBytes ≤ 140737488355328 := by decide
  have hU := Tryz.underlying30
  match xs, hlen, cs, hl2 with
  | [y0, y1, y2, y3, y4, y5, y6, y7, y8], _, [c0, c1, c2, c3, c4, c5, c6, c7, c8], _ =>
    simp only [Prod.mk.injEq] at hx
    obtain ⟨rfl, -⟩ := hx
    obtain ⟨a, rfl, _⟩ := trod_i64 (c := c0) Tryz.underlying2 (hfi 0 _ rfl)
    obtain ⟨b, rfl, _⟩ := trod_i64 (c := c1) Tryz.underlying2 (hfi 1 _ rfl)
    obtain ⟨o, rfl, ho⟩ := trod_i64 (c := c2) Tryz.underlying2 (hfi 2 _ rfl)
    obtain ⟨u, rfl, _⟩ := trod_i64 (c := c3) Tryz.underlying2 (hfi 3 _ rfl)
    have g4 : DataW.trod enc Tryz.prog W base (fun _ => true) held m 24 [c4] = some y4 := hfi 4 _ rfl
    have g5 : DataW.trod enc Tryz.prog W base (fun _ => true) held m 25 [c5] = some y5 := hfi 5 _ rfl
    have g6 : DataW.trod enc Tryz.prog W base (fun _ => true) held m 26 [c6] = some y6 := hfi 6 _ rfl
    have g7 : DataW.trod enc Tryz.prog W base (fun _ => true) held m 27 [c7] = some y7 := hfi 7 _ rfl
    have g8 : DataW.trod enc Tryz.prog W base (fun _ => true) held m 28 [c8] = some y8 := hfi 8 _ rfl
    obtain ⟨pa, ca, la, rfl, A, qa, ba⟩ := open_slV encA 2 reachBytes (fun x => x.name.size ≤ reachBytes) encA_len (by omega) Tryz.underlying24 (by kernel_rfl) (by kernel_rfl) acc_dec g4 (wt_part hU hwt (j := 4) rfl rfl)
    obtain ⟨pi, ci, li, rfl, I, qi, bi⟩ := open_slV encN 3 reachBytes (fun x => x.name.size ≤ reachBytes ∧ (-9223372036854775808 ≤ x.tick ∧ x.tick ≤ 9223372036854775807)) encN_len (by omega) Tryz.underlying25 (by kernel_rfl) (by kernel_rfl) ins_dec g5 (wt_part hU hwt (j := 5) rfl rfl)
    obtain ⟨pr, cr, lr, rfl, R, qr, br⟩ := open_slV encR 4 reachBytes RIn encR_len (by omega) Tryz.underlying26 (by kernel_rfl) (by kernel_rfl) row_decW g6 (wt_part hU hwt (j := 6) rfl rfl)
    obtain ⟨po, co, lo, rfl, O, qo, bo⟩ := open_slV encO 6 reachBytes (fun r : Ord => (-9223372036854775808 ≤ r.price ∧ r.price ≤ 9223372036854775807) ∧ (-9223372036854775808 ≤ r.left ∧ r.left ≤ 9223372036854775807)) encO_len (by omega) Tryz.underlying27 (by kernel_rfl) (by kernel_rfl) ord_dec g7 (wt_part hU hwt (j := 7) rfl rfl)
    obtain ⟨px, cx, lx, rfl, X, qx, bx⟩ := open_slV (fun x : AucC × List Bid => encC x.1) 9 reachBytes (fun x => AuR W x.1 ⟨x.1.h, x.2⟩) (fun _ => rfl) (by omega) Tryz.underlying28 (by kernel_rfl) (by kernel_rfl) auc_dec g8 (wt_part hU hwt (j := 8) rfl rfl)
    refine ⟨⟨a, b, o, u, pa, _, ca, pi, _, ci, pr, _, cr, po, _, co, px, _, cx⟩, ⟨a, b, o, u, la, li, lr, lo, lx.map fun x => ⟨x.1.h, x.2⟩⟩, rfl, ⟨⟨rfl, rfl, rfl, rfl⟩, rfl, rfl, rfl, rfl, by simp, A, I, R, O, lx.map (·.1), SlR.map_fst _ X, by simp, fun j x c hx hc => ?_⟩, ⟨Nat.le_trans br h7, Nat.le_trans bo h7, fun x hx => Nat.le_trans (qa x hx) h7, fun x hx => Nat.le_trans (qi x hx).1 h7, qr⟩, ⟨fun x hx => Nat.le_trans (qa x hx) h7, fun x hx => ⟨Nat.le_trans (qi x hx).1 h7, (qi x hx).2⟩, qr, qo, ho⟩⟩
    rw [List.getElem?_map, Option.map_eq_some_iff] at hx hc
    obtain ⟨z, hz, rfl⟩ := hx
    obtain ⟨z2, hz2, rfl⟩ := hc
    rw [hz] at hz2; injection hz2 with hz2; subst hz2
    exact qx z (List.mem_of_getElem? hz)
end
end Go.Proofs.YtekomjnjddhfmaaGreat
namespace Go.Proofs.YtekomjnjddhfmaaGreat
open Go.RowKit Go.PlainAid

section
variable {α : Type} {enc : α → List Value} {k nb : Nat} {P : Program} {n : Nat} {l : Fr} {w : World} {d : Option Nat} {ty : TypeId} {pos : String} {af : Array Edge} {g : Option (Nat × Bool)} {x y : Operand} {S T : TypeId} {base N : Nat} {ys : List α} {a : Option Addr} {m c : Nat} {Z : Value → World → Prop}
def Emp (T : TypeId) (base : Nat) (v : Value) (w : World) : Prop := ∃ N, base ≤ N ∧ v = .slice (some ⟨N, 0, none⟩) 0 0 ∧ w.heap[N]? = some (.cells #[] T (0, 0))
theorem Emp.mono {T : TypeId} {base : Nat} {v : Value} {w w' : World} (h : Emp T base v w) (hb : Below w.heap.size w w') : Emp T base v w' := by
  obtain ⟨N, h1, h2, h3⟩ := h
  exact ⟨N, h1, h2, (hb.block N (Array.getElem?_eq_some_iff.1 h3).1).trans h3⟩
theorem act_bs0 (E : ElemT P S T k nb) (hb : base ≤ w.heap.size) (h : ∀ v w', Emp T base v w' → Below w.heap.size w w' → Z v w') : Act1 P n l ⟨d, .buildSlice S 0 #[], ty, pos, af, g⟩ w Z := by
  obtain ⟨i, z, hi, hz, hsz, _, hzs⟩ := E.info
  refine act_ev (w' := w.alloc (.cells #[] T)) (v := .slice (some ⟨w.heap.size, 0, none⟩) 0 0) ⟨fun A hA => ?_⟩ (h _ _ ⟨_, hb, rfl, heap_alloc_new w _⟩ (below_alloc _ _))
  have e0 : Array.range 0 = #[] := Array.eq_empty_of_size_eq_zero (by simp)
  simp [execOp, Instr.buildSlice, run_underlying E.sl, sizeOf, typeInfo, hi, Instr.fill, newRow, e0]
theorem act_app0 (E : ElemT P S T k nb) (hk : ∀ x, (enc x).length = k) (h1c : ∀ x, ∀ v ∈ enc x, v.oneCell' = true) {v : Value} (hx : ev l x = some v) (hv : Emp T base v w) (hy : ev l y = some (.slice a m c)) (hs : SlR enc k w a c ys) (hm : m = ys.length) (hb : base ≤ w.heap.size) (hsz : ys.length * nb ≤ 140737488355328) (hmx : ys.length ≤ maxLen)
    (h : ∀ v' w', Own enc k T base w' v' ys → Below w.heap.size w w' → Z v' w') : Act1 P n l ⟨d, .call ⟨.builtin .append, #[x, y], #[S, S]⟩, ty, pos, af, g⟩ w Z := by
  subst hm
  obtain ⟨N, hN, rfl, hh⟩ := hv
  cases ys with
  | cons u r =>
    have h0 : SlR enc k w (some ⟨N, 0, none⟩) 0 ([] : List α) := ⟨Nat.le_refl _, by omega, (fun h => by cases h), fun ad _ hc => by omega⟩
    obtain ⟨v', w', h1, h2, h3⟩ := app_full E hk h1c ty h0 hs (by simp) (by simpa using hsz) (by simpa using hmx)
    exact act_ev (v := v') (w' := w') ⟨fun A hA => by simp at h1; simp [execOp, resolve, hA.ev hx, hA.ev hy, invoke, builtin, h1]⟩ (h _ _ ((by simpa using h2 : Own enc k T w.heap.size w' v' (u :: r)).weaken hb) (below_none h3))
  | nil =>
    obtain ⟨i, z, hi, hz, hsz2, _, _⟩ := E.info
    have hO : Own enc k T base w (.slice (some ⟨N, 0, none⟩) 0 0) ([] : List α) := ⟨by simp, .inr ⟨N, 0, #[], rfl, hN, hh, Nat.le_refl _, by simp [maxLen], by simp, by simp⟩⟩
    cases a with
    | none =>
      obtain ⟨_, rfl⟩ := hs.ofNone rfl
      have h1 := run_append_owned_none (P := P) w base S ty T i k E.sl hi _ _ _ hO
      exact act_ev (v := .slice (some ⟨N, 0, none⟩) 0 0) (w' := w) ⟨fun A hA => by simp [execOp, resolve, hA.ev hx, hA.ev hy, invoke, builtin, h1]⟩ (h _ _ hO (Below.refl _ _))
    | some ad =>
      have h1 := run_append_room (P := P) w S ty T i E.sl hi N 0 0 #[] hh ad 0 c [] (by simp) (by simp) (by simp) (by simp) (by simp)
      have hh2 : (w.setRow N #[]).heap[N]? = some (.cells #[] T (0, 0)) := setRow_heap w N _ _ T _ hh
      refine act_ev (v := .slice (some ⟨N, 0, none⟩) 0 0) (w' := w.setRow N #[]) ⟨fun A hA => by simp at h1; simp [execOp, resolve, hA.ev hx, hA.ev hy, invoke, builtin, h1]⟩ (h _ _ ⟨by simp, .inr ⟨N, 0, #[], rfl, hN, hh2, Nat.le_refl _, by simp [maxLen], by simp, by simp⟩⟩ ⟨rfl, rfl, rfl, by simp, fun q _ => ?_⟩)
      rcases Nat.decEq q N with hq | hq
      · exact setRow_other w N q _ hq
      · subst hq; rw [hh2, hh]
theorem lw_of_act {ops : Array Oper} {Q : Exit → Act → World → Prop} {os : List Oper} {d : Nat} {op : Op} (hd : Nat.blt d n = true) (h : Act1 P n l ⟨some d, op, ty, pos, af, none⟩ w (fun v w' => LW P n ops Q os ((d, v) :: l) w')) : LW P n ops Q (⟨some d, op, ty, pos, af, none⟩ :: os) l w :=
  ⟨fun a ha => wpList_plain rfl fun K hK => h.out a ha K _ fun v w' hl => hK _ _ (hl.out _ (ha.put hd v))⟩
end
section
variable {α : Type} {enc : α → List Value} {k : Nat} {P : Program} {n : Nat} {l : Fr} {w : World} {d : Option Nat} {ty : TypeId} {pos : String} {af : Array Edge} {gd : Option (Nat × Bool)} {T t : TypeId} {x y : Operand} {base g cap : Nat} {xs : List α} {Z : Value → World → Prop}
theorem act_storeF (hk : ∀ x, (enc x).length = k) (ht : sizeB P t 1 = true) {i f o : Nat} {v : Value} {a u : α} (hx : ev l x = some (.pointer (some ⟨g, o, none⟩))) (ho : o = i * k + f) (hy : ev l y = some v) (h1 : v.oneCell' = true) (hO : Own enc k T base w (.slice (some ⟨g, 0, none⟩) xs.length cap) xs) (ha : xs[i]? = some a) (hu : enc u = (enc a).set f v) (hf : f < k)
    (h : ∀ w', Own enc k T base w' (.slice (some ⟨g, 0, none⟩) xs.length cap) (xs.set i u) → w.grownBy w' (some g) → w'.heap.size = w.heap.size → Z undef w') : Act1 P n l ⟨d, .store t x y, ty, pos, af, gd⟩ w Z := by
  subst ho
  obtain ⟨cur, hb, hg, hle, hmax, hsz, htk⟩ := Own.heap' hO
  have hi : i < xs.length := (List.getElem?_eq_some_iff.1 ha).1
  have hik : i * k + f < xs.length * k := by
    have := Nat.mul_le_mul_right k (show i + 1 ≤ xs.length from hi); rw [Nat.add_mul, Nat.one_mul] at this; omega
  have hck : xs.length * k ≤ cap * k := Nat.mul_le_mul_right k hle
  have hp : PT w g T cur.toList := by unfold PT; simpa using hg
  obtain ⟨w', a1, b1, c1, e1⟩ := sv_store (P := P) (n := n) (l := l) (d := d) (ty := ty) (pos := pos) (af := af) (g := gd) hp ht hx hy h1 (by rw [Array.length_toList, hsz]; omega)
  refine act_sv a1 (h w' ⟨by rw [flat_len enc k hk, List.length_set], Or.inr ⟨g, cap, (cur.toList.set (i * k + f) v).toArray, by rw [List.length_set], hb, b1, by rw [List.length_set]; exact hle, hmax, by simp [hsz], ?_⟩⟩ c1 e1)
  rw [List.length_set, flat_set hk ha hu hf, ← htk]
  simp only [List.take_set]
end
theorem own_sl {α : Type} {enc : α → List Value} {k : Nat} {T : TypeId} {base : Nat} {w : World} {a : Option Addr} {m c : Nat} {xs : List α} (hk : ∀ x, (enc x).length = k) (h : Own enc k T base w (.slice a m c) xs) : xs.length = m ∧ SlR enc k w a c xs := by
  obtain ⟨a', c', hv, hs, -⟩ := Own.slR hk h
  injection hv with e1 e2 e3
  subst e1 e2 e3
  exact ⟨rfl, hs⟩
theorem own_shape {α : Type} {enc : α → List Value} {k : Nat} {T : TypeId} {base : Nat} {w : World} {v : Value} {xs : List α} (hk : ∀ x, (enc x).length = k) (h : Own enc k T base w v xs) : ∃ a c, v = .slice a xs.length c := by
  obtain ⟨a, c, hv, -, -⟩ := Own.slR hk h
  exact ⟨a, c, hv⟩
theorem own_ne_ptN {α : Type} {enc : α → List Value} {k : Nat} {T T' : TypeId} {B N : Nat} {w : World} {v : Value} {xs : List α} {cs : List Value} (h : Own enc k T B w v xs) (hp : PT w N T' cs) (hT : T ≠ T') : v.ownBlock ≠ some N := by
  obtain ⟨_, h2⟩ := h
  rcases h2 with ⟨rfl, _⟩ | ⟨g, cap, cur, rfl, _, hg, _⟩
  · intro e; cases e
  · intro e
    have e : g = N := by simpa [Value.ownBlock] using e
    subst e
    have h1 : PT w g T cur.toList := by unfold PT; simpa using hg
    unfold PT at h1 hp
    rw [h1] at hp
    injection hp with hp; injection hp with _ h2 _
    exact hT h2
theorem own_own_ne {α β : Type} {enc : α → List Value} {enc' : β → List Value} {k k' B B' : Nat} {T T' : TypeId} {w : World} {v v' : Value} {xs : List α} {ys : List β} (h : Own enc k T B w v xs) (h' : Own enc' k' T' B' w v' ys) (hT : T ≠ T') : v.ownBlock = none ∨ v.ownBlock ≠ v'.ownBlock := by
  rcases h.2 with ⟨rfl, _⟩ | ⟨g, cap, cur, rfl, _, hg, _⟩
  · exact Or.inl rfl
  · rcases h'.2 with ⟨rfl, _⟩ | ⟨g', cap', cur', rfl, _, hg', _⟩
    · exact Or.inr (fun e => by cases e)
    · refine Or.inr fun e => ?_
      have e : g = g' := by simpa [Value.ownBlock] using e
      subst e
      rw [hg] at hg'
      injection hg' with hg'; injection hg' with _ h2 _
      exact hT h2
structure OwA (base : Nat) (w : World) (x : AucC) (a : Auc) : Prop where
  h : x.h = a.h
  o : Own encD 2 46 base w (.slice x.ba x.bm x.bc) a.bids
structure OwS (base : Nat) (w : World) (s : SttC) (t : Stt) (xs : List AucC) : Prop where
  n : s.clock = t.clock ∧ s.fee = t.fee ∧ s.nord = t.nord ∧ s.nauc = t.nauc
  A : Own encA 2 34 base w (.slice s.pa s.ma s.ca) t.accs
  I : Own encN 3 37 base w (.slice s.pi s.mi s.ci) t.inss
  R : Own encR 4 39 base w (.slice s.pr s.mr s.cr) t.rows
  O : Own encO 6 41 base w (.slice s.po s.mo s.co) t.ords
  X : Own encC 9 44 base w (.slice s.px s.mx s.cx) xs
  L : xs.length = t.aucs.length
  B : ∀ (j : Nat) x a, xs[j]? = some x → t.aucs[j]? = some a → OwA base w x a
theorem OwS.stR {base : Nat} {w : World} {s : SttC} {t : Stt} {xs : List AucC} (h : OwS base w s t xs) : StR w s t := by
  obtain ⟨a1, a2⟩ := own_sl encA_len h.A
  obtain ⟨i1, i2⟩ := own_sl encN_len h.I
  obtain ⟨r1, r2⟩ := own_sl encR_len h.R
  obtain ⟨o1, o2⟩ := own_sl encO_len h.O
  obtain ⟨x1, x2⟩ := own_sl encC_len h.X
  refine ⟨h.n, a1, i1, r1, o1, h.L.symm.trans x1, a2, i2, r2, o2, xs, x2, h.L, fun j x a hx ha => ?_⟩
  obtain ⟨q1, q2⟩ := h.B j x a hx ha
  obtain ⟨b1, b2⟩ := own_sl encD_len q2
  exact ⟨q1, b1, b2⟩

theorem sumX_len (l : List Auc) : l.length ≤ sumX l := by
  unfold sumX
  induction l with
  | nil => simp
  | cons a l ih => simp only [List.map_cons, List.sum_cons, List.length_cons]; omega
theorem sumX_mem {l : List Auc} {a : Auc} (h : a ∈ l) : 1 + a.bids.length ≤ sumX l := by
  unfold sumX
  induction l with
  | nil => cases h
  | cons b l ih =>
    simp only [List.map_cons, List.sum_cons]
    rcases List.mem_cons.1 h with rfl | h
    · omega
    · have := ih h; omega
theorem own_shapeM {α : Type} {enc : α → List Value} {k : Nat} {T : TypeId} {base : Nat} {w : World} {v : Value} {xs : List α} {m : Nat} (hk : ∀ x, (enc x).length = k) (h : Own enc k T base w v xs) (hm : xs.length = m) : ∃ a c, v = .slice a m c := by
  obtain ⟨a, c, hv⟩ := own_shape hk h
  exact ⟨a, c, by rw [hv, hm]⟩
theorem own_some {α : Type} {enc : α → List Value} {k : Nat} {T : TypeId} {base : Nat} {w : World} {a : Option Addr} {m c : Nat} {xs : List α} (h : Own enc k T base w (.slice a m c) xs) (h0 : 0 < m) : ∃ g, a = some ⟨g, 0, none⟩ := by
  obtain ⟨h1, h2⟩ := h
  rcases h2 with ⟨hv, h3⟩ | ⟨g, cap, cur, hv, _⟩
  · injection hv with _ e2 _; omega
  · injection hv with e1 _ _; exact ⟨g, e1⟩
structure OwI (base N2 N3 : Nat) (w1 : World) (t : Stt) (aA aI aR aO aX : Option Addr) (cA cI cR cO cX : Nat) (k : Nat) (xs : List AucC) (w : World) : Prop where
  b : Below w1.heap.size w1 w
  h2 : ∃ cs, PT w N2 30 cs ∧ cs.length = 9
  h3 : PT w N3 30 [.int .i64 t.clock, .int .i64 t.fee, .int .i64 t.nord, .int .i64 t.nauc, .slice aA t.accs.length cA, .slice aI t.inss.length cI, .slice aR t.rows.length cR, .slice aO t.ords.length cO, .slice aX t.aucs.length cX]
  A : Own encA 2 34 base w (.slice aA t.accs.length cA) t.accs
  I : Own encN 3 37 base w (.slice aI t.inss.length cI) t.inss
  R : Own encR 4 39 base w (.slice aR t.rows.length cR) t.rows
  O : Own encO 6 41 base w (.slice aO t.ords.length cO) t.ords
  X : Own encC 9 44 base w (.slice aX t.aucs.length cX) xs
  L : xs.length = t.aucs.length
  B : ∀ (j : Nat) x a, xs[j]? = some x → t.aucs[j]? = some a → x.h = a.h ∧ (j < k → Own encD 2 46 base w (.slice x.ba x.bm x.bc) a.bids)
set_option maxRecDepth 20000 in
set_option maxHeartbeats 8000000 in
theorem own_c {s : SttC} {t : Stt} {w : World} (hS0 : StR w s t) (hM : StSm t) : Calls Tryz.prog 18 #[(.agg (encS s).toArray)] w fun e w' => (∃ (qa : Option Addr) (da : Nat) (qi : Option Addr) (di : Nat) (qr : Option Addr) (dr : Nat) (qo : Option Addr) (d : Nat) (qx : Option Addr) (dx : Nat) (xs : List AucC), e = .returned (.agg (List.toArray [.int .i64 t.clock, .int .i64 t.fee, .int .i64 t.nord, .int .i64 t.nauc, .slice qa t.accs.length da, .slice qi t.inss.length di, .slice qr t.rows.length dr, .slice qo t.ords.length d, .slice qx t.aucs.length dx])) ∧ OwS w.heap.size w' ⟨t.clock, t.fee, t.nord, t.nauc, qa, t.accs.length, da, qi, t.inss.length, di, qr, t.rows.length, dr, qo, t.ords.length, d, qx, t.aucs.length, dx⟩ t xs) ∧ Below w.heap.size w w' := by
  have hE := Ext.refl w
  have hw := Below.refl w.heap.size w
  obtain ⟨c1, c2, c3, c4, pa, ma, ca, pi, mi, ci, pr, mr, cr, po, mo, co, px, mx, cx⟩ := s; obtain ⟨⟨e1, e2, e3, e4⟩, hma, hmi, hmr, hmo, hmx, HA, HI, HR, HO, HXs⟩ := hS0; simp only at e1 e2 e3 e4 hma hmi hmr hmo hmx HA HI HR HO HXs; subst e1 e2 e3 e4 hma hmi hmr hmo hmx
  obtain ⟨xs, HX9, HAs⟩ := HXs
  have hxn := HAs.1
  have hsx := hM.xs
  have hsl := sumX_len t.aucs
  have hro := hM.ro
  have hal := hM.al
  have hil := hM.il
  refine fn_enter 52 Tryz.func18 rfl rfl rfl ?_
  repeat' (first | (refine is_cw ?_; first | (refine cw_seq ?_) | (refine cw_region ?_)))
  refine lw_boxN rfl rfl (cs := [.int .i64 t.clock, .int .i64 t.fee, .int .i64 t.nord, .int .i64 t.nauc, .slice pa t.accs.length ca, .slice pi t.inss.length ci, .slice pr t.rows.length cr, .slice po t.ords.length co, .slice px t.aucs.length cx]) rfl ?_; intro N1 wn hN1 HX hb; replace hN1 := Nat.le_trans hw.size hN1; replace hw := grow_trans hw hb; clear hb
  replace hE := hE.mono hw; replace HA := HA.mono hw; replace HI := HI.mono hw; replace HR := HR.mono hw; replace HO := HO.mono hw; replace HX9 := HX9.mono hw; replace HAs := HAs.mono hw; clear hw; have hw := Below.refl wn.heap.size wn
  skip
  refine lw_allocN rfl (by first | exact tyv_29 | exact tyv_30 | exact tyv_33 | exact tyv_34 | exact tyv_36 | exact tyv_37 | exact tyv_38 | exact tyv_39 | exact tyv_40 | exact tyv_41 | exact tyv_43 | exact tyv_44 | exact tyv_45 | exact tyv_46 | exact tyv_73 | exact tyv_74 | exact tyv_80 | exact tyv_81 | exact tyv_107 | exact tyv_108 | exact tyv_123 | exact tyv_146 | exact tyv_147 | exact tyv_148 | exact tyv_149) rfl ?_; intro N2 w2 hN2 H2 hb
  replace hw := grow_trans hw hb
  clear hb
  repeat' (first | (refine is_cw ?_; first | (refine cw_seq ?_) | (refine cw_region ?_)) | (refine is_qw ?_; first | (with_reducible refine qw_then ?_)) | (refine lw_nil ?_) | ((refine is_load ?_; first | (refine lw_pure rfl (pv_loada (tA rfl) rfl (by first | exact PT.lda (HX.mono hw)) (by rfl)) ?_))))
  refine lw_varN rfl (by first | exact tyv_29 | exact tyv_30 | exact tyv_33 | exact tyv_34 | exact tyv_36 | exact tyv_37 | exact tyv_38 | exact tyv_39 | exact tyv_40 | exact tyv_41 | exact tyv_43 | exact tyv_44 | exact tyv_45 | exact tyv_46 | exact tyv_73 | exact tyv_74 | exact tyv_80 | exact tyv_81 | exact tyv_107 | exact tyv_108 | exact tyv_123 | exact tyv_146 | exact tyv_147 | exact tyv_148 | exact tyv_149) rfl (tZ rfl) (fun _ => rfl) rfl rfl ?_; intro N3 w3 hN3 H3 hb
  replace H3 : PT w3 N3 30 [.int .i64 t.clock, .int .i64 t.fee, .int .i64 t.nord, .int .i64 t.nauc, .slice pa t.accs.length ca, .slice pi t.inss.length ci, .slice pr t.rows.length cr, .slice po t.ords.length co, .slice px t.aucs.length cx] := H3
  have hl2 := H2.lt
  have hn23 : N2 ≠ N3 := by omega
  replace hN3 := Nat.le_trans hw.size hN3
  replace H2 := H2.mono hb
  replace hw := grow_trans hw hb
  clear hb hl2
  repeat' (first | (refine is_cw ?_; first | (refine cw_seq ?_) | (refine cw_region ?_)) | (refine is_qw ?_; first | (with_reducible refine qw_then ?_)) | (refine lw_nil ?_))
  refine lw_of_act rfl (act_bs0 elemA hw.size ?_); intro vE wE hvE hb
  replace H2 := H2.mono hb
  replace H3 := H3.mono hb
  replace hw := grow_trans hw hb
  clear hb
  repeat' (first | ((refine is_load ?_; first | (refine lw_pure rfl (pv_load (t1 rfl) rfl (by first | exact PT.ld0 (HX.mono hw) rfl | exact PT.ld (HX.mono hw) rfl)) ?_))) | ((refine is_fa ?_; first | (refine lw_pure rfl (pv_fa (tF rfl) rfl) ?_))))
  refine lw_of_act rfl (act_app0 (base := wn.heap.size) elemA encA_len encA_one rfl hvE rfl (HA.mono hw) rfl hw.size (by omega) (by simp [maxLen]; omega) ?_); intro vA wA OA hb
  replace H2 := H2.mono hb
  replace H3 := H3.mono hb
  replace hw := grow_trans hw hb
  clear hb hvE
  obtain ⟨aA, cA, rfl⟩ := own_shapeM (m := t.accs.length) encA_len OA rfl
  repeat' (first | ((refine is_fa ?_; first | (refine lw_pure rfl (pv_fa (tF rfl) rfl) ?_))))
  have H3o := H3
  refine lw_store H3 (tZ rfl) rfl rfl rfl (by simp) ?_; intro wB H3 hg hz
  replace H3 : PT wB N3 30 [.int .i64 t.clock, .int .i64 t.fee, .int .i64 t.nord, .int .i64 t.nauc, .slice aA t.accs.length cA, .slice pi t.inss.length ci, .slice pr t.rows.length cr, .slice po t.ords.length co, .slice px t.aucs.length cx] := H3
  replace H2 := pt_keptN H2 hg hn23
  replace OA := OA.kept hg (Or.inr (own_ne_ptN OA H3o (by decide)))
  replace hw := st_hw hw hg hN3
  clear hg hz H3o
  repeat' (first | (refine is_cw ?_; first | (refine cw_seq ?_) | (refine cw_region ?_)) | (refine is_qw ?_; first | (with_reducible refine qw_then ?_)) | (refine lw_nil ?_))
  refine lw_of_act rfl (act_bs0 elemIn hw.size ?_); intro vE wE hvE hb
  replace H2 := H2.mono hb
  replace H3 := H3.mono hb
  replace OA := OA.mono hb
  replace hw := grow_trans hw hb
  clear hb
  repeat' (first | ((refine is_load ?_; first | (refine lw_pure rfl (pv_load (t1 rfl) rfl (by first | exact PT.ld0 (HX.mono hw) rfl | exact PT.ld (HX.mono hw) rfl)) ?_))) | ((refine is_fa ?_; first | (refine lw_pure rfl (pv_fa (tF rfl) rfl) ?_))))
  refine lw_of_act rfl (act_app0 (base := wn.heap.size) elemIn encN_len encN_one rfl hvE rfl (HI.mono hw) rfl hw.size (by omega) (by simp [maxLen]; omega) ?_); intro vI wA OI hb
  replace H2 := H2.mono hb
  replace H3 := H3.mono hb
  replace OA := OA.mono hb
  replace hw := grow_trans hw hb
  clear hb hvE
  obtain ⟨aI, cI, rfl⟩ := own_shapeM (m := t.inss.length) encN_len OI rfl
  repeat' (first | ((refine is_fa ?_; first | (refine lw_pure rfl (pv_fa (tF rfl) rfl) ?_))))
  have H3o := H3
  refine lw_store H3 (tZ rfl) rfl rfl rfl (by simp) ?_; intro wB H3 hg hz
  replace H3 : PT wB N3 30 [.int .i64 t.clock, .int .i64 t.fee, .int .i64 t.nord, .int .i64 t.nauc, .slice aA t.accs.length cA, .slice aI t.inss.length cI, .slice pr t.rows.length cr, .slice po t.ords.length co, .slice px t.aucs.length cx] := H3
  replace H2 := pt_keptN H2 hg hn23
  replace OA := OA.kept hg (Or.inr (own_ne_ptN OA H3o (by decide)))
  replace OI := OI.kept hg (Or.inr (own_ne_ptN OI H3o (by decide)))
  replace hw := st_hw hw hg hN3
  clear hg hz H3o
  repeat' (first | (refine is_cw ?_; first | (refine cw_seq ?_) | (refine cw_region ?_)) | (refine is_qw ?_; first | (with_reducible refine qw_then ?_)) | (refine lw_nil ?_))
  refine lw_of_act rfl (act_bs0 elemR hw.size ?_); intro vE wE hvE hb
  replace H2 := H2.mono hb
  replace H3 := H3.mono hb
  replace OA := OA.mono hb
  replace OI := OI.mono hb
  replace hw := grow_trans hw hb
  clear hb
  repeat' (first | ((refine is_load ?_; first | (refine lw_pure rfl (pv_load (t1 rfl) rfl (by first | exact PT.ld0 (HX.mono hw) rfl | exact PT.ld (HX.mono hw) rfl)) ?_))) | ((refine is_fa ?_; first | (refine lw_pure rfl (pv_fa (tF rfl) rfl) ?_))))
  refine lw_of_act rfl (act_app0 (base := wn.heap.size) elemR encR_len encR_one rfl hvE rfl (HR.mono hw) rfl hw.size (by omega) (by simp [maxLen]; omega) ?_); intro vR wA OR hb
  replace H2 := H2.mono hb
  replace H3 := H3.mono hb
  replace OA := OA.mono hb
  replace OI := OI.mono hb
  replace hw := grow_trans hw hb
  clear hb hvE
  obtain ⟨aR, cR, rfl⟩ := own_shapeM (m := t.rows.length) encR_len OR rfl
  repeat' (first | ((refine is_fa ?_; first | (refine lw_pure rfl (pv_fa (tF rfl) rfl) ?_))))
  have H3o := H3
  refine lw_store H3 (tZ rfl) rfl rfl rfl (by simp) ?_; intro wB H3 hg hz
  replace H3 : PT wB N3 30 [.int .i64 t.clock, .int .i64 t.fee, .int .i64 t.nord, .int .i64 t.nauc, .slice aA t.accs.length cA, .slice aI t.inss.length cI, .slice aR t.rows.length cR, .slice po t.ords.length co, .slice px t.aucs.length cx] := H3
  replace H2 := pt_keptN H2 hg hn23
  replace OA := OA.kept hg (Or.inr (own_ne_ptN OA H3o (by decide)))
  replace OI := OI.kept hg (Or.inr (own_ne_ptN OI H3o (by decide)))
  replace OR := OR.kept hg (Or.inr (own_ne_ptN OR H3o (by decide)))
  replace hw := st_hw hw hg hN3
  clear hg hz H3o
  repeat' (first | (refine is_cw ?_; first | (refine cw_seq ?_) | (refine cw_region ?_)) | (refine is_qw ?_; first | (with_reducible refine qw_then ?_)) | (refine lw_nil ?_))
  refine lw_of_act rfl (act_bs0 elemO hw.size ?_); intro vE wE hvE hb
  replace H2 := H2.mono hb
  replace H3 := H3.mono hb
  replace OA := OA.mono hb
  replace OI := OI.mono hb
  replace OR := OR.mono hb
  replace hw := grow_trans hw hb
  clear hb
  repeat' (first | ((refine is_load ?_; first | (refine lw_pure rfl (pv_load (t1 rfl) rfl (by first | exact PT.ld0 (HX.mono hw) rfl | exact PT.ld (HX.mono hw) rfl)) ?_))) | ((refine is_fa ?_; first | (refine lw_pure rfl (pv_fa (tF rfl) rfl) ?_))))
  refine lw_of_act rfl (act_app0 (base := wn.heap.size) elemO encO_len encO_one rfl hvE rfl (HO.mono hw) rfl hw.size (by omega) (by simp [maxLen]; omega) ?_); intro vO wA OO hb
  replace H2 := H2.mono hb
  replace H3 := H3.mono hb
  replace OA := OA.mono hb
  replace OI := OI.mono hb
  replace OR := OR.mono hb
  replace hw := grow_trans hw hb
  clear hb hvE
  obtain ⟨aO, cO, rfl⟩ := own_shapeM (m := t.ords.length) encO_len OO rfl
  repeat' (first | ((refine is_fa ?_; first | (refine lw_pure rfl (pv_fa (tF rfl) rfl) ?_))))
  have H3o := H3
  refine lw_store H3 (tZ rfl) rfl rfl rfl (by simp) ?_; intro wB H3 hg hz
  replace H3 : PT wB N3 30 [.int .i64 t.clock, .int .i64 t.fee, .int .i64 t.nord, .int .i64 t.nauc, .slice aA t.accs.length cA, .slice aI t.inss.length cI, .slice aR t.rows.length cR, .slice aO t.ords.length cO, .slice px t.aucs.length cx] := H3
  replace H2 := pt_keptN H2 hg hn23
  replace OA := OA.kept hg (Or.inr (own_ne_ptN OA H3o (by decide)))
  replace OI := OI.kept hg (Or.inr (own_ne_ptN OI H3o (by decide)))
  replace OR := OR.kept hg (Or.inr (own_ne_ptN OR H3o (by decide)))
  replace OO := OO.kept hg (Or.inr (own_ne_ptN OO H3o (by decide)))
  replace hw := st_hw hw hg hN3
  clear hg hz H3o
  repeat' (first | (refine is_cw ?_; first | (refine cw_seq ?_) | (refine cw_region ?_)) | (refine is_qw ?_; first | (with_reducible refine qw_then ?_)) | (refine lw_nil ?_))
  refine lw_of_act rfl (act_bs0 elemC hw.size ?_); intro vE wE hvE hb
  replace H2 := H2.mono hb
  replace H3 := H3.mono hb
  replace OA := OA.mono hb
  replace OI := OI.mono hb
  replace OR := OR.mono hb
  replace OO := OO.mono hb
  replace hw := grow_trans hw hb
  clear hb
  repeat' (first | ((refine is_load ?_; first | (refine lw_pure rfl (pv_load (t1 rfl) rfl (by first | exact PT.ld0 (HX.mono hw) rfl | exact PT.ld (HX.mono hw) rfl)) ?_))) | ((refine is_fa ?_; first | (refine lw_pure rfl (pv_fa (tF rfl) rfl) ?_))))
  refine lw_of_act rfl (act_app0 (base := wn.heap.size) elemC encC_len encC_one rfl hvE rfl (HX9.mono hw) hxn.symm hw.size (by omega) (by simp [maxLen]; omega) ?_); intro vX wA OX hb
  replace H2 := H2.mono hb
  replace H3 := H3.mono hb
  replace OA := OA.mono hb
  replace OI := OI.mono hb
  replace OR := OR.mono hb
  replace OO := OO.mono hb
  replace hw := grow_trans hw hb
  clear hb hvE
  obtain ⟨aX, cX, rfl⟩ := own_shapeM (m := t.aucs.length) encC_len OX hxn
  repeat' (first | ((refine is_fa ?_; first | (refine lw_pure rfl (pv_fa (tF rfl) rfl) ?_))))
  have H3o := H3
  refine lw_store H3 (tZ rfl) rfl rfl rfl (by simp) ?_; intro wB H3 hg hz
  replace H3 : PT wB N3 30 [.int .i64 t.clock, .int .i64 t.fee, .int .i64 t.nord, .int .i64 t.nauc, .slice aA t.accs.length cA, .slice aI t.inss.length cI, .slice aR t.rows.length cR, .slice aO t.ords.length cO, .slice aX t.aucs.length cX] := H3
  replace H2 := pt_keptN H2 hg hn23
  replace OA := OA.kept hg (Or.inr (own_ne_ptN OA H3o (by decide)))
  replace OI := OI.kept hg (Or.inr (own_ne_ptN OI H3o (by decide)))
  replace OR := OR.kept hg (Or.inr (own_ne_ptN OR H3o (by decide)))
  replace OO := OO.kept hg (Or.inr (own_ne_ptN OO H3o (by decide)))
  replace OX := OX.kept hg (Or.inr (own_ne_ptN OX H3o (by decide)))
  replace hw := st_hw hw hg hN3
  clear hg hz H3o
  repeat' (first | (refine lw_pure rfl (pv_assign rfl) ?_) | (refine is_cw ?_; first | (refine cw_seq ?_) | (refine cw_region ?_) | (refine cw_block ?_)) | (refine is_qw ?_; first | (with_reducible refine qw_then ?_)) | (refine lw_nil ?_))
  refine cw_loop (σ := Nat × List AucC) (fun q => [(1, .pointer (some ⟨N1, 0, none⟩)), (2, .pointer (some ⟨N2, 0, none⟩)), (3, .pointer (some ⟨N3, 0, none⟩)), (4, .int .i64 (q.1 : Nat))]) (fun q wr => q.1 ≤ t.aucs.length ∧ OwI wn.heap.size N2 N3 wn t aA aI aR aO aX cA cI cR cO cX q.1 q.2 wr) (fun q => t.aucs.length - q.1) (0, xs) (by repeat' (first | exact trivial | refine ⟨rfl, ?_⟩)) ⟨Nat.zero_le _, hw, ⟨_, H2, rfl⟩, H3, OA, OI, OR, OO, OX, hxn, fun j x a hx ha => ⟨(HAs.2 j x a hx ha).h, fun h => absurd h (Nat.not_lt_zero _)⟩⟩ ?_
  clear hw H2 H3 OA OI OR OO OX
  rintro ⟨k, ys⟩ wr ⟨hk, hI⟩
  dsimp only at hk hI
  change CW _ _ _ _ [(1, .pointer (some ⟨N1, 0, none⟩)), (2, .pointer (some ⟨N2, 0, none⟩)), (3, .pointer (some ⟨N3, 0, none⟩)), (4, .int .i64 (k : Nat))] wr
  have hzr := hI.b.size
  have hw := Below.refl wr.heap.size wr
  have H3 := hI.h3
  by_cases hlt : k < t.aucs.length
  · have hak : t.aucs[k]? = some (t.aucs[k]'(by omega)) := List.getElem?_eq_getElem _
    generalize t.aucs[k]'(by omega) = a at hak
    obtain ⟨x, hxk, hR⟩ := HAs.at hak
    have hbl := sumX_mem (List.mem_of_getElem? hak)
    have hyk : ys[k]? = some (ys[k]'(by rw [hI.L]; omega)) := List.getElem?_eq_getElem _
    generalize ys[k]'_ = y at hyk
    have hyh := (hI.B k y a hyk hak).1
    obtain ⟨ab, ao, rfl, -, -⟩ := HX9.at (by intro h; rw [h] at hxn; simp at hxn; omega)
    obtain ⟨g, rfl⟩ := own_some hI.X (by omega)
    obtain ⟨xh, ba, bm, bc⟩ := x
    obtain ⟨hh, hm, HB0⟩ := hR
    simp only at hh hm HB0
    subst hh hm
    have HXr := HX.mono hI.b
    have HX9r := HX9.mono hI.b
    have HB := HB0.mono hI.b
    have OXr := hI.X
    rw [← hI.L] at OXr
    obtain ⟨-, hgb, -⟩ := Own.heap' OXr
    repeat' (first | (refine lw_pure rfl (pv_move rfl) ?_) | (refine is_cw ?_; first | (refine cw_seq ?_) | (refine cw_region ?_) | (refine is_cd ?_; refine cw_true rfl (by first | assumption | exact decide_eq_true (by omega) | exact dec_notT (by omega)) ?_) | (refine cw_skip ?_) | (refine cw_block ?_)) | (refine is_qw ?_; first | (with_reducible refine qw_then ?_)) | (refine lw_nil ?_) | ((refine is_bin ?_; first | (refine lw_pure rfl (pv_lss rfl rfl) ?_))) | ((refine is_load ?_; first | (refine lw_pure rfl (pv_load (t1 rfl) rfl (by first | exact PT.ld0 (H3.mono hw) rfl | exact PT.ld (H3.mono hw) rfl)) ?_))) | ((refine is_fa ?_; first | (refine lw_pure rfl (pv_fa (tF rfl) rfl) ?_))) | ((refine is_bi ?_; first | (refine lw_pure rfl (pv_lenl (tS rfl) rfl) ?_))))
    refine cw_drawnF 13 (fun w' => Below wr.heap.size wr w' ∧ True) (by kernel_rfl) (by repeat (first | exact NoPanic.body | with_reducible refine NoPanic.then ?_ | with_reducible refine NoPanic.inBlock ?_)) (fun hNP => ?_)
    have hU := And.intro hw.drew trivial
    first | (refine fw_take 0 rfl (by kernel_rfl) rfl rfl (by kernel_rfl) (by kernel_rfl) (by kernel_rfl) hNP hU rfl (fun w' hq => pv_fa (tF rfl) rfl) ?_)
    first | (refine fw_take 1 rfl (by kernel_rfl) rfl rfl (by kernel_rfl) (by kernel_rfl) (by kernel_rfl) hNP hU rfl (fun w' hq => pv_load (t1 rfl) rfl (by first | exact PT.ld0 hq.2 rfl | exact PT.ld hq.2 rfl)) ?_) | (refine fw_take 1 rfl (by kernel_rfl) rfl rfl (by kernel_rfl) (by kernel_rfl) (by kernel_rfl) hNP hU rfl (fun w' hq => pv_loada (tA rfl) rfl (by first | exact PT.lda hq.2) (by rfl)) ?_) | (refine fw_take 1 rfl (by kernel_rfl) rfl rfl (by kernel_rfl) (by kernel_rfl) (by kernel_rfl) hNP hU rfl (fun w' hq => pv_load (t1 rfl) rfl (by first | exact PT.ld0 (H3.mono hq.1) rfl | exact PT.ld (H3.mono hq.1) rfl | exact PT.ld0 (HXr.mono hq.1) rfl | exact PT.ld (HXr.mono hq.1) rfl | exact SlR.ld (HX9r.mono hq.1) hxk rfl | exact SlR.ld1 (HX9r.mono hq.1) hxk rfl)) ?_) | (refine fw_take 1 rfl (by kernel_rfl) rfl rfl (by kernel_rfl) (by kernel_rfl) (by kernel_rfl) hNP hU rfl (fun w' hq => pv_loada (tA rfl) rfl (by first | exact PT.lda (H3.mono hq.1) | exact PT.lda (HXr.mono hq.1) | exact SlR.lda (HX9r.mono hq.1) hxk) (by rfl)) ?_)
    first | (refine fw_take 2 rfl (by kernel_rfl) rfl rfl (by kernel_rfl) (by kernel_rfl) (by kernel_rfl) hNP hU rfl (fun w' hq => pv_move rfl) ?_)
    first | (refine fw_take 4 rfl (by kernel_rfl) rfl rfl (by kernel_rfl) (by kernel_rfl) (by kernel_rfl) hNP hU rfl (fun w' hq => pv_fa (tF rfl) rfl) ?_)
    first | (refine fw_take 5 rfl (by kernel_rfl) rfl rfl (by kernel_rfl) (by kernel_rfl) (by kernel_rfl) hNP hU rfl (fun w' hq => pv_load (t1 rfl) rfl (by first | exact PT.ld0 hq.2 rfl | exact PT.ld hq.2 rfl)) ?_) | (refine fw_take 5 rfl (by kernel_rfl) rfl rfl (by kernel_rfl) (by kernel_rfl) (by kernel_rfl) hNP hU rfl (fun w' hq => pv_loada (tA rfl) rfl (by first | exact PT.lda hq.2) (by rfl)) ?_) | (refine fw_take 5 rfl (by kernel_rfl) rfl rfl (by kernel_rfl) (by kernel_rfl) (by kernel_rfl) hNP hU rfl (fun w' hq => pv_load (t1 rfl) rfl (by first | exact PT.ld0 (H3.mono hq.1) rfl | exact PT.ld (H3.mono hq.1) rfl | exact PT.ld0 (HXr.mono hq.1) rfl | exact PT.ld (HXr.mono hq.1) rfl | exact SlR.ld (HX9r.mono hq.1) hxk rfl | exact SlR.ld1 (HX9r.mono hq.1) hxk rfl)) ?_) | (refine fw_take 5 rfl (by kernel_rfl) rfl rfl (by kernel_rfl) (by kernel_rfl) (by kernel_rfl) hNP hU rfl (fun w' hq => pv_loada (tA rfl) rfl (by first | exact PT.lda (H3.mono hq.1) | exact PT.lda (HXr.mono hq.1) | exact SlR.lda (HX9r.mono hq.1) hxk) (by rfl)) ?_)
    first | (refine fw_take 6 rfl (by kernel_rfl) rfl rfl (by kernel_rfl) (by kernel_rfl) (by kernel_rfl) hNP hU rfl (fun w' hq => pv_move rfl) ?_)
    first | (refine fw_take 7 rfl (by kernel_rfl) rfl rfl (by kernel_rfl) (by kernel_rfl) (by kernel_rfl) hNP hU rfl (fun w' hq => pv_ian (tS rfl) rfl rfl (by omega)) ?_) | (refine fw_take 7 rfl (by kernel_rfl) rfl rfl (by kernel_rfl) (by kernel_rfl) (by kernel_rfl) hNP hU rfl (fun w' hq => pv_ia (tS rfl) rfl rfl (by omega)) ?_)
    first | (refine fw_take 8 rfl (by kernel_rfl) rfl rfl (by kernel_rfl) (by kernel_rfl) (by kernel_rfl) hNP hU rfl (fun w' hq => pv_fa (tF rfl) rfl) ?_)
    first | (refine fw_take 9 rfl (by kernel_rfl) rfl rfl (by kernel_rfl) (by kernel_rfl) (by kernel_rfl) hNP hU rfl (fun w' hq => pv_load (t1 rfl) rfl (by first | exact PT.ld0 hq.2 rfl | exact PT.ld hq.2 rfl)) ?_) | (refine fw_take 9 rfl (by kernel_rfl) rfl rfl (by kernel_rfl) (by kernel_rfl) (by kernel_rfl) hNP hU rfl (fun w' hq => pv_loada (tA rfl) rfl (by first | exact PT.lda hq.2) (by rfl)) ?_) | (refine fw_take 9 rfl (by kernel_rfl) rfl rfl (by kernel_rfl) (by kernel_rfl) (by kernel_rfl) hNP hU rfl (fun w' hq => pv_load (t1 rfl) rfl (by first | exact PT.ld0 (H3.mono hq.1) rfl | exact PT.ld (H3.mono hq.1) rfl | exact PT.ld0 (HXr.mono hq.1) rfl | exact PT.ld (HXr.mono hq.1) rfl | exact SlR.ld (HX9r.mono hq.1) hxk rfl | exact SlR.ld1 (HX9r.mono hq.1) hxk rfl)) ?_) | (refine fw_take 9 rfl (by kernel_rfl) rfl rfl (by kernel_rfl) (by kernel_rfl) (by kernel_rfl) hNP hU rfl (fun w' hq => pv_loada (tA rfl) rfl (by first | exact PT.lda (H3.mono hq.1) | exact PT.lda (HXr.mono hq.1) | exact SlR.lda (HX9r.mono hq.1) hxk) (by rfl)) ?_)
    refine fw_act 3 (by kernel_rfl) rfl rfl rfl ?_
    refine act_bs0 (base := wn.heap.size) elemD (Nat.le_trans hzr hU.1.size) ?_; intro vE wb hvE hbb; refine ⟨⟨grow_trans hU.1 hbb, trivial⟩, fun hU => ?_⟩
    refine fw_act 10 (by kernel_rfl) rfl rfl rfl ?_
    refine act_app0 (base := wn.heap.size) elemD encD_len encD_one rfl hvE rfl (HB.mono hU.1) rfl (Nat.le_trans hzr hU.1.size) (by omega) (by simp [maxLen]; omega) ?_; intro vb wb hOb hbb; refine ⟨⟨grow_trans hU.1 hbb, trivial⟩, fun hU => ?_⟩
    first | (refine fw_act 11 (by kernel_rfl) rfl rfl rfl ?_; refine act_pv (pv_ian (tS rfl) rfl rfl (by omega)) ?_; refine ⟨hU, fun hU => ?_⟩) | (refine fw_act 11 (by kernel_rfl) rfl rfl rfl ?_; refine act_pv (pv_ia (tS rfl) rfl rfl (by omega)) ?_; refine ⟨hU, fun hU => ?_⟩)
    first | (refine fw_take 12 rfl (by kernel_rfl) rfl rfl (by kernel_rfl) (by kernel_rfl) (by kernel_rfl) hNP hU rfl (fun w' hq => pv_fa (tF rfl) rfl) ?_)
    refine fw_last (by kernel_rfl) rfl rfl rfl rfl (by kernel_rfl) ?_
    obtain ⟨hw, -⟩ := hU; clear hNP
    obtain ⟨bA, bC, rfl⟩ := own_shape encD_len hOb; refine act_storeF (i := k) (f := 8) (a := y) (u := ⟨y.h, bA, a.bids.length, bC⟩) encC_len (tZ rfl) rfl (by omega) rfl rfl (OXr.mono hw) hyk rfl (by omega) ?_; intro wz OX2 hg hz
    repeat' (first | (refine lw_pure rfl (pv_move rfl) ?_) | (refine lw_pure rfl (pv_assign rfl) ?_) | (refine is_cw ?_; first | (refine cw_region ?_)) | (refine is_qw ?_; first | (with_reducible refine qw_then ?_) | (with_reducible refine qw_in ?_)) | (refine lw_nil ?_) | ((refine is_bin ?_; first | (refine lw_pure rfl (pv_inc rfl rfl (by omega)) ?_))))
    have hbz : Below wn.heap.size wn wz := st_hw (grow_trans hI.b hw) hg hgb
    obtain ⟨c2, h2r, h2l⟩ := hI.h2
    have n3 : N3 ≠ g := fun e => own_ne_ptN OXr hI.h3 (by decide) (by rw [e]; rfl)
    have n2 : N2 ≠ g := fun e => own_ne_ptN OXr h2r (by decide) (by rw [e]; rfl)
    have hx : ∀ {α : Type} {enc : α → List Value} {kk : Nat} {T : TypeId} {v : Value} {l : List α}, Own enc kk T wn.heap.size wr v l → T ≠ 44 → Own enc kk T wn.heap.size wz v l := fun h hT => (h.mono hw).kept hg (own_own_ne h OXr hT)
    refine qw_round (k + 1, ys.set k ⟨y.h, bA, a.bids.length, bC⟩) (by repeat' (first | exact trivial | refine ⟨rfl, ?_⟩)) ⟨by show k + 1 ≤ _; omega, hbz, ⟨c2, pt_keptN (h2r.mono hw) hg n2, h2l⟩, pt_keptN (hI.h3.mono hw) hg n3, hx hI.A (by decide), hx hI.I (by decide), hx hI.R (by decide), hx hI.O (by decide), ?_, ?_, ?_⟩ (by show _ - (k + 1) < _ - k; omega)
    · dsimp only; rw [← hI.L]; exact OX2
    · simp [hI.L]
    · intro j x b hx1 hb1
      dsimp only at hx1 ⊢
      rcases Nat.decEq j k with hjk | hjk
      · rw [List.getElem?_set_ne (Ne.symm hjk)] at hx1
        obtain ⟨q1, q2⟩ := hI.B j x b hx1 hb1
        exact ⟨q1, fun hj => hx (q2 (by omega)) (by decide)⟩
      · subst hjk
        rw [hak] at hb1; injection hb1 with hb1; subst hb1
        rw [List.getElem?_set_self (List.getElem?_eq_some_iff.1 hyk).1] at hx1; injection hx1 with hx1; subst hx1
        exact ⟨hyh, fun _ => hOb.kept hg (own_own_ne hOb (OXr.mono hw) (by decide))⟩
  · have hke : k = t.aucs.length := by omega
    subst hke
    repeat' (first | (refine lw_pure rfl (pv_move rfl) ?_) | (refine is_cw ?_; first | (refine cw_seq ?_) | (refine cw_region ?_) | (refine is_cd ?_; refine cw_false rfl (by first | assumption | exact decide_eq_false (by omega) | exact dec_notF (by omega)) ?_) | (refine cw_exit ?_)) | (refine is_qw ?_; first | (with_reducible refine qw_then ?_) | (with_reducible refine qw_in_hit ?_) | (with_reducible refine qw_then_exit ?_)) | (refine lw_nil ?_) | ((refine is_bin ?_; first | (refine lw_pure rfl (pv_lss rfl rfl) ?_))) | ((refine is_load ?_; first | (refine lw_pure rfl (pv_load (t1 rfl) rfl (by first | exact PT.ld0 (H3.mono hw) rfl | exact PT.ld (H3.mono hw) rfl)) ?_) | (refine lw_pure rfl (pv_loada (tA rfl) rfl (by first | exact PT.lda (H3.mono hw)) (by rfl)) ?_))) | ((refine is_fa ?_; first | (refine lw_pure rfl (pv_fa (tF rfl) rfl) ?_))) | ((refine is_bi ?_; first | (refine lw_pure rfl (pv_lenl (tS rfl) rfl) ?_))))
    obtain ⟨c2, h2r, h2l⟩ := hI.h2
    refine lw_storea (vs := [.int .i64 t.clock, .int .i64 t.fee, .int .i64 t.nord, .int .i64 t.nauc, .slice aA t.accs.length cA, .slice aI t.inss.length cI, .slice aR t.rows.length cR, .slice aO t.ords.length cO, .slice aX t.aucs.length cX]) (h2r.mono hw) (tZ rfl) rfl rfl rfl h2l (by simp [Value.oneCell']) ?_; intro wz HZ hg hz
    repeat' (first | (refine is_cw ?_; first | (refine cw_ret ?_)) | (refine is_qw ?_; first | (with_reducible refine qw_then ?_)) | (refine lw_nil ?_))
    have hq : ∀ {α : Type} {enc : α → List Value} {kk : Nat} {T : TypeId} {v : Value} {l : List α}, Own enc kk T wn.heap.size wr v l → T ≠ 30 → Own enc kk T w.heap.size wz v l := fun h hT => ((h.mono hw).kept hg (Or.inr (own_ne_ptN (h.mono hw) (h2r.mono hw) hT))).weaken hE.le
    refine qw_retc rfl rfl (agg_ld (tA rfl) rfl HZ.lda) ⟨⟨aA, cA, aI, cI, aR, cR, aO, cO, aX, cX, ys, rfl, ⟨⟨rfl, rfl, rfl, rfl⟩, hq hI.A (by decide), hq hI.I (by decide), hq hI.R (by decide), hq hI.O (by decide), hq hI.X (by decide), hI.L, fun j x a hx ha => ?_⟩⟩, grow_trans hE.b (st_hw (grow_trans hI.b hw) hg hN2)⟩
    have hj : j < t.aucs.length := (List.getElem?_eq_some_iff.1 ha).1
    obtain ⟨q1, q2⟩ := hI.B j x a hx ha
    exact ⟨q1, hq (q2 hj) (by decide)⟩

theorem neq_Ac (x y : Acc) (w : World) : (binOp .neq 34 (.agg (encA x).toArray) (.agg (encA y).toArray)).run Tryz.prog w = .ok (.bool (!decide (x = y))) w := by
  have hS : (Tryz.prog).underlying 34 = some (.struct ((Tryz.prog).fieldsOf 34)) := by kernel_rfl
  have hp : (Tryz.prog).stoodInHeld 34 = false := by kernel_rfl
  unfold encA
  rw [run_neq_struct, show (10000 : Nat) = 9999 + 1 from rfl, run_equalIn_agg w 9999 34 _ _ hS hp]
  have h : (decide (x = y)) = (x.name.toList == y.name.toList && x.opn == y.opn) := by
    rw [Bool.eq_iff_iff]
    cases x; cases y; simp [beq_str]
  rw [h]
  simp only [Program.fieldsOf, Tryz.underlying34]
  go_simp
  by_cases h1 : x.name.toList = y.name.toList <;> by_cases h2 : x.opn = y.opn <;> simp [*]
theorem eql_Ac (x y : Acc) (w : World) : (binOp .eql 34 (.agg (encA x).toArray) (.agg (encA y).toArray)).run Tryz.prog w = .ok (.bool (decide (x = y))) w := by
  have hS : (Tryz.prog).underlying 34 = some (.struct ((Tryz.prog).fieldsOf 34)) := by kernel_rfl
  have hp : (Tryz.prog).stoodInHeld 34 = false := by kernel_rfl
  unfold encA
  rw [run_eql_struct, show (10000 : Nat) = 9999 + 1 from rfl, run_equalIn_agg w 9999 34 _ _ hS hp]
  have h : (decide (x = y)) = (x.name.toList == y.name.toList && x.opn == y.opn) := by
    rw [Bool.eq_iff_iff]
    cases x; cases y; simp [beq_str]
  rw [h]
  simp only [Program.fieldsOf, Tryz.underlying34]
  go_simp
  by_cases h1 : x.name.toList = y.name.toList <;> by_cases h2 : x.opn = y.opn <;> simp [*]
theorem pv_neqAc {n : Nat} {l : Fr} {w : World} {d : Option Nat} {t' ty : TypeId} {x y : Operand} {pos : String} {af : Array Edge} {g : Option (Nat × Bool)} (a b : Acc) (hx : ev l x = some (.agg (encA a).toArray)) (hy : ev l y = some (.agg (encA b).toArray)) : Pv Tryz.prog n l ⟨d, .binOp .neq 34 x y t', ty, pos, af, g⟩ (.bool (!decide (a = b))) w := ⟨fun A hA => by
  have h1 : (eqGuard .neq 34 x y (.agg (encA a).toArray) (.agg (encA b).toArray)).run Tryz.prog w = .ok () w := run_eqGuard_agg w .neq 34 x y _ _ (by kernel_rfl)
  have h2 := neq_Ac a b w
  simp [execOp, hA.ev hx, hA.ev hy, h1, h2]⟩
theorem pv_eqlAc {n : Nat} {l : Fr} {w : World} {d : Option Nat} {t' ty : TypeId} {x y : Operand} {pos : String} {af : Array Edge} {g : Option (Nat × Bool)} (a b : Acc) (hx : ev l x = some (.agg (encA a).toArray)) (hy : ev l y = some (.agg (encA b).toArray)) : Pv Tryz.prog n l ⟨d, .binOp .eql 34 x y t', ty, pos, af, g⟩ (.bool (decide (a = b))) w := ⟨fun A hA => by
  have h1 : (eqGuard .eql 34 x y (.agg (encA a).toArray) (.agg (encA b).toArray)).run Tryz.prog w = .ok () w := run_eqGuard_agg w .eql 34 x y _ _ (by kernel_rfl)
  have h2 := eql_Ac a b w
  simp [execOp, hA.ev hx, hA.ev hy, h1, h2]⟩

theorem neq_N (x y : Ins) (w : World) : (binOp .neq 37 (.agg (encN x).toArray) (.agg (encN y).toArray)).run Tryz.prog w = .ok (.bool (!decide (x = y))) w := by
  have hS : (Tryz.prog).underlying 37 = some (.struct ((Tryz.prog).fieldsOf 37)) := by kernel_rfl
  have hp : (Tryz.prog).stoodInHeld 37 = false := by kernel_rfl
  unfold encN
  rw [run_neq_struct, show (10000 : Nat) = 9999 + 1 from rfl, run_equalIn_agg w 9999 37 _ _ hS hp]
  have h : (decide (x = y)) = (x.name.toList == y.name.toList && (x.tick == y.tick && x.halt == y.halt)) := by
    rw [Bool.eq_iff_iff]
    cases x; cases y; simp [beq_str]
  rw [h]
  simp only [Program.fieldsOf, Tryz.underlying37]
  go_simp
  by_cases h1 : x.name.toList = y.name.toList <;> by_cases h2 : x.tick = y.tick <;> by_cases h3 : x.halt = y.halt <;> simp [*]
theorem eql_N (x y : Ins) (w : World) : (binOp .eql 37 (.agg (encN x).toArray) (.agg (encN y).toArray)).run Tryz.prog w = .ok (.bool (decide (x = y))) w := by
  have hS : (Tryz.prog).underlying 37 = some (.struct ((Tryz.prog).fieldsOf 37)) := by kernel_rfl
  have hp : (Tryz.prog).stoodInHeld 37 = false := by kernel_rfl
  unfold encN
  rw [run_eql_struct, show (10000 : Nat) = 9999 + 1 from rfl, run_equalIn_agg w 9999 37 _ _ hS hp]
  have h : (decide (x = y)) = (x.name.toList == y.name.toList && (x.tick == y.tick && x.halt == y.halt)) := by
    rw [Bool.eq_iff_iff]
    cases x; cases y; simp [beq_str]
  rw [h]
  simp only [Program.fieldsOf, Tryz.underlying37]
  go_simp
  by_cases h1 : x.name.toList = y.name.toList <;> by_cases h2 : x.tick = y.tick <;> by_cases h3 : x.halt = y.halt <;> simp [*]
theorem pv_neqN {n : Nat} {l : Fr} {w : World} {d : Option Nat} {t' ty : TypeId} {x y : Operand} {pos : String} {af : Array Edge} {g : Option (Nat × Bool)} (a b : Ins) (hx : ev l x = some (.agg (encN a).toArray)) (hy : ev l y = some (.agg (encN b).toArray)) : Pv Tryz.prog n l ⟨d, .binOp .neq 37 x y t', ty, pos, af, g⟩ (.bool (!decide (a = b))) w := ⟨fun A hA => by
  have h1 : (eqGuard .neq 37 x y (.agg (encN a).toArray) (.agg (encN b).toArray)).run Tryz.prog w = .ok () w := run_eqGuard_agg w .neq 37 x y _ _ (by kernel_rfl)
  have h2 := neq_N a b w
  simp [execOp, hA.ev hx, hA.ev hy, h1, h2]⟩
theorem pv_eqlN {n : Nat} {l : Fr} {w : World} {d : Option Nat} {t' ty : TypeId} {x y : Operand} {pos : String} {af : Array Edge} {g : Option (Nat × Bool)} (a b : Ins) (hx : ev l x = some (.agg (encN a).toArray)) (hy : ev l y = some (.agg (encN b).toArray)) : Pv Tryz.prog n l ⟨d, .binOp .eql 37 x y t', ty, pos, af, g⟩ (.bool (decide (a = b))) w := ⟨fun A hA => by
  have h1 : (eqGuard .eql 37 x y (.agg (encN a).toArray) (.agg (encN b).toArray)).run Tryz.prog w = .ok () w := run_eqGuard_agg w .eql 37 x y _ _ (by kernel_rfl)
  have h2 := eql_N a b w
  simp [execOp, hA.ev hx, hA.ev hy, h1, h2]⟩

theorem neq_D (x y : Bid) (w : World) : (binOp .neq 46 (.agg (encD x).toArray) (.agg (encD y).toArray)).run Tryz.prog w = .ok (.bool (!decide (x = y))) w := by
  have hS : (Tryz.prog).underlying 46 = some (.struct ((Tryz.prog).fieldsOf 46)) := by kernel_rfl
  have hp : (Tryz.prog).stoodInHeld 46 = false := by kernel_rfl
  unfold encD
  rw [run_neq_struct, show (10000 : Nat) = 9999 + 1 from rfl, run_equalIn_agg w 9999 46 _ _ hS hp]
  have h : (decide (x = y)) = (x.acct == y.acct && x.amt == y.amt) := by
    rw [Bool.eq_iff_iff]
    cases x; cases y; simp
  rw [h]
  simp only [Program.fieldsOf, Tryz.underlying46]
  go_simp
  by_cases h1 : x.acct = y.acct <;> by_cases h2 : x.amt = y.amt <;> simp [*]
theorem eql_D (x y : Bid) (w : World) : (binOp .eql 46 (.agg (encD x).toArray) (.agg (encD y).toArray)).run Tryz.prog w = .ok (.bool (decide (x = y))) w := by
  have hS : (Tryz.prog).underlying 46 = some (.struct ((Tryz.prog).fieldsOf 46)) := by kernel_rfl
  have hp : (Tryz.prog).stoodInHeld 46 = false := by kernel_rfl
  unfold encD
  rw [run_eql_struct, show (10000 : Nat) = 9999 + 1 from rfl, run_equalIn_agg w 9999 46 _ _ hS hp]
  have h : (decide (x = y)) = (x.acct == y.acct && x.amt == y.amt) := by
    rw [Bool.eq_iff_iff]
    cases x; cases y; simp
  rw [h]
  simp only [Program.fieldsOf, Tryz.underlying46]
  go_simp
  by_cases h1 : x.acct = y.acct <;> by_cases h2 : x.amt = y.amt <;> simp [*]
theorem pv_neqD {n : Nat} {l : Fr} {w : World} {d : Option Nat} {t' ty : TypeId} {x y : Operand} {pos : String} {af : Array Edge} {g : Option (Nat × Bool)} (a b : Bid) (hx : ev l x = some (.agg (encD a).toArray)) (hy : ev l y = some (.agg (encD b).toArray)) : Pv Tryz.prog n l ⟨d, .binOp .neq 46 x y t', ty, pos, af, g⟩ (.bool (!decide (a = b))) w := ⟨fun A hA => by
  have h1 : (eqGuard .neq 46 x y (.agg (encD a).toArray) (.agg (encD b).toArray)).run Tryz.prog w = .ok () w := run_eqGuard_agg w .neq 46 x y _ _ (by kernel_rfl)
  have h2 := neq_D a b w
  simp [execOp, hA.ev hx, hA.ev hy, h1, h2]⟩
theorem pv_eqlD {n : Nat} {l : Fr} {w : World} {d : Option Nat} {t' ty : TypeId} {x y : Operand} {pos : String} {af : Array Edge} {g : Option (Nat × Bool)} (a b : Bid) (hx : ev l x = some (.agg (encD a).toArray)) (hy : ev l y = some (.agg (encD b).toArray)) : Pv Tryz.prog n l ⟨d, .binOp .eql 46 x y t', ty, pos, af, g⟩ (.bool (decide (a = b))) w := ⟨fun A hA => by
  have h1 : (eqGuard .eql 46 x y (.agg (encD a).toArray) (.agg (encD b).toArray)).run Tryz.prog w = .ok () w := run_eqGuard_agg w .eql 46 x y _ _ (by kernel_rfl)
  have h2 := eql_D a b w
  simp [execOp, hA.ev hx, hA.ev hy, h1, h2]⟩

set_option maxRecDepth 20000 in
theorem equal_Ac {p q : List Acc} {m n : Nat} {a b : Option Addr} {ca cb : Nat} {w : World} (hm : p.length = m) (hn : q.length = n) (HP : SlR encA 2 w a ca p) (HQ : SlR encA 2 w b cb q) : Calls Tryz.prog 45 #[.slice a m ca, .slice b n cb] w fun e w' => e = .returned (.bool (decide (p = q))) ∧ Below w.heap.size w w' := by
  subst hm hn
  have hw := Below.refl w.heap.size w
  have hca := HP.le
  have hcm := HP.max
  refine fn_enter 26 Tryz.func45 rfl rfl rfl ?_
  by_cases hl : p.length = q.length
  · repeat' ((fail_if_success (refine is_seqb ?_)); (fail_if_success (refine is_blk ?_)); first | (refine lw_pure rfl (pv_move rfl) ?_) | (refine lw_pure rfl (pv_assign rfl) ?_) | (refine is_cw ?_; first | (refine cw_seq ?_) | (refine cw_region ?_) | (refine is_cd ?_; refine cw_false rfl (by first | assumption | exact decide_eq_false (by omega) | exact dec_notF (by omega)) ?_) | (refine cw_skip ?_)) | (refine is_qw ?_; first | (with_reducible refine qw_then ?_)) | (refine lw_nil ?_) | ((refine is_bin ?_; first | (refine lw_pure rfl (pv_neq rfl rfl) ?_))) | ((refine is_bi ?_; first | (refine lw_pure rfl (pv_lenl (tS rfl) rfl) ?_))))
    repeat' (first | (refine is_cw ?_; first | (refine cw_block ?_)))
    refine cw_loop (σ := Nat) (fun k => [(0, .slice a p.length ca), (1, .slice b q.length cb), (12, .int .i64 (p.length : Nat)), (13, .int .i64 (k : Nat))]) (fun k wr => k ≤ p.length ∧ Below w.heap.size w wr ∧ ∀ j, j < k → p[j]? = q[j]?) (fun k => p.length - k) 0 (by repeat' (first | exact trivial | refine ⟨rfl, ?_⟩)) ⟨Nat.zero_le _, hw, by omega⟩ ?_
    clear hw
    rintro k wr ⟨hk, hw, hn⟩
    by_cases hlt : k < p.length
    · have hxk : p[k]? = some p[k] := List.getElem?_eq_getElem hlt
      have hyk : q[k]? = some (q[k]'(by omega)) := List.getElem?_eq_getElem _
      obtain ⟨ab, ao, rfl, -, -⟩ := HP.at (by intro h; rw [h] at hlt; simp at hlt)
      obtain ⟨bb, bo, rfl, -, -⟩ := HQ.at (by intro h; rw [h] at hl; rw [hl] at hlt; simp at hlt)
      generalize p[k] = x at hxk
      generalize q[k] = y at hyk
      repeat' (first | (refine lw_pure rfl (pv_move rfl) ?_) | (refine lw_pure rfl (pv_assign rfl) ?_) | (refine is_cw ?_; first | (refine cw_seq ?_) | (refine cw_region ?_) | (refine is_cd ?_; refine cw_true rfl (by first | assumption | exact decide_eq_true (by omega) | exact dec_notT (by omega)) ?_) | (refine cw_skip ?_) | (refine cw_block ?_)) | (refine is_qw ?_; first | (with_reducible refine qw_then ?_)) | (refine lw_nil ?_) | ((refine is_bin ?_; first | (refine lw_pure rfl (pv_lss rfl rfl) ?_))))
      refine cw_drawn (fun w' => Below w.heap.size w w') (by kernel_rfl) (by repeat (first | exact NoPanic.body | with_reducible refine NoPanic.then ?_ | with_reducible refine NoPanic.inBlock ?_)) (fun hNP => ?_)
      have hS := hw.drew
      (refine at0 0 rfl (fun w' hq => pv_move rfl) ?_)
      (refine at0 1 rfl (fun w' hq => pv_move rfl) ?_)
      (refine at0 2 rfl (fun w' hq => pv_ian (tS rfl) rfl rfl (by omega)) ?_)
      (refine at0 3 rfl (fun w' hq => pv_loada (tA rfl) rfl (by first | exact SlR.lda (HP.mono hq) hxk | exact SlR.lda (HQ.mono hq) hyk) (by rfl)) ?_)
      (refine at0 4 rfl (fun w' hq => pv_move rfl) ?_)
      (refine at0 5 rfl (fun w' hq => pv_move rfl) ?_)
      (refine at0 6 rfl (fun w' hq => pv_ian (tS rfl) rfl rfl (by omega)) ?_)
      (refine at0 7 rfl (fun w' hq => pv_loada (tA rfl) rfl (by first | exact SlR.lda (HP.mono hq) hxk | exact SlR.lda (HQ.mono hq) hyk) (by rfl)) ?_)
      (refine at0 8 rfl (fun w' hq => pv_neqAc _ _ rfl rfl) ?_)
      refine aw_done (by kernel_rfl) ?_
      replace hw := hS; clear hS hNP
      by_cases hxy : x = y
      · repeat' (first | (refine lw_pure rfl (pv_move rfl) ?_) | (refine is_cw ?_; first | (refine cw_region ?_) | (refine is_cd ?_; refine cw_false rfl (by first | assumption | exact decide_eq_false (by omega) | exact dec_notF (by omega)) ?_) | (refine cw_skip ?_)) | (refine is_qw ?_; first | (with_reducible refine qw_then ?_) | (with_reducible refine qw_in ?_)) | (refine lw_nil ?_) | ((refine is_bin ?_; first | (refine lw_pure rfl (pv_inc rfl rfl (by omega)) ?_))))
        refine qw_round (k + 1) (by repeat' (first | exact trivial | refine ⟨rfl, ?_⟩)) ⟨by omega, hw, ?_⟩ (by omega)
        intro j hj
        by_cases hjk : j = k
        · subst hjk; rw [hxk, hyk, hxy]
        · exact hn j (by omega)
      · repeat' (first | (refine lw_pure rfl (pv_assign rfl) ?_) | (refine is_cw ?_; first | (refine cw_seq ?_) | (refine cw_region ?_) | (refine is_cd ?_; refine cw_true rfl (by first | assumption | exact decide_eq_true (by omega) | exact dec_notT (by omega)) ?_) | (refine cw_ret ?_)) | (refine is_qw ?_; first | (with_reducible refine qw_then ?_) | (with_reducible refine qw_then_ret ?_) | (with_reducible refine qw_in_ret ?_)) | (refine lw_nil ?_))
        refine qw_ret1 rfl rfl ⟨ret_bool ?_, hw⟩
        symm; rw [decide_eq_false_iff_not]; rintro rfl
        rw [hxk] at hyk; injection hyk with hyk; exact hxy hyk
    · have hkl : k = p.length := by omega
      subst hkl
      have he : p = q := List.ext_getElem? fun j => by
        by_cases hj : j < p.length
        · exact hn j hj
        · rw [List.getElem?_eq_none (by omega), List.getElem?_eq_none (by omega)]
      repeat' (first | (refine lw_pure rfl (pv_assign rfl) ?_) | (refine is_cw ?_; first | (refine cw_seq ?_) | (refine cw_region ?_) | (refine is_cd ?_; refine cw_false rfl (by first | assumption | exact decide_eq_false (by omega) | exact dec_notF (by omega)) ?_) | (refine cw_exit ?_) | (refine cw_ret ?_)) | (refine is_qw ?_; first | (with_reducible refine qw_then ?_) | (with_reducible refine qw_in_hit ?_) | (with_reducible refine qw_then_exit ?_)) | (refine lw_nil ?_) | ((refine is_bin ?_; first | (refine lw_pure rfl (pv_lss rfl rfl) ?_))))
      exact qw_ret1 rfl rfl ⟨ret_bool (by simp [he]), hw⟩
  · repeat' (first | (refine lw_pure rfl (pv_move rfl) ?_) | (refine lw_pure rfl (pv_assign rfl) ?_) | (refine is_cw ?_; first | (refine cw_seq ?_) | (refine cw_region ?_) | (refine is_cd ?_; refine cw_true rfl (by first | assumption | exact decide_eq_true (by omega) | exact dec_notT (by omega)) ?_) | (refine cw_ret ?_)) | (refine is_qw ?_; first | (with_reducible refine qw_then ?_) | (with_reducible refine qw_then_ret ?_)) | (refine lw_nil ?_) | ((refine is_bin ?_; first | (refine lw_pure rfl (pv_neq rfl rfl) ?_))) | ((refine is_bi ?_; first | (refine lw_pure rfl (pv_lenl (tS rfl) rfl) ?_))))
    exact qw_ret1 rfl rfl ⟨ret_bool (by symm; rw [decide_eq_false_iff_not]; rintro rfl; exact hl rfl), hw⟩

set_option maxRecDepth 20000 in
theorem equal_N {p q : List Ins} {m n : Nat} {a b : Option Addr} {ca cb : Nat} {w : World} (hm : p.length = m) (hn : q.length = n) (HP : SlR encN 3 w a ca p) (HQ : SlR encN 3 w b cb q) : Calls Tryz.prog 46 #[.slice a m ca, .slice b n cb] w fun e w' => e = .returned (.bool (decide (p = q))) ∧ Below w.heap.size w w' := by
  subst hm hn
  have hw := Below.refl w.heap.size w
  have hca := HP.le
  have hcm := HP.max
  refine fn_enter 26 Tryz.func46 rfl rfl rfl ?_
  by_cases hl : p.length = q.length
  · repeat' ((fail_if_success (refine is_seqb ?_)); (fail_if_success (refine is_blk ?_)); first | (refine lw_pure rfl (pv_move rfl) ?_) | (refine lw_pure rfl (pv_assign rfl) ?_) | (refine is_cw ?_; first | (refine cw_seq ?_) | (refine cw_region ?_) | (refine is_cd ?_; refine cw_false rfl (by first | assumption | exact decide_eq_false (by omega) | exact dec_notF (by omega)) ?_) | (refine cw_skip ?_)) | (refine is_qw ?_; first | (with_reducible refine qw_then ?_)) | (refine lw_nil ?_) | ((refine is_bin ?_; first | (refine lw_pure rfl (pv_neq rfl rfl) ?_))) | ((refine is_bi ?_; first | (refine lw_pure rfl (pv_lenl (tS rfl) rfl) ?_))))
    repeat' (first | (refine is_cw ?_; first | (refine cw_block ?_)))
    refine cw_loop (σ := Nat) (fun k => [(0, .slice a p.length ca), (1, .slice b q.length cb), (12, .int .i64 (p.length : Nat)), (13, .int .i64 (k : Nat))]) (fun k wr => k ≤ p.length ∧ Below w.heap.size w wr ∧ ∀ j, j < k → p[j]? = q[j]?) (fun k => p.length - k) 0 (by repeat' (first | exact trivial | refine ⟨rfl, ?_⟩)) ⟨Nat.zero_le _, hw, by omega⟩ ?_
    clear hw
    rintro k wr ⟨hk, hw, hn⟩
    by_cases hlt : k < p.length
    · have hxk : p[k]? = some p[k] := List.getElem?_eq_getElem hlt
      have hyk : q[k]? = some (q[k]'(by omega)) := List.getElem?_eq_getElem _
      obtain ⟨ab, ao, rfl, -, -⟩ := HP.at (by intro h; rw [h] at hlt; simp at hlt)
      obtain ⟨bb, bo, rfl, -, -⟩ := HQ.at (by intro h; rw [h] at hl; rw [hl] at hlt; simp at hlt)
      generalize p[k] = x at hxk
      generalize q[k] = y at hyk
      repeat' (first | (refine lw_pure rfl (pv_move rfl) ?_) | (refine lw_pure rfl (pv_assign rfl) ?_) | (refine is_cw ?_; first | (refine cw_seq ?_) | (refine cw_region ?_) | (refine is_cd ?_; refine cw_true rfl (by first | assumption | exact decide_eq_true (by omega) | exact dec_notT (by omega)) ?_) | (refine cw_skip ?_) | (refine cw_block ?_)) | (refine is_qw ?_; first | (with_reducible refine qw_then ?_)) | (refine lw_nil ?_) | ((refine is_bin ?_; first | (refine lw_pure rfl (pv_lss rfl rfl) ?_))))
      refine cw_drawn (fun w' => Below w.heap.size w w') (by kernel_rfl) (by repeat (first | exact NoPanic.body | with_reducible refine NoPanic.then ?_ | with_reducible refine NoPanic.inBlock ?_)) (fun hNP => ?_)
      have hS := hw.drew
      (refine at0 0 rfl (fun w' hq => pv_move rfl) ?_)
      (refine at0 1 rfl (fun w' hq => pv_move rfl) ?_)
      (refine at0 2 rfl (fun w' hq => pv_ian (tS rfl) rfl rfl (by omega)) ?_)
      (refine at0 3 rfl (fun w' hq => pv_loada (tA rfl) rfl (by first | exact SlR.lda (HP.mono hq) hxk | exact SlR.lda (HQ.mono hq) hyk) (by rfl)) ?_)
      (refine at0 4 rfl (fun w' hq => pv_move rfl) ?_)
      (refine at0 5 rfl (fun w' hq => pv_move rfl) ?_)
      (refine at0 6 rfl (fun w' hq => pv_ian (tS rfl) rfl rfl (by omega)) ?_)
      (refine at0 7 rfl (fun w' hq => pv_loada (tA rfl) rfl (by first | exact SlR.lda (HP.mono hq) hxk | exact SlR.lda (HQ.mono hq) hyk) (by rfl)) ?_)
      (refine at0 8 rfl (fun w' hq => pv_neqN _ _ rfl rfl) ?_)
      refine aw_done (by kernel_rfl) ?_
      replace hw := hS; clear hS hNP
      by_cases hxy : x = y
      · repeat' (first | (refine lw_pure rfl (pv_move rfl) ?_) | (refine is_cw ?_; first | (refine cw_region ?_) | (refine is_cd ?_; refine cw_false rfl (by first | assumption | exact decide_eq_false (by omega) | exact dec_notF (by omega)) ?_) | (refine cw_skip ?_)) | (refine is_qw ?_; first | (with_reducible refine qw_then ?_) | (with_reducible refine qw_in ?_)) | (refine lw_nil ?_) | ((refine is_bin ?_; first | (refine lw_pure rfl (pv_inc rfl rfl (by omega)) ?_))))
        refine qw_round (k + 1) (by repeat' (first | exact trivial | refine ⟨rfl, ?_⟩)) ⟨by omega, hw, ?_⟩ (by omega)
        intro j hj
        by_cases hjk : j = k
        · subst hjk; rw [hxk, hyk, hxy]
        · exact hn j (by omega)
      · repeat' (first | (refine lw_pure rfl (pv_assign rfl) ?_) | (refine is_cw ?_; first | (refine cw_seq ?_) | (refine cw_region ?_) | (refine is_cd ?_; refine cw_true rfl (by first | assumption | exact decide_eq_true (by omega) | exact dec_notT (by omega)) ?_) | (refine cw_ret ?_)) | (refine is_qw ?_; first | (with_reducible refine qw_then ?_) | (with_reducible refine qw_then_ret ?_) | (with_reducible refine qw_in_ret ?_)) | (refine lw_nil ?_))
        refine qw_ret1 rfl rfl ⟨ret_bool ?_, hw⟩
        symm; rw [decide_eq_false_iff_not]; rintro rfl
        rw [hxk] at hyk; injection hyk with hyk; exact hxy hyk
    · have hkl : k = p.length := by omega
      subst hkl
      have he : p = q := List.ext_getElem? fun j => by
        by_cases hj : j < p.length
        · exact hn j hj
        · rw [List.getElem?_eq_none (by omega), List.getElem?_eq_none (by omega)]
      repeat' (first | (refine lw_pure rfl (pv_assign rfl) ?_) | (refine is_cw ?_; first | (refine cw_seq ?_) | (refine cw_region ?_) | (refine is_cd ?_; refine cw_false rfl (by first | assumption | exact decide_eq_false (by omega) | exact dec_notF (by omega)) ?_) | (refine cw_exit ?_) | (refine cw_ret ?_)) | (refine is_qw ?_; first | (with_reducible refine qw_then ?_) | (with_reducible refine qw_in_hit ?_) | (with_reducible refine qw_then_exit ?_)) | (refine lw_nil ?_) | ((refine is_bin ?_; first | (refine lw_pure rfl (pv_lss rfl rfl) ?_))))
      exact qw_ret1 rfl rfl ⟨ret_bool (by simp [he]), hw⟩
  · repeat' (first | (refine lw_pure rfl (pv_move rfl) ?_) | (refine lw_pure rfl (pv_assign rfl) ?_) | (refine is_cw ?_; first | (refine cw_seq ?_) | (refine cw_region ?_) | (refine is_cd ?_; refine cw_true rfl (by first | assumption | exact decide_eq_true (by omega) | exact dec_notT (by omega)) ?_) | (refine cw_ret ?_)) | (refine is_qw ?_; first | (with_reducible refine qw_then ?_) | (with_reducible refine qw_then_ret ?_)) | (refine lw_nil ?_) | ((refine is_bin ?_; first | (refine lw_pure rfl (pv_neq rfl rfl) ?_))) | ((refine is_bi ?_; first | (refine lw_pure rfl (pv_lenl (tS rfl) rfl) ?_))))
    exact qw_ret1 rfl rfl ⟨ret_bool (by symm; rw [decide_eq_false_iff_not]; rintro rfl; exact hl rfl), hw⟩

set_option maxRecDepth 20000 in
theorem equal_O {p q : List Ord} {m n : Nat} {a b : Option Addr} {ca cb : Nat} {w : World} (hm : p.length = m) (hn : q.length = n) (HP : SlR encO 6 w a ca p) (HQ : SlR encO 6 w b cb q) : Calls Tryz.prog 48 #[.slice a m ca, .slice b n cb] w fun e w' => e = .returned (.bool (decide (p = q))) ∧ Below w.heap.size w w' := by
  subst hm hn
  have hw := Below.refl w.heap.size w
  have hca := HP.le
  have hcm := HP.max
  refine fn_enter 26 Tryz.func48 rfl rfl rfl ?_
  by_cases hl : p.length = q.length
  · repeat' ((fail_if_success (refine is_seqb ?_)); (fail_if_success (refine is_blk ?_)); first | (refine lw_pure rfl (pv_move rfl) ?_) | (refine lw_pure rfl (pv_assign rfl) ?_) | (refine is_cw ?_; first | (refine cw_seq ?_) | (refine cw_region ?_) | (refine is_cd ?_; refine cw_false rfl (by first | assumption | exact decide_eq_false (by omega) | exact dec_notF (by omega)) ?_) | (refine cw_skip ?_)) | (refine is_qw ?_; first | (with_reducible refine qw_then ?_)) | (refine lw_nil ?_) | ((refine is_bin ?_; first | (refine lw_pure rfl (pv_neq rfl rfl) ?_))) | ((refine is_bi ?_; first | (refine lw_pure rfl (pv_lenl (tS rfl) rfl) ?_))))
    repeat' (first | (refine is_cw ?_; first | (refine cw_block ?_)))
    refine cw_loop (σ := Nat) (fun k => [(0, .slice a p.length ca), (1, .slice b q.length cb), (12, .int .i64 (p.length : Nat)), (13, .int .i64 (k : Nat))]) (fun k wr => k ≤ p.length ∧ Below w.heap.size w wr ∧ ∀ j, j < k → p[j]? = q[j]?) (fun k => p.length - k) 0 (by repeat' (first | exact trivial | refine ⟨rfl, ?_⟩)) ⟨Nat.zero_le _, hw, by omega⟩ ?_
    clear hw
    rintro k wr ⟨hk, hw, hn⟩
    by_cases hlt : k < p.length
    · have hxk : p[k]? = some p[k] := List.getElem?_eq_getElem hlt
      have hyk : q[k]? = some (q[k]'(by omega)) := List.getElem?_eq_getElem _
      obtain ⟨ab, ao, rfl, -, -⟩ := HP.at (by intro h; rw [h] at hlt; simp at hlt)
      obtain ⟨bb, bo, rfl, -, -⟩ := HQ.at (by intro h; rw [h] at hl; rw [hl] at hlt; simp at hlt)
      generalize p[k] = x at hxk
      generalize q[k] = y at hyk
      repeat' (first | (refine lw_pure rfl (pv_move rfl) ?_) | (refine lw_pure rfl (pv_assign rfl) ?_) | (refine is_cw ?_; first | (refine cw_seq ?_) | (refine cw_region ?_) | (refine is_cd ?_; refine cw_true rfl (by first | assumption | exact decide_eq_true (by omega) | exact dec_notT (by omega)) ?_) | (refine cw_skip ?_) | (refine cw_block ?_)) | (refine is_qw ?_; first | (with_reducible refine qw_then ?_)) | (refine lw_nil ?_) | ((refine is_bin ?_; first | (refine lw_pure rfl (pv_lss rfl rfl) ?_))))
      refine cw_drawn (fun w' => Below w.heap.size w w') (by kernel_rfl) (by repeat (first | exact NoPanic.body | with_reducible refine NoPanic.then ?_ | with_reducible refine NoPanic.inBlock ?_)) (fun hNP => ?_)
      have hS := hw.drew
      (refine at0 0 rfl (fun w' hq => pv_move rfl) ?_)
      (refine at0 1 rfl (fun w' hq => pv_move rfl) ?_)
      (refine at0 2 rfl (fun w' hq => pv_ian (tS rfl) rfl rfl (by omega)) ?_)
      (refine at0 3 rfl (fun w' hq => pv_loada (tA rfl) rfl (by first | exact SlR.lda (HP.mono hq) hxk | exact SlR.lda (HQ.mono hq) hyk) (by rfl)) ?_)
      (refine at0 4 rfl (fun w' hq => pv_move rfl) ?_)
      (refine at0 5 rfl (fun w' hq => pv_move rfl) ?_)
      (refine at0 6 rfl (fun w' hq => pv_ian (tS rfl) rfl rfl (by omega)) ?_)
      (refine at0 7 rfl (fun w' hq => pv_loada (tA rfl) rfl (by first | exact SlR.lda (HP.mono hq) hxk | exact SlR.lda (HQ.mono hq) hyk) (by rfl)) ?_)
      (refine at0 8 rfl (fun w' hq => pv_neqO _ _ rfl rfl) ?_)
      refine aw_done (by kernel_rfl) ?_
      replace hw := hS; clear hS hNP
      by_cases hxy : x = y
      · repeat' (first | (refine lw_pure rfl (pv_move rfl) ?_) | (refine is_cw ?_; first | (refine cw_region ?_) | (refine is_cd ?_; refine cw_false rfl (by first | assumption | exact decide_eq_false (by omega) | exact dec_notF (by omega)) ?_) | (refine cw_skip ?_)) | (refine is_qw ?_; first | (with_reducible refine qw_then ?_) | (with_reducible refine qw_in ?_)) | (refine lw_nil ?_) | ((refine is_bin ?_; first | (refine lw_pure rfl (pv_inc rfl rfl (by omega)) ?_))))
        refine qw_round (k + 1) (by repeat' (first | exact trivial | refine ⟨rfl, ?_⟩)) ⟨by omega, hw, ?_⟩ (by omega)
        intro j hj
        by_cases hjk : j = k
        · subst hjk; rw [hxk, hyk, hxy]
        · exact hn j (by omega)
      · repeat' (first | (refine lw_pure rfl (pv_assign rfl) ?_) | (refine is_cw ?_; first | (refine cw_seq ?_) | (refine cw_region ?_) | (refine is_cd ?_; refine cw_true rfl (by first | assumption | exact decide_eq_true (by omega) | exact dec_notT (by omega)) ?_) | (refine cw_ret ?_)) | (refine is_qw ?_; first | (with_reducible refine qw_then ?_) | (with_reducible refine qw_then_ret ?_) | (with_reducible refine qw_in_ret ?_)) | (refine lw_nil ?_))
        refine qw_ret1 rfl rfl ⟨ret_bool ?_, hw⟩
        symm; rw [decide_eq_false_iff_not]; rintro rfl
        rw [hxk] at hyk; injection hyk with hyk; exact hxy hyk
    · have hkl : k = p.length := by omega
      subst hkl
      have he : p = q := List.ext_getElem? fun j => by
        by_cases hj : j < p.length
        · exact hn j hj
        · rw [List.getElem?_eq_none (by omega), List.getElem?_eq_none (by omega)]
      repeat' (first | (refine lw_pure rfl (pv_assign rfl) ?_) | (refine is_cw ?_; first | (refine cw_seq ?_) | (refine cw_region ?_) | (refine is_cd ?_; refine cw_false rfl (by first | assumption | exact decide_eq_false (by omega) | exact dec_notF (by omega)) ?_) | (refine cw_exit ?_) | (refine cw_ret ?_)) | (refine is_qw ?_; first | (with_reducible refine qw_then ?_) | (with_reducible refine qw_in_hit ?_) | (with_reducible refine qw_then_exit ?_)) | (refine lw_nil ?_) | ((refine is_bin ?_; first | (refine lw_pure rfl (pv_lss rfl rfl) ?_))))
      exact qw_ret1 rfl rfl ⟨ret_bool (by simp [he]), hw⟩
  · repeat' (first | (refine lw_pure rfl (pv_move rfl) ?_) | (refine lw_pure rfl (pv_assign rfl) ?_) | (refine is_cw ?_; first | (refine cw_seq ?_) | (refine cw_region ?_) | (refine is_cd ?_; refine cw_true rfl (by first | assumption | exact decide_eq_true (by omega) | exact dec_notT (by omega)) ?_) | (refine cw_ret ?_)) | (refine is_qw ?_; first | (with_reducible refine qw_then ?_) | (with_reducible refine qw_then_ret ?_)) | (refine lw_nil ?_) | ((refine is_bin ?_; first | (refine lw_pure rfl (pv_neq rfl rfl) ?_))) | ((refine is_bi ?_; first | (refine lw_pure rfl (pv_lenl (tS rfl) rfl) ?_))))
    exact qw_ret1 rfl rfl ⟨ret_bool (by symm; rw [decide_eq_false_iff_not]; rintro rfl; exact hl rfl), hw⟩

set_option maxRecDepth 20000 in
theorem equal_D {p q : List Bid} {m n : Nat} {a b : Option Addr} {ca cb : Nat} {w : World} (hm : p.length = m) (hn : q.length = n) (HP : SlR encD 2 w a ca p) (HQ : SlR encD 2 w b cb q) : Calls Tryz.prog 80 #[.slice a m ca, .slice b n cb] w fun e w' => e = .returned (.bool (decide (p = q))) ∧ Below w.heap.size w w' := by
  subst hm hn
  have hw := Below.refl w.heap.size w
  have hca := HP.le
  have hcm := HP.max
  refine fn_enter 26 Tryz.func80 rfl rfl rfl ?_
  by_cases hl : p.length = q.length
  · repeat' ((fail_if_success (refine is_seqb ?_)); (fail_if_success (refine is_blk ?_)); first | (refine lw_pure rfl (pv_move rfl) ?_) | (refine lw_pure rfl (pv_assign rfl) ?_) | (refine is_cw ?_; first | (refine cw_seq ?_) | (refine cw_region ?_) | (refine is_cd ?_; refine cw_false rfl (by first | assumption | exact decide_eq_false (by omega) | exact dec_notF (by omega)) ?_) | (refine cw_skip ?_)) | (refine is_qw ?_; first | (with_reducible refine qw_then ?_)) | (refine lw_nil ?_) | ((refine is_bin ?_; first | (refine lw_pure rfl (pv_neq rfl rfl) ?_))) | ((refine is_bi ?_; first | (refine lw_pure rfl (pv_lenl (tS rfl) rfl) ?_))))
    repeat' (first | (refine is_cw ?_; first | (refine cw_block ?_)))
    refine cw_loop (σ := Nat) (fun k => [(0, .slice a p.length ca), (1, .slice b q.length cb), (12, .int .i64 (p.length : Nat)), (13, .int .i64 (k : Nat))]) (fun k wr => k ≤ p.length ∧ Below w.heap.size w wr ∧ ∀ j, j < k → p[j]? = q[j]?) (fun k => p.length - k) 0 (by repeat' (first | exact trivial | refine ⟨rfl, ?_⟩)) ⟨Nat.zero_le _, hw, by omega⟩ ?_
    clear hw
    rintro k wr ⟨hk, hw, hn⟩
    by_cases hlt : k < p.length
    · have hxk : p[k]? = some p[k] := List.getElem?_eq_getElem hlt
      have hyk : q[k]? = some (q[k]'(by omega)) := List.getElem?_eq_getElem _
      obtain ⟨ab, ao, rfl, -, -⟩ := HP.at (by intro h; rw [h] at hlt; simp at hlt)
      obtain ⟨bb, bo, rfl, -, -⟩ := HQ.at (by intro h; rw [h] at hl; rw [hl] at hlt; simp at hlt)
      generalize p[k] = x at hxk
      generalize q[k] = y at hyk
      repeat' (first | (refine lw_pure rfl (pv_move rfl) ?_) | (refine lw_pure rfl (pv_assign rfl) ?_) | (refine is_cw ?_; first | (refine cw_seq ?_) | (refine cw_region ?_) | (refine is_cd ?_; refine cw_true rfl (by first | assumption | exact decide_eq_true (by omega) | exact dec_notT (by omega)) ?_) | (refine cw_skip ?_) | (refine cw_block ?_)) | (refine is_qw ?_; first | (with_reducible refine qw_then ?_)) | (refine lw_nil ?_) | ((refine is_bin ?_; first | (refine lw_pure rfl (pv_lss rfl rfl) ?_))))
      refine cw_drawn (fun w' => Below w.heap.size w w') (by kernel_rfl) (by repeat (first | exact NoPanic.body | with_reducible refine NoPanic.then ?_ | with_reducible refine NoPanic.inBlock ?_)) (fun hNP => ?_)
      have hS := hw.drew
      (refine at0 0 rfl (fun w' hq => pv_move rfl) ?_)
      (refine at0 1 rfl (fun w' hq => pv_move rfl) ?_)
      (refine at0 2 rfl (fun w' hq => pv_ian (tS rfl) rfl rfl (by omega)) ?_)
      (refine at0 3 rfl (fun w' hq => pv_loada (tA rfl) rfl (by first | exact SlR.lda (HP.mono hq) hxk | exact SlR.lda (HQ.mono hq) hyk) (by rfl)) ?_)
      (refine at0 4 rfl (fun w' hq => pv_move rfl) ?_)
      (refine at0 5 rfl (fun w' hq => pv_move rfl) ?_)
      (refine at0 6 rfl (fun w' hq => pv_ian (tS rfl) rfl rfl (by omega)) ?_)
      (refine at0 7 rfl (fun w' hq => pv_loada (tA rfl) rfl (by first | exact SlR.lda (HP.mono hq) hxk | exact SlR.lda (HQ.mono hq) hyk) (by rfl)) ?_)
      (refine at0 8 rfl (fun w' hq => pv_neqD _ _ rfl rfl) ?_)
      refine aw_done (by kernel_rfl) ?_
      replace hw := hS; clear hS hNP
      by_cases hxy : x = y
      · repeat' (first | (refine lw_pure rfl (pv_move rfl) ?_) | (refine is_cw ?_; first | (refine cw_region ?_) | (refine is_cd ?_; refine cw_false rfl (by first | assumption | exact decide_eq_false (by omega) | exact dec_notF (by omega)) ?_) | (refine cw_skip ?_)) | (refine is_qw ?_; first | (with_reducible refine qw_then ?_) | (with_reducible refine qw_in ?_)) | (refine lw_nil ?_) | ((refine is_bin ?_; first | (refine lw_pure rfl (pv_inc rfl rfl (by omega)) ?_))))
        refine qw_round (k + 1) (by repeat' (first | exact trivial | refine ⟨rfl, ?_⟩)) ⟨by omega, hw, ?_⟩ (by omega)
        intro j hj
        by_cases hjk : j = k
        · subst hjk; rw [hxk, hyk, hxy]
        · exact hn j (by omega)
      · repeat' (first | (refine lw_pure rfl (pv_assign rfl) ?_) | (refine is_cw ?_; first | (refine cw_seq ?_) | (refine cw_region ?_) | (refine is_cd ?_; refine cw_true rfl (by first | assumption | exact decide_eq_true (by omega) | exact dec_notT (by omega)) ?_) | (refine cw_ret ?_)) | (refine is_qw ?_; first | (with_reducible refine qw_then ?_) | (with_reducible refine qw_then_ret ?_) | (with_reducible refine qw_in_ret ?_)) | (refine lw_nil ?_))
        refine qw_ret1 rfl rfl ⟨ret_bool ?_, hw⟩
        symm; rw [decide_eq_false_iff_not]; rintro rfl
        rw [hxk] at hyk; injection hyk with hyk; exact hxy hyk
    · have hkl : k = p.length := by omega
      subst hkl
      have he : p = q := List.ext_getElem? fun j => by
        by_cases hj : j < p.length
        · exact hn j hj
        · rw [List.getElem?_eq_none (by omega), List.getElem?_eq_none (by omega)]
      repeat' (first | (refine lw_pure rfl (pv_assign rfl) ?_) | (refine is_cw ?_; first | (refine cw_seq ?_) | (refine cw_region ?_) | (refine is_cd ?_; refine cw_false rfl (by first | assumption | exact decide_eq_false (by omega) | exact dec_notF (by omega)) ?_) | (refine cw_exit ?_) | (refine cw_ret ?_)) | (refine is_qw ?_; first | (with_reducible refine qw_then ?_) | (with_reducible refine qw_in_hit ?_) | (with_reducible refine qw_then_exit ?_)) | (refine lw_nil ?_) | ((refine is_bin ?_; first | (refine lw_pure rfl (pv_lss rfl rfl) ?_))))
      exact qw_ret1 rfl rfl ⟨ret_bool (by simp [he]), hw⟩
  · repeat' (first | (refine lw_pure rfl (pv_move rfl) ?_) | (refine lw_pure rfl (pv_assign rfl) ?_) | (refine is_cw ?_; first | (refine cw_seq ?_) | (refine cw_region ?_) | (refine is_cd ?_; refine cw_true rfl (by first | assumption | exact decide_eq_true (by omega) | exact dec_notT (by omega)) ?_) | (refine cw_ret ?_)) | (refine is_qw ?_; first | (with_reducible refine qw_then ?_) | (with_reducible refine qw_then_ret ?_)) | (refine lw_nil ?_) | ((refine is_bin ?_; first | (refine lw_pure rfl (pv_neq rfl rfl) ?_))) | ((refine is_bi ?_; first | (refine lw_pure rfl (pv_lenl (tS rfl) rfl) ?_))))
    exact qw_ret1 rfl rfl ⟨ret_bool (by symm; rw [decide_eq_false_iff_not]; rintro rfl; exact hl rfl), hw⟩


set_option maxRecDepth 20000 in
set_option maxHeartbeats 4000000 in
theorem asame_c {x y : AucC} {a b : Auc} {w : World} (hx : AuR w x a) (hy : AuR w y b) : Calls Tryz.prog 50 #[.agg (encC x).toArray, .agg (encC y).toArray] w fun e w' => e = .returned (.bool (decide (a = b))) ∧ Below w.heap.size w w' := by
  have hE := Ext.refl w
  have hw := Below.refl w.heap.size w
  obtain ⟨⟨x1, x2, x3, x4, x5, x6, x7, x8⟩, xa, xm, xc⟩ := x; obtain ⟨xh, xs⟩ := a; obtain ⟨e, hm, HA⟩ := hx; simp only at e hm HA; subst e hm; obtain ⟨⟨y1, y2, y3, y4, y5, y6, y7, y8⟩, ya, ym, yc⟩ := y; obtain ⟨yh, ys⟩ := b; obtain ⟨e, hm, HB⟩ := hy; simp only at e hm HB; subst e hm
  refine fn_enter 66 Tryz.func50 rfl rfl rfl ?_
  repeat' (first | (refine is_cw ?_; first | (refine cw_seq ?_) | (refine cw_region ?_)))
  refine lw_boxN rfl rfl (cs := [.int .i64 x1, .int .i64 x2, .int .i64 x3, .bool x4, .int .i64 x5, .int .i64 x6, .int .i64 x7, .int .i64 x8, .slice xa xs.length xc]) rfl ?_; intro N2 wn hN2 HX hb; replace hN2 := Nat.le_trans hw.size hN2; replace hw := grow_trans hw hb; clear hb
  replace hE := hE.mono hw; replace HA := HA.mono hw; replace HB := HB.mono hw; clear hw; have hw := Below.refl wn.heap.size wn
  skip
  refine lw_boxN rfl rfl (cs := [.int .i64 y1, .int .i64 y2, .int .i64 y3, .bool y4, .int .i64 y5, .int .i64 y6, .int .i64 y7, .int .i64 y8, .slice ya ys.length yc]) rfl ?_; intro N3 wn hN3 HY hb; replace hN3 := Nat.le_trans hw.size hN3; replace hw := grow_trans hw hb; clear hb
  replace hE := hE.mono hw; replace HA := HA.mono hw; replace HB := HB.mono hw; replace HX := HX.mono hw; clear hw; have hw := Below.refl wn.heap.size wn
  repeat' (first | (refine lw_pure rfl (pv_move rfl) ?_) | (refine lw_pure rfl (pv_assign rfl) ?_) | (refine lw_call (f := 80) (by kernel_rfl) rfl rfl (equal_D rfl rfl (HA.mono hw) (HB.mono hw)) ?_; rintro e w1 ⟨rfl, hb⟩; refine ⟨_, rfl, ?_⟩; replace hw := grow_trans hw hb; clear hb) | (refine is_cw ?_; first | (refine cw_seq ?_) | (refine cw_region ?_) | (refine cw_ret ?_)) | (refine is_qw ?_; first | (with_reducible refine qw_then ?_)) | (refine lw_nil ?_) | (refine is_guarded ?_; first | (refine lw_not rfl rfl rfl rfl ?_) | (refine lw_on rfl rfl (by first | assumption | exact decide_eq_true (by omega) | exact decide_eq_false (by omega) | exact dec_notT (by omega) | exact dec_notF (by omega)) ?_) | (refine lw_not rfl rfl rfl (by first | assumption | exact decide_eq_true (by omega) | exact decide_eq_false (by omega) | exact dec_notT (by omega) | exact dec_notF (by omega)) ?_) | (refine lw_gs_t rfl rfl rfl (fun hc => ?_) (fun hc => ?_) <;> (first | replace hc := of_decide_eq_true hc | replace hc := of_decide_eq_false hc | replace hc := dec_nT hc | replace hc := dec_nF hc | skip) <;> (try (exfalso; omega)))) | ((refine is_bin ?_; first | (refine lw_pure rfl (pv_eql rfl rfl) ?_) | (refine lw_pure rfl (pv_beql (tBo rfl) rfl rfl) ?_))) | ((refine is_load ?_; first | (refine lw_pure rfl (pv_load (t1 rfl) rfl (by first | exact PT.ld0 (HX.mono hw) rfl | exact PT.ld (HX.mono hw) rfl | exact PT.ld0 (HY.mono hw) rfl | exact PT.ld (HY.mono hw) rfl)) ?_))) | ((refine is_fa ?_; first | (refine lw_pure rfl (pv_fa (tF rfl) rfl) ?_))) | (refine is_pk ?_; refine lw_pure rfl (pv_pick_f rfl rfl rfl) ?_) | (refine is_pk ?_; refine lw_pure rfl (pv_pick_t rfl (by first | assumption | exact decide_eq_true (by omega) | exact dec_notT (by omega)) rfl) ?_) | (refine is_pk ?_; refine lw_pure rfl (pv_pick_f rfl (by first | assumption | exact decide_eq_false (by omega) | exact dec_notF (by omega)) rfl) ?_))
  all_goals
    refine qw_ret1 rfl rfl ⟨ret_bool ?_, (hE.mono hw).b⟩
    simp [*]
set_option maxRecDepth 20000 in
set_option maxHeartbeats 4000000 in
theorem rasame_c {x y : AucC} {a b : Auc} {w : World} (hx : AuR w x a) (hy : AuR w y b) : Calls Tryz.prog 53 #[.agg (encC x).toArray, .agg (encC y).toArray] w fun e w' => e = .returned (.bool (decide (a = b))) ∧ Below w.heap.size w w' := by
  have hE := Ext.refl w
  have hw := Below.refl w.heap.size w
  obtain ⟨⟨x1, x2, x3, x4, x5, x6, x7, x8⟩, xa, xm, xc⟩ := x; obtain ⟨xh, xs⟩ := a; obtain ⟨e, hm, HA⟩ := hx; simp only at e hm HA; subst e hm; obtain ⟨⟨y1, y2, y3, y4, y5, y6, y7, y8⟩, ya, ym, yc⟩ := y; obtain ⟨yh, ys⟩ := b; obtain ⟨e, hm, HB⟩ := hy; simp only at e hm HB; subst e hm
  have hca := HA.le
  have hcm := HA.max
  refine fn_enter 87 Tryz.func53 rfl rfl rfl ?_
  repeat' (first | (refine is_cw ?_; first | (refine cw_seq ?_) | (refine cw_region ?_)))
  refine lw_boxN rfl rfl (cs := [.int .i64 x1, .int .i64 x2, .int .i64 x3, .bool x4, .int .i64 x5, .int .i64 x6, .int .i64 x7, .int .i64 x8, .slice xa xs.length xc]) rfl ?_; intro N2 wn hN2 HX hb; replace hN2 := Nat.le_trans hw.size hN2; replace hw := grow_trans hw hb; clear hb
  replace hE := hE.mono hw; replace HA := HA.mono hw; replace HB := HB.mono hw; clear hw; have hw := Below.refl wn.heap.size wn
  skip
  refine lw_boxN rfl rfl (cs := [.int .i64 y1, .int .i64 y2, .int .i64 y3, .bool y4, .int .i64 y5, .int .i64 y6, .int .i64 y7, .int .i64 y8, .slice ya ys.length yc]) rfl ?_; intro N3 wn hN3 HY hb; replace hN3 := Nat.le_trans hw.size hN3; replace hw := grow_trans hw hb; clear hb
  replace hE := hE.mono hw; replace HA := HA.mono hw; replace HB := HB.mono hw; replace HX := HX.mono hw; clear hw; have hw := Below.refl wn.heap.size wn
  repeat' (first | (refine lw_pure rfl (pv_move rfl) ?_) | (refine lw_pure rfl (pv_assign rfl) ?_) | (refine is_cw ?_; first | (refine cw_seq ?_) | (refine cw_region ?_) | (refine cw_true rfl rfl ?_) | (refine cw_skip ?_) | (refine cw_block ?_) | (refine cw_ret ?_)) | (refine is_qw ?_; first | (with_reducible refine qw_then ?_) | (with_reducible refine qw_then_ret ?_)) | (refine lw_nil ?_) | (refine is_guarded ?_; first | (refine lw_not rfl rfl rfl rfl ?_) | (refine lw_on rfl rfl (by first | assumption | exact decide_eq_true (by omega) | exact decide_eq_false (by omega) | exact dec_notT (by omega) | exact dec_notF (by omega)) ?_) | (refine lw_not rfl rfl rfl (by first | assumption | exact decide_eq_true (by omega) | exact decide_eq_false (by omega) | exact dec_notT (by omega) | exact dec_notF (by omega)) ?_) | (refine lw_gs_f rfl rfl rfl (fun hc => ?_) (fun hc => ?_) <;> (first | replace hc := of_decide_eq_true hc | replace hc := of_decide_eq_false hc | replace hc := dec_nT hc | replace hc := dec_nF hc | skip) <;> (try (exfalso; omega)))) | ((refine is_bin ?_; first | (refine lw_pure rfl (pv_neq rfl rfl) ?_) | (refine lw_pure rfl (pv_bneq (tBo rfl) rfl rfl) ?_))) | ((refine is_load ?_; first | (refine lw_pure rfl (pv_load (t1 rfl) rfl (by first | exact PT.ld0 (HX.mono hw) rfl | exact PT.ld (HX.mono hw) rfl | exact PT.ld0 (HY.mono hw) rfl | exact PT.ld (HY.mono hw) rfl)) ?_))) | ((refine is_fa ?_; first | (refine lw_pure rfl (pv_fa (tF rfl) rfl) ?_))) | ((refine is_bi ?_; first | (refine lw_pure rfl (pv_lenl (tS rfl) rfl) ?_))) | (refine is_pk ?_; refine lw_pure rfl (pv_pick_t rfl rfl rfl) ?_) | (refine is_pk ?_; refine lw_pure rfl (pv_pick_t rfl (by first | assumption | exact decide_eq_true (by omega) | exact dec_notT (by omega)) rfl) ?_) | (refine is_pk ?_; refine lw_pure rfl (pv_pick_f rfl (by first | assumption | exact decide_eq_false (by omega) | exact dec_notF (by omega)) rfl) ?_) | (refine is_cw ?_; refine cw_split rfl (fun hc => ?_) (fun hc => ?_) <;> (first | replace hc := of_decide_eq_true hc | replace hc := of_decide_eq_false hc | replace hc := dec_nT hc | replace hc := dec_nF hc | skip) <;> (try (exfalso; omega))))
  any_goals (refine qw_ret1 rfl rfl ⟨ret_bool ?_, (hE.mono hw).b⟩; first | (simp [*]; done) | (symm; rw [decide_eq_false_iff_not]; intro e; injection e with e1 e2; subst e2; omega))
  have hl : xs.length = ys.length := by omega
  have hq : decide ((⟨⟨x1, x2, x3, x4, x5, x6, x7, x8⟩, xs⟩ : Auc) = ⟨⟨y1, y2, y3, y4, y5, y6, y7, y8⟩, ys⟩) = decide (xs = ys) := by simp [*]
  rw [hq]
  refine cw_loop (σ := Nat) (fun k => [(2, .pointer (some ⟨N2, 0, none⟩)), (3, .pointer (some ⟨N3, 0, none⟩)), (5, .int .i64 (k : Nat))]) (fun k wr => k ≤ xs.length ∧ Below wn.heap.size wn wr ∧ ∀ j, j < k → xs[j]? = ys[j]?) (fun k => xs.length - k) 0 (by repeat' (first | exact trivial | refine ⟨rfl, ?_⟩)) ⟨Nat.zero_le _, hw, by omega⟩ ?_
  clear hw
  rintro k wr ⟨hk, hw, hn⟩
  by_cases hlt : k < xs.length
  · have hxk : xs[k]? = some xs[k] := List.getElem?_eq_getElem hlt
    have hyk : ys[k]? = some (ys[k]'(by omega)) := List.getElem?_eq_getElem _
    obtain ⟨ab, ao, rfl, -, -⟩ := HA.at (by intro h; rw [h] at hlt; simp at hlt)
    obtain ⟨bb, bo, rfl, -, -⟩ := HB.at (by intro h; rw [h] at hl; rw [hl] at hlt; simp at hlt)
    generalize xs[k] = x at hxk
    generalize ys[k] = y at hyk
    repeat' (first | (refine lw_pure rfl (pv_move rfl) ?_) | (refine is_cw ?_; first | (refine cw_seq ?_) | (refine cw_region ?_) | (refine is_cd ?_; refine cw_true rfl (by first | assumption | exact decide_eq_true (by omega) | exact dec_notT (by omega)) ?_) | (refine cw_skip ?_) | (refine cw_block ?_)) | (refine is_qw ?_; first | (with_reducible refine qw_then ?_)) | (refine lw_nil ?_) | ((refine is_bin ?_; first | (refine lw_pure rfl (pv_lss rfl rfl) ?_))) | ((refine is_load ?_; first | (refine lw_pure rfl (pv_load (t1 rfl) rfl (by first | exact PT.ld0 (HX.mono hw) rfl | exact PT.ld (HX.mono hw) rfl | exact PT.ld0 (HY.mono hw) rfl | exact PT.ld (HY.mono hw) rfl)) ?_))) | ((refine is_fa ?_; first | (refine lw_pure rfl (pv_fa (tF rfl) rfl) ?_))) | ((refine is_bi ?_; first | (refine lw_pure rfl (pv_lenl (tS rfl) rfl) ?_))))
    refine cw_drawn (fun w' => Below wn.heap.size wn w') (by kernel_rfl) (by repeat (first | exact NoPanic.body | with_reducible refine NoPanic.then ?_ | with_reducible refine NoPanic.inBlock ?_)) (fun hNP => ?_)
    have hS := hw.drew
    (refine at0 0 rfl (fun w' hq => pv_fa (tF rfl) rfl) ?_)
    (refine at0 1 rfl (fun w' hq => pv_load (t1 rfl) rfl (by first | exact PT.ld0 (HX.mono hq) rfl | exact PT.ld (HX.mono hq) rfl | exact PT.ld0 (HY.mono hq) rfl | exact PT.ld (HY.mono hq) rfl | exact SlR.ld (HA.mono hq) hxk rfl | exact SlR.ld1 (HA.mono hq) hxk rfl | exact SlR.ld (HB.mono hq) hyk rfl | exact SlR.ld1 (HB.mono hq) hyk rfl)) ?_)
    (refine at0 2 rfl (fun w' hq => pv_move rfl) ?_)
    (refine at0 3 rfl (fun w' hq => pv_ian (tS rfl) rfl rfl (by omega)) ?_)
    (refine at0 4 rfl (fun w' hq => pv_loada (tA rfl) rfl (by first | exact PT.lda (HX.mono hq) | exact PT.lda (HY.mono hq) | exact SlR.lda (HA.mono hq) hxk | exact SlR.lda (HB.mono hq) hyk) (by rfl)) ?_)
    (refine at0 5 rfl (fun w' hq => pv_fa (tF rfl) rfl) ?_)
    (refine at0 6 rfl (fun w' hq => pv_load (t1 rfl) rfl (by first | exact PT.ld0 (HX.mono hq) rfl | exact PT.ld (HX.mono hq) rfl | exact PT.ld0 (HY.mono hq) rfl | exact PT.ld (HY.mono hq) rfl | exact SlR.ld (HA.mono hq) hxk rfl | exact SlR.ld1 (HA.mono hq) hxk rfl | exact SlR.ld (HB.mono hq) hyk rfl | exact SlR.ld1 (HB.mono hq) hyk rfl)) ?_)
    (refine at0 7 rfl (fun w' hq => pv_move rfl) ?_)
    (refine at0 8 rfl (fun w' hq => pv_ian (tS rfl) rfl rfl (by omega)) ?_)
    (refine at0 9 rfl (fun w' hq => pv_loada (tA rfl) rfl (by first | exact PT.lda (HX.mono hq) | exact PT.lda (HY.mono hq) | exact SlR.lda (HA.mono hq) hxk | exact SlR.lda (HB.mono hq) hyk) (by rfl)) ?_)
    (refine at0 10 rfl (fun w' hq => pv_neqD _ _ rfl rfl) ?_)
    refine aw_done (by kernel_rfl) ?_
    replace hw := hS; clear hS hNP
    by_cases hxy : x = y
    · repeat' (first | (refine lw_pure rfl (pv_move rfl) ?_) | (refine lw_pure rfl (pv_assign rfl) ?_) | (refine is_cw ?_; first | (refine cw_region ?_) | (refine is_cd ?_; refine cw_false rfl (by first | assumption | exact decide_eq_false (by omega) | exact dec_notF (by omega)) ?_) | (refine cw_skip ?_)) | (refine is_qw ?_; first | (with_reducible refine qw_then ?_) | (with_reducible refine qw_in ?_)) | (refine lw_nil ?_) | ((refine is_bin ?_; first | (refine lw_pure rfl (pv_inc rfl rfl (by omega)) ?_))))
      refine qw_round (k + 1) (by repeat' (first | exact trivial | refine ⟨rfl, ?_⟩)) ⟨by omega, hw, ?_⟩ (by omega)
      intro j hj
      by_cases hjk : j = k
      · subst hjk; rw [hxk, hyk, hxy]
      · exact hn j (by omega)
    · repeat' (first | (refine lw_pure rfl (pv_assign rfl) ?_) | (refine is_cw ?_; first | (refine cw_seq ?_) | (refine cw_region ?_) | (refine is_cd ?_; refine cw_true rfl (by first | assumption | exact decide_eq_true (by omega) | exact dec_notT (by omega)) ?_) | (refine cw_ret ?_)) | (refine is_qw ?_; first | (with_reducible refine qw_then ?_) | (with_reducible refine qw_then_ret ?_) | (with_reducible refine qw_in_ret ?_)) | (refine lw_nil ?_))
      refine qw_ret1 rfl rfl ⟨ret_bool ?_, (hE.mono hw).b⟩
      symm; rw [decide_eq_false_iff_not]; rintro rfl
      rw [hxk] at hyk; injection hyk with hyk; exact hxy hyk
  · have hkl : k = xs.length := by omega
    subst hkl
    have he : xs = ys := List.ext_getElem? fun j => by
      by_cases hj : j < xs.length
      · exact hn j hj
      · rw [List.getElem?_eq_none (by omega), List.getElem?_eq_none (by omega)]
    repeat' (first | (refine lw_pure rfl (pv_move rfl) ?_) | (refine lw_pure rfl (pv_assign rfl) ?_) | (refine is_cw ?_; first | (refine cw_seq ?_) | (refine cw_region ?_) | (refine is_cd ?_; refine cw_false rfl (by first | assumption | exact decide_eq_false (by omega) | exact dec_notF (by omega)) ?_) | (refine cw_exit ?_) | (refine cw_ret ?_)) | (refine is_qw ?_; first | (with_reducible refine qw_then ?_) | (with_reducible refine qw_in_hit ?_) | (with_reducible refine qw_then_exit ?_)) | (refine lw_nil ?_) | ((refine is_bin ?_; first | (refine lw_pure rfl (pv_lss rfl rfl) ?_))) | ((refine is_load ?_; first | (refine lw_pure rfl (pv_load (t1 rfl) rfl (by first | exact PT.ld0 (HX.mono hw) rfl | exact PT.ld (HX.mono hw) rfl | exact PT.ld0 (HY.mono hw) rfl | exact PT.ld (HY.mono hw) rfl)) ?_))) | ((refine is_fa ?_; first | (refine lw_pure rfl (pv_fa (tF rfl) rfl) ?_))) | ((refine is_bi ?_; first | (refine lw_pure rfl (pv_lenl (tS rfl) rfl) ?_))))
    exact qw_ret1 rfl rfl ⟨ret_bool (by simp [he]), (hE.mono hw).b⟩
theorem aus_ext {us vs : List Auc} (hl : us.length = vs.length) (h : ∀ (j : Nat) a b, us[j]? = some a → vs[j]? = some b → a = b) : us = vs := List.ext_getElem? fun j => by
  by_cases hj : j < us.length
  · rw [List.getElem?_eq_getElem hj, List.getElem?_eq_getElem (hl ▸ hj)]
    exact congrArg some (h j _ _ (List.getElem?_eq_getElem hj) (List.getElem?_eq_getElem (hl ▸ hj)))
  · rw [List.getElem?_eq_none (by omega), List.getElem?_eq_none (by omega)]
set_option maxRecDepth 20000 in
set_option maxHeartbeats 1000000 in
theorem asames_c {p q : List AucC} {us vs : List Auc} {m n : Nat} {a b : Option Addr} {ca cb : Nat} {w : World} (hm : us.length = m) (hn : vs.length = n) (HP : SlR encC 9 w a ca p) (HQ : SlR encC 9 w b cb q) (hP : AusR w p us) (hQ : AusR w q vs) : Calls Tryz.prog 49 #[.slice a m ca, .slice b n cb, .func (.func 50) #[] #[]] w fun e w' => e = .returned (.bool (decide (us = vs))) ∧ Below w.heap.size w w' := by
  subst hm hn
  have hw := Below.refl w.heap.size w
  have hca := HP.le
  have hcm := HP.max
  have hpn := hP.1
  have hqn := hQ.1
  refine fn_enter 32 Tryz.func49 rfl rfl rfl ?_
  by_cases hl : us.length = vs.length
  · repeat' ((fail_if_success (refine is_seqb ?_)); (fail_if_success (refine is_blk ?_)); first | (refine lw_pure rfl (pv_move rfl) ?_) | (refine lw_pure rfl (pv_assign rfl) ?_) | (refine is_cw ?_; first | (refine cw_seq ?_) | (refine cw_region ?_) | (refine is_cd ?_; refine cw_false rfl (by first | assumption | exact decide_eq_false (by omega) | exact dec_notF (by omega)) ?_) | (refine cw_skip ?_)) | (refine is_qw ?_; first | (with_reducible refine qw_then ?_)) | (refine lw_nil ?_) | ((refine is_bin ?_; first | (refine lw_pure rfl (pv_neq rfl rfl) ?_))) | ((refine is_bi ?_; first | (refine lw_pure rfl (pv_lenl (tS rfl) rfl) ?_))))
    repeat' (first | (refine is_cw ?_; first | (refine cw_block ?_)))
    refine cw_loop (σ := Nat) (fun k => [(1, .slice b vs.length cb), (2, .func (.func 50) #[] #[]), (15, .slice a us.length ca), (16, .int .i64 (us.length : Nat)), (17, .int .i64 (k : Nat))]) (fun k wr => k ≤ us.length ∧ Below w.heap.size w wr ∧ ∀ (j : Nat) x y, j < k → us[j]? = some x → vs[j]? = some y → x = y) (fun k => us.length - k) 0 (by repeat' (first | exact trivial | refine ⟨rfl, ?_⟩)) ⟨Nat.zero_le _, hw, by omega⟩ ?_
    clear hw
    rintro k wr ⟨hk, hw, hn⟩
    by_cases hlt : k < us.length
    · have huk : us[k]? = some us[k] := List.getElem?_eq_getElem hlt
      have hvk : vs[k]? = some (vs[k]'(by omega)) := List.getElem?_eq_getElem _
      generalize us[k] = u at huk
      generalize vs[k]'_ = v at hvk
      obtain ⟨x, hxk, hR⟩ := hP.at huk
      obtain ⟨y, hyk, hT⟩ := hQ.at hvk
      obtain ⟨ab, ao, rfl, -, -⟩ := HP.at (by intro h; rw [h] at hxk; simp at hxk)
      obtain ⟨bb, bo, rfl, -, -⟩ := HQ.at (by intro h; rw [h] at hyk; simp at hyk)
      repeat' (first | (refine lw_pure rfl (pv_move rfl) ?_) | (refine is_cw ?_; first | (refine cw_seq ?_) | (refine cw_region ?_) | (refine is_cd ?_; refine cw_true rfl (by first | assumption | exact decide_eq_true (by omega) | exact dec_notT (by omega)) ?_) | (refine cw_skip ?_) | (refine cw_block ?_)) | (refine is_qw ?_; first | (with_reducible refine qw_then ?_)) | (refine lw_nil ?_) | ((refine is_bin ?_; first | (refine lw_pure rfl (pv_lss rfl rfl) ?_))) | ((refine is_load ?_; first | (refine lw_pure rfl (pv_loada (tA rfl) rfl (by first | exact SlR.lda (HP.mono hw) hxk) (by rfl)) ?_))) | ((refine is_ia ?_; first | (refine lw_pure rfl (pv_ian (tS rfl) rfl rfl (by omega)) ?_))))
      refine lw_allocN rfl (by first | exact tyv_29 | exact tyv_30 | exact tyv_33 | exact tyv_34 | exact tyv_36 | exact tyv_37 | exact tyv_38 | exact tyv_39 | exact tyv_40 | exact tyv_41 | exact tyv_43 | exact tyv_44 | exact tyv_45 | exact tyv_46 | exact tyv_73 | exact tyv_74 | exact tyv_80 | exact tyv_81 | exact tyv_107 | exact tyv_108 | exact tyv_123 | exact tyv_146 | exact tyv_147 | exact tyv_148 | exact tyv_149) rfl ?_; intro N8 wn hN8 H8 hb; replace hN8 := Nat.le_trans hw.size hN8; replace hw := grow_trans hw hb; clear hb
      repeat' (first | (refine lw_pure rfl (pv_assign rfl) ?_))
      refine lw_storea (vs := encC x) H8 (tZ rfl) rfl rfl rfl rfl (encC_one _) ?_; intro w8 H8 hg hz
      replace hw := st_hw hw hg hN8
      clear hg hz
      repeat' (first | (refine lw_pure rfl (pv_move rfl) ?_) | (refine is_cw ?_; first | (refine cw_seq ?_) | (refine cw_region ?_)) | (refine is_qw ?_; first | (with_reducible refine qw_then ?_)) | (refine lw_nil ?_) | ((refine is_load ?_; first | (refine lw_pure rfl (pv_loada (tA rfl) rfl (by first | exact SlR.lda (HQ.mono hw) hyk) (by rfl)) ?_))) | ((refine is_ia ?_; first | (refine lw_pure rfl (pv_ian (tS rfl) rfl rfl (by omega)) ?_))))
      refine lw_varN rfl (by first | exact tyv_29 | exact tyv_30 | exact tyv_33 | exact tyv_34 | exact tyv_36 | exact tyv_37 | exact tyv_38 | exact tyv_39 | exact tyv_40 | exact tyv_41 | exact tyv_43 | exact tyv_44 | exact tyv_45 | exact tyv_46 | exact tyv_73 | exact tyv_74 | exact tyv_80 | exact tyv_81 | exact tyv_107 | exact tyv_108 | exact tyv_123 | exact tyv_146 | exact tyv_147 | exact tyv_148 | exact tyv_149) rfl (tZ rfl) (fun _ => rfl) rfl rfl ?_; intro N9 w9 hN9 H9 hb
      replace H9 : PT w9 N9 44 (encC y) := H9
      replace H8 := H8.mono hb
      replace hw := grow_trans hw hb
      clear hb
      repeat' (first | (refine lw_pure rfl (pv_move rfl) ?_) | (refine is_cw ?_; first | (refine cw_seq ?_) | (refine cw_region ?_)) | (refine is_qw ?_; first | (with_reducible refine qw_then ?_)) | (refine lw_nil ?_) | ((refine is_load ?_; first | (refine lw_pure rfl (pv_loada (tA rfl) rfl (by first | exact PT.lda H8 | exact PT.lda H9) (by rfl)) ?_))))
      refine lw_callv (f := 50) rfl (by kernel_rfl) rfl rfl (asame_c (hR.mono hw) (hT.mono hw)) ?_; rintro e w1 ⟨rfl, hb⟩; refine ⟨_, rfl, ?_⟩; replace hw := grow_trans hw hb; clear hb
      by_cases hxy : u = v
      · rw [decide_eq_true hxy]
        repeat' (first | (refine lw_pure rfl (pv_move rfl) ?_) | (refine is_cw ?_; first | (refine cw_region ?_) | (refine cw_false rfl rfl ?_) | (refine cw_skip ?_)) | (refine is_qw ?_; first | (with_reducible refine qw_then ?_) | (with_reducible refine qw_in ?_)) | (refine lw_nil ?_) | ((refine is_bin ?_; first | (refine lw_pure rfl (pv_inc rfl rfl (by omega)) ?_))) | ((refine is_un ?_; first | (refine lw_pure rfl (pv_not rfl) ?_))))
        refine qw_round (k + 1) (by repeat' (first | exact trivial | refine ⟨rfl, ?_⟩)) ⟨by omega, hw, ?_⟩ (by omega)
        intro j x y hj h1 h2
        by_cases hjk : j = k
        · subst hjk
          rw [huk] at h1; rw [hvk] at h2
          injection h1 with h1; injection h2 with h2
          rw [← h1, ← h2, hxy]
        · exact hn j x y (by omega) h1 h2
      · rw [decide_eq_false hxy]
        repeat' (first | (refine lw_pure rfl (pv_assign rfl) ?_) | (refine is_cw ?_; first | (refine cw_seq ?_) | (refine cw_region ?_) | (refine cw_true rfl rfl ?_) | (refine cw_ret ?_)) | (refine is_qw ?_; first | (with_reducible refine qw_then ?_) | (with_reducible refine qw_then_ret ?_) | (with_reducible refine qw_in_ret ?_)) | (refine lw_nil ?_) | ((refine is_un ?_; first | (refine lw_pure rfl (pv_not rfl) ?_))))
        refine qw_ret1 rfl rfl ⟨ret_bool ?_, hw⟩
        symm; rw [decide_eq_false_iff_not]; rintro rfl
        rw [huk] at hvk; injection hvk with hvk; exact hxy hvk
    · have hkl : k = us.length := by omega
      subst hkl
      have he : us = vs := aus_ext hl fun j x y h1 h2 => hn j x y (List.getElem?_eq_some_iff.1 h1).1 h1 h2
      repeat' (first | (refine lw_pure rfl (pv_assign rfl) ?_) | (refine is_cw ?_; first | (refine cw_seq ?_) | (refine cw_region ?_) | (refine is_cd ?_; refine cw_false rfl (by first | assumption | exact decide_eq_false (by omega) | exact dec_notF (by omega)) ?_) | (refine cw_exit ?_) | (refine cw_ret ?_)) | (refine is_qw ?_; first | (with_reducible refine qw_then ?_) | (with_reducible refine qw_in_hit ?_) | (with_reducible refine qw_then_exit ?_)) | (refine lw_nil ?_) | ((refine is_bin ?_; first | (refine lw_pure rfl (pv_lss rfl rfl) ?_))))
      exact qw_ret1 rfl rfl ⟨ret_bool (by simp [he]), hw⟩
  · repeat' (first | (refine lw_pure rfl (pv_move rfl) ?_) | (refine lw_pure rfl (pv_assign rfl) ?_) | (refine is_cw ?_; first | (refine cw_seq ?_) | (refine cw_region ?_) | (refine is_cd ?_; refine cw_true rfl (by first | assumption | exact decide_eq_true (by omega) | exact dec_notT (by omega)) ?_) | (refine cw_ret ?_)) | (refine is_qw ?_; first | (with_reducible refine qw_then ?_) | (with_reducible refine qw_then_ret ?_)) | (refine lw_nil ?_) | ((refine is_bin ?_; first | (refine lw_pure rfl (pv_neq rfl rfl) ?_))) | ((refine is_bi ?_; first | (refine lw_pure rfl (pv_lenl (tS rfl) rfl) ?_))))
    exact qw_ret1 rfl rfl ⟨ret_bool (by symm; rw [decide_eq_false_iff_not]; rintro rfl; exact hl rfl), hw⟩

theorem stt_eq {t u : Stt} : decide (t = u) = (decide (t.clock = u.clock) && (decide (t.fee = u.fee) && (decide (t.nord = u.nord) && (decide (t.nauc = u.nauc) && (decide (t.accs = u.accs) && (decide (t.inss = u.inss) && (decide (t.rows = u.rows) && (decide (t.ords = u.ords) && decide (t.aucs = u.aucs))))))))) := by
  cases t; cases u; simp [Bool.decide_and]
theorem len_ne {α : Type} [DecidableEq α] {l m : List α} (h : ¬ l.length = m.length) : decide (l = m) = false := decide_eq_false fun e => h (by rw [e])
theorem all_ext {α : Type} {us vs : List α} (hl : us.length = vs.length) (h : ∀ (j : Nat) a b, us[j]? = some a → vs[j]? = some b → a = b) : us = vs := List.ext_getElem? fun j => by
  by_cases hj : j < us.length
  · rw [List.getElem?_eq_getElem hj, List.getElem?_eq_getElem (hl ▸ hj)]
    exact congrArg some (h j _ _ (List.getElem?_eq_getElem hj) (List.getElem?_eq_getElem (hl ▸ hj)))
  · rw [List.getElem?_eq_none (by omega), List.getElem?_eq_none (by omega)]
set_option maxRecDepth 20000 in
set_option maxHeartbeats 4000000 in
theorem same_S {s s' : SttC} {t u : Stt} {w : World} (hS : StR w s t) (hT : StR w s' u) : Calls Tryz.prog 20 #[(.agg (encS s).toArray), (.agg (encS s').toArray)] w fun e w' => e = .returned (.bool (decide (t = u))) ∧ Below w.heap.size w w' := by
  have hE := Ext.refl w
  have hw := Below.refl w.heap.size w
  obtain ⟨c1, c2, c3, c4, pa, ma, ca, pi, mi, ci, pr, mr, cr, po, mo, co, px, mx, cx⟩ := s; obtain ⟨⟨e1, e2, e3, e4⟩, hma, hmi, hmr, hmo, hmx, HA, HI, HR, HO, xs, HX9, HAs⟩ := hS; simp only at e1 e2 e3 e4 hma hmi hmr hmo hmx HA HI HR HO HX9 HAs; subst e1 e2 e3 e4 hma hmi hmr hmo hmx
  obtain ⟨d1, d2, d3, d4, qa, na, ja, qi, ni, ji, qr, nr, jr, qo, no, jo, qx, nx, jx⟩ := s'; obtain ⟨⟨e1, e2, e3, e4⟩, hma, hmi, hmr, hmo, hmx, KA, KI, KR, KO, ys, KX9, KAs⟩ := hT; simp only at e1 e2 e3 e4 hma hmi hmr hmo hmx KA KI KR KO KX9 KAs; subst e1 e2 e3 e4 hma hmi hmr hmo hmx
  rw [stt_eq]
  refine fn_enter 66 Tryz.func20 rfl rfl rfl ?_
  repeat' (first | (refine is_cw ?_; first | (refine cw_seq ?_) | (refine cw_region ?_)))
  refine lw_boxN rfl rfl (cs := [.int .i64 t.clock, .int .i64 t.fee, .int .i64 t.nord, .int .i64 t.nauc, .slice pa t.accs.length ca, .slice pi t.inss.length ci, .slice pr t.rows.length cr, .slice po t.ords.length co, .slice px t.aucs.length cx]) rfl ?_; intro N2 wn hN2 HX hb; replace hN2 := Nat.le_trans hw.size hN2; replace hw := grow_trans hw hb; clear hb
  replace hE := hE.mono hw; replace HA := HA.mono hw; replace HI := HI.mono hw; replace HR := HR.mono hw; replace HO := HO.mono hw; replace HX9 := HX9.mono hw; replace HAs := HAs.mono hw; replace KA := KA.mono hw; replace KI := KI.mono hw; replace KR := KR.mono hw; replace KO := KO.mono hw; replace KX9 := KX9.mono hw; replace KAs := KAs.mono hw; clear hw; have hw := Below.refl wn.heap.size wn
  skip
  refine lw_boxN rfl rfl (cs := [.int .i64 u.clock, .int .i64 u.fee, .int .i64 u.nord, .int .i64 u.nauc, .slice qa u.accs.length ja, .slice qi u.inss.length ji, .slice qr u.rows.length jr, .slice qo u.ords.length jo, .slice qx u.aucs.length jx]) rfl ?_; intro N3 wn hN3 HY hb; replace hN3 := Nat.le_trans hw.size hN3; replace hw := grow_trans hw hb; clear hb
  replace hE := hE.mono hw; replace HA := HA.mono hw; replace HI := HI.mono hw; replace HR := HR.mono hw; replace HO := HO.mono hw; replace HX9 := HX9.mono hw; replace HAs := HAs.mono hw; replace KA := KA.mono hw; replace KI := KI.mono hw; replace KR := KR.mono hw; replace KO := KO.mono hw; replace KX9 := KX9.mono hw; replace KAs := KAs.mono hw; replace HX := HX.mono hw; clear hw; have hw := Below.refl wn.heap.size wn
  repeat' (first | (refine lw_pure rfl (pv_move rfl) ?_) | (refine lw_pure rfl (pv_assign rfl) ?_) | (refine lw_call (f := 45) (by kernel_rfl) rfl rfl (equal_Ac rfl rfl (HA.mono hw) (KA.mono hw)) ?_; rintro e w1 ⟨rfl, hb⟩; refine ⟨_, rfl, ?_⟩; replace hw := grow_trans hw hb; clear hb) | (refine lw_call (f := 46) (by kernel_rfl) rfl rfl (equal_N rfl rfl (HI.mono hw) (KI.mono hw)) ?_; rintro e w1 ⟨rfl, hb⟩; refine ⟨_, rfl, ?_⟩; replace hw := grow_trans hw hb; clear hb) | (refine lw_call (f := 47) (by kernel_rfl) rfl rfl (equal_c rfl rfl (HR.mono hw) (KR.mono hw)) ?_; rintro e w1 ⟨rfl, hb⟩; refine ⟨_, rfl, ?_⟩; replace hw := grow_trans hw hb; clear hb) | (refine lw_call (f := 48) (by kernel_rfl) rfl rfl (equal_O rfl rfl (HO.mono hw) (KO.mono hw)) ?_; rintro e w1 ⟨rfl, hb⟩; refine ⟨_, rfl, ?_⟩; replace hw := grow_trans hw hb; clear hb) | (refine lw_call (f := 49) (by kernel_rfl) rfl rfl (asames_c rfl rfl (HX9.mono hw) (KX9.mono hw) (HAs.mono hw) (KAs.mono hw)) ?_; rintro e w1 ⟨rfl, hb⟩; refine ⟨_, rfl, ?_⟩; replace hw := grow_trans hw hb; clear hb) | (refine is_cw ?_; first | (refine cw_seq ?_) | (refine cw_region ?_) | (refine cw_ret ?_)) | (refine is_qw ?_; first | (with_reducible refine qw_then ?_)) | (refine lw_nil ?_) | (refine is_guarded ?_; first | (refine lw_not rfl rfl rfl rfl ?_) | (refine lw_on rfl rfl (by first | assumption | exact decide_eq_true (by omega) | exact decide_eq_false (by omega) | exact dec_notT (by omega) | exact dec_notF (by omega)) ?_) | (refine lw_not rfl rfl rfl (by first | assumption | exact decide_eq_true (by omega) | exact decide_eq_false (by omega) | exact dec_notT (by omega) | exact dec_notF (by omega)) ?_) | (refine lw_gs_t rfl rfl rfl (fun hc => ?_) (fun hc => ?_) <;> (first | replace hc := of_decide_eq_true hc | replace hc := of_decide_eq_false hc | replace hc := dec_nT hc | replace hc := dec_nF hc | skip) <;> (try (exfalso; omega)))) | ((refine is_bin ?_; first | (refine lw_pure rfl (pv_eql rfl rfl) ?_))) | ((refine is_load ?_; first | (refine lw_pure rfl (pv_load (t1 rfl) rfl (by first | exact PT.ld0 (HX.mono hw) rfl | exact PT.ld (HX.mono hw) rfl | exact PT.ld0 (HY.mono hw) rfl | exact PT.ld (HY.mono hw) rfl)) ?_))) | ((refine is_fa ?_; first | (refine lw_pure rfl (pv_fa (tF rfl) rfl) ?_))) | (refine is_pk ?_; refine lw_pure rfl (pv_pick_f rfl rfl rfl) ?_) | (refine is_pk ?_; refine lw_pure rfl (pv_pick_t rfl (by first | assumption | exact decide_eq_true (by omega) | exact dec_notT (by omega)) rfl) ?_) | (refine is_pk ?_; refine lw_pure rfl (pv_pick_f rfl (by first | assumption | exact decide_eq_false (by omega) | exact dec_notF (by omega)) rfl) ?_))
  all_goals
    refine qw_ret1 rfl rfl ⟨ret_bool ?_, (hE.mono hw).b⟩
    simp [*]
set_option maxRecDepth 20000 in
set_option maxHeartbeats 4000000 in
theorem rsame_S {s s' : SttC} {t u : Stt} {w : World} (hS : StR w s t) (hT : StR w s' u) : Calls Tryz.prog 21 #[(.agg (encS s).toArray), (.agg (encS s').toArray)] w fun e w' => e = .returned (.bool (decide (t = u))) ∧ Below w.heap.size w w' := by
  have hE := Ext.refl w
  have hw := Below.refl w.heap.size w
  obtain ⟨c1, c2, c3, c4, pa, ma, ca, pi, mi, ci, pr, mr, cr, po, mo, co, px, mx, cx⟩ := s; obtain ⟨⟨e1, e2, e3, e4⟩, hma, hmi, hmr, hmo, hmx, HA, HI, HR, HO, xs, HX9, HAs⟩ := hS; simp only at e1 e2 e3 e4 hma hmi hmr hmo hmx HA HI HR HO HX9 HAs; subst e1 e2 e3 e4 hma hmi hmr hmo hmx
  obtain ⟨d1, d2, d3, d4, qa, na, ja, qi, ni, ji, qr, nr, jr, qo, no, jo, qx, nx, jx⟩ := s'; obtain ⟨⟨e1, e2, e3, e4⟩, hma, hmi, hmr, hmo, hmx, KA, KI, KR, KO, ys, KX9, KAs⟩ := hT; simp only at e1 e2 e3 e4 hma hmi hmr hmo hmx KA KI KR KO KX9 KAs; subst e1 e2 e3 e4 hma hmi hmr hmo hmx
  have hca := HA.le
  have hcm := HA.max
  have hia := HI.le
  have him := HI.max
  have hxa := HX9.le
  have hxm := HX9.max
  have hxn := HAs.1
  rw [stt_eq]
  refine fn_enter 132 Tryz.func21 rfl rfl rfl ?_
  repeat' (first | (refine is_cw ?_; first | (refine cw_seq ?_) | (refine cw_region ?_)))
  refine lw_boxN rfl rfl (cs := [.int .i64 t.clock, .int .i64 t.fee, .int .i64 t.nord, .int .i64 t.nauc, .slice pa t.accs.length ca, .slice pi t.inss.length ci, .slice pr t.rows.length cr, .slice po t.ords.length co, .slice px t.aucs.length cx]) rfl ?_; intro N2 wn hN2 HX hb; replace hN2 := Nat.le_trans hw.size hN2; replace hw := grow_trans hw hb; clear hb
  replace hE := hE.mono hw; replace HA := HA.mono hw; replace HI := HI.mono hw; replace HR := HR.mono hw; replace HO := HO.mono hw; replace HX9 := HX9.mono hw; replace HAs := HAs.mono hw; replace KA := KA.mono hw; replace KI := KI.mono hw; replace KR := KR.mono hw; replace KO := KO.mono hw; replace KX9 := KX9.mono hw; replace KAs := KAs.mono hw; clear hw; have hw := Below.refl wn.heap.size wn
  skip
  refine lw_boxN rfl rfl (cs := [.int .i64 u.clock, .int .i64 u.fee, .int .i64 u.nord, .int .i64 u.nauc, .slice qa u.accs.length ja, .slice qi u.inss.length ji, .slice qr u.rows.length jr, .slice qo u.ords.length jo, .slice qx u.aucs.length jx]) rfl ?_; intro N3 wn hN3 HY hb; replace hN3 := Nat.le_trans hw.size hN3; replace hw := grow_trans hw hb; clear hb
  replace hE := hE.mono hw; replace HA := HA.mono hw; replace HI := HI.mono hw; replace HR := HR.mono hw; replace HO := HO.mono hw; replace HX9 := HX9.mono hw; replace HAs := HAs.mono hw; replace KA := KA.mono hw; replace KI := KI.mono hw; replace KR := KR.mono hw; replace KO := KO.mono hw; replace KX9 := KX9.mono hw; replace KAs := KAs.mono hw; replace HX := HX.mono hw; clear hw; have hw := Below.refl wn.heap.size wn
  repeat' (first | (refine lw_pure rfl (pv_move rfl) ?_) | (refine lw_pure rfl (pv_assign rfl) ?_) | (refine lw_call (f := 51) (by kernel_rfl) rfl rfl (rsame_c rfl rfl (HR.mono hw) (KR.mono hw)) ?_; rintro e w1 ⟨rfl, hb⟩; refine ⟨_, rfl, ?_⟩; replace hw := grow_trans hw hb; clear hb) | (refine lw_call (f := 52) (by kernel_rfl) rfl rfl (rsame_O rfl rfl (HO.mono hw) (KO.mono hw)) ?_; rintro e w1 ⟨rfl, hb⟩; refine ⟨_, rfl, ?_⟩; replace hw := grow_trans hw hb; clear hb) | (refine is_cw ?_; first | (refine cw_seq ?_) | (refine cw_region ?_) | (refine cw_true rfl rfl ?_) | (refine cw_skip ?_) | (refine cw_block ?_) | (refine cw_ret ?_)) | (refine is_qw ?_; first | (with_reducible refine qw_then ?_) | (with_reducible refine qw_then_ret ?_)) | (refine lw_nil ?_) | (refine is_guarded ?_; first | (refine lw_not rfl rfl rfl rfl ?_) | (refine lw_on rfl rfl (by first | assumption | exact decide_eq_true (by omega) | exact decide_eq_false (by omega) | exact dec_notT (by omega) | exact dec_notF (by omega)) ?_) | (refine lw_not rfl rfl rfl (by first | assumption | exact decide_eq_true (by omega) | exact decide_eq_false (by omega) | exact dec_notT (by omega) | exact dec_notF (by omega)) ?_) | (refine lw_gs_f rfl rfl rfl (fun hc => ?_) (fun hc => ?_) <;> (first | replace hc := of_decide_eq_true hc | replace hc := of_decide_eq_false hc | replace hc := dec_nT hc | replace hc := dec_nF hc | skip) <;> (try (exfalso; omega)))) | ((refine is_bin ?_; first | (refine lw_pure rfl (pv_neq rfl rfl) ?_))) | ((refine is_load ?_; first | (refine lw_pure rfl (pv_load (t1 rfl) rfl (by first | exact PT.ld0 (HX.mono hw) rfl | exact PT.ld (HX.mono hw) rfl | exact PT.ld0 (HY.mono hw) rfl | exact PT.ld (HY.mono hw) rfl)) ?_))) | ((refine is_fa ?_; first | (refine lw_pure rfl (pv_fa (tF rfl) rfl) ?_))) | ((refine is_un ?_; first | (refine lw_pure rfl (pv_not rfl) ?_))) | ((refine is_bi ?_; first | (refine lw_pure rfl (pv_lenl (tS rfl) rfl) ?_))) | (refine is_pk ?_; refine lw_pure rfl (pv_pick_t rfl rfl rfl) ?_) | (refine is_pk ?_; refine lw_pure rfl (pv_pick_t rfl (by first | assumption | exact decide_eq_true (by omega) | exact dec_notT (by omega)) rfl) ?_) | (refine is_pk ?_; refine lw_pure rfl (pv_pick_f rfl (by first | assumption | exact decide_eq_false (by omega) | exact dec_notF (by omega)) rfl) ?_) | (refine is_cw ?_; refine cw_split rfl (fun hc => ?_) (fun hc => ?_) <;> (first | replace hc := of_decide_eq_true hc | replace hc := of_decide_eq_false hc | replace hc := dec_nT hc | replace hc := dec_nF hc | skip) <;> (try (exfalso; omega))))
  any_goals (refine qw_ret1 rfl rfl ⟨ret_bool ?_, (hE.mono hw).b⟩; first | (simp [*]; done) | (rw [len_ne (l := t.accs) (by omega)]; simp; done) | (rw [len_ne (l := t.inss) (by omega)]; simp; done) | (rw [len_ne (l := t.aucs) (by omega)]; simp; done))
  have hq : (decide (t.clock = u.clock) && (decide (t.fee = u.fee) && (decide (t.nord = u.nord) && (decide (t.nauc = u.nauc) && (decide (t.accs = u.accs) && (decide (t.inss = u.inss) && (decide (t.rows = u.rows) && (decide (t.ords = u.ords) && decide (t.aucs = u.aucs))))))))) = (decide (t.accs = u.accs) && (decide (t.inss = u.inss) && decide (t.aucs = u.aucs))) := by simp [*]
  rw [hq]
  have l1 : t.accs.length = u.accs.length := by omega
  have l2 : t.inss.length = u.inss.length := by omega
  have l3 : t.aucs.length = u.aucs.length := by omega
  refine cw_loop (σ := Nat) (fun k => [(2, .pointer (some ⟨N2, 0, none⟩)), (3, .pointer (some ⟨N3, 0, none⟩)), (5, .int .i64 (k : Nat))]) (fun k wr => k ≤ t.accs.length ∧ Below wn.heap.size wn wr ∧ ∀ (j : Nat) x y, j < k → t.accs[j]? = some x → u.accs[j]? = some y → x = y) (fun k => t.accs.length - k) 0 (by repeat' (first | exact trivial | refine ⟨rfl, ?_⟩)) ⟨Nat.zero_le _, hw, by omega⟩ ?_
  clear hw
  rintro k wr ⟨hk, hw, hn⟩
  by_cases hlt : k < t.accs.length
  · have hxk : t.accs[k]? = some t.accs[k] := List.getElem?_eq_getElem hlt
    have hyk : u.accs[k]? = some (u.accs[k]'(by omega)) := List.getElem?_eq_getElem _
    generalize t.accs[k] = x at hxk
    generalize u.accs[k]'_ = y at hyk
    obtain ⟨ab, ao, rfl, -, -⟩ := HA.at (by intro h; rw [h] at hxk; simp at hxk)
    obtain ⟨bb, bo, rfl, -, -⟩ := KA.at (by intro h; rw [h] at hyk; simp at hyk)
    repeat' (first | (refine lw_pure rfl (pv_move rfl) ?_) | (refine is_cw ?_; first | (refine cw_seq ?_) | (refine cw_region ?_) | (refine is_cd ?_; refine cw_true rfl (by first | assumption | exact decide_eq_true (by omega) | exact dec_notT (by omega)) ?_) | (refine cw_skip ?_) | (refine cw_block ?_)) | (refine is_qw ?_; first | (with_reducible refine qw_then ?_)) | (refine lw_nil ?_) | ((refine is_bin ?_; first | (refine lw_pure rfl (pv_lss rfl rfl) ?_))) | ((refine is_load ?_; first | (refine lw_pure rfl (pv_load (t1 rfl) rfl (by first | exact PT.ld0 (HX.mono hw) rfl | exact PT.ld (HX.mono hw) rfl | exact PT.ld0 (HY.mono hw) rfl | exact PT.ld (HY.mono hw) rfl)) ?_))) | ((refine is_fa ?_; first | (refine lw_pure rfl (pv_fa (tF rfl) rfl) ?_))) | ((refine is_bi ?_; first | (refine lw_pure rfl (pv_lenl (tS rfl) rfl) ?_))))
    refine cw_drawn (fun w' => Below wn.heap.size wn w') (by kernel_rfl) (by repeat (first | exact NoPanic.body | with_reducible refine NoPanic.then ?_ | with_reducible refine NoPanic.inBlock ?_)) (fun hNP => ?_)
    have hS := hw.drew
    (refine at0 0 rfl (fun w' hq => pv_fa (tF rfl) rfl) ?_)
    (refine at0 1 rfl (fun w' hq => pv_load (t1 rfl) rfl (by first | exact PT.ld0 (HX.mono hq) rfl | exact PT.ld (HX.mono hq) rfl | exact PT.ld0 (HY.mono hq) rfl | exact PT.ld (HY.mono hq) rfl | exact SlR.ld (HA.mono hq) hxk rfl | exact SlR.ld1 (HA.mono hq) hxk rfl | exact SlR.ld (KA.mono hq) hyk rfl | exact SlR.ld1 (KA.mono hq) hyk rfl)) ?_)
    (refine at0 2 rfl (fun w' hq => pv_move rfl) ?_)
    (refine at0 3 rfl (fun w' hq => pv_ian (tS rfl) rfl rfl (by omega)) ?_)
    (refine at0 4 rfl (fun w' hq => pv_loada (tA rfl) rfl (by first | exact PT.lda (HX.mono hq) | exact PT.lda (HY.mono hq) | exact SlR.lda (HA.mono hq) hxk | exact SlR.lda (KA.mono hq) hyk) (by rfl)) ?_)
    (refine at0 5 rfl (fun w' hq => pv_fa (tF rfl) rfl) ?_)
    (refine at0 6 rfl (fun w' hq => pv_load (t1 rfl) rfl (by first | exact PT.ld0 (HX.mono hq) rfl | exact PT.ld (HX.mono hq) rfl | exact PT.ld0 (HY.mono hq) rfl | exact PT.ld (HY.mono hq) rfl | exact SlR.ld (HA.mono hq) hxk rfl | exact SlR.ld1 (HA.mono hq) hxk rfl | exact SlR.ld (KA.mono hq) hyk rfl | exact SlR.ld1 (KA.mono hq) hyk rfl)) ?_)
    (refine at0 7 rfl (fun w' hq => pv_move rfl) ?_)
    (refine at0 8 rfl (fun w' hq => pv_ian (tS rfl) rfl rfl (by omega)) ?_)
    (refine at0 9 rfl (fun w' hq => pv_loada (tA rfl) rfl (by first | exact PT.lda (HX.mono hq) | exact PT.lda (HY.mono hq) | exact SlR.lda (HA.mono hq) hxk | exact SlR.lda (KA.mono hq) hyk) (by rfl)) ?_)
    (refine at0 10 rfl (fun w' hq => pv_neqAc _ _ rfl rfl) ?_)
    refine aw_done (by kernel_rfl) ?_
    replace hw := hS; clear hS hNP
    by_cases hxy : x = y
    · repeat' (first | (refine lw_pure rfl (pv_move rfl) ?_) | (refine lw_pure rfl (pv_assign rfl) ?_) | (refine is_cw ?_; first | (refine cw_region ?_) | (refine is_cd ?_; refine cw_false rfl (by first | assumption | exact decide_eq_false (by omega) | exact dec_notF (by omega)) ?_) | (refine cw_skip ?_)) | (refine is_qw ?_; first | (with_reducible refine qw_then ?_) | (with_reducible refine qw_in ?_)) | (refine lw_nil ?_) | ((refine is_bin ?_; first | (refine lw_pure rfl (pv_inc rfl rfl (by omega)) ?_))))
      refine qw_round (k + 1) (by repeat' (first | exact trivial | refine ⟨rfl, ?_⟩)) ⟨by omega, hw, ?_⟩ (by omega)
      intro j x' y' hj h1 h2
      by_cases hjk : j = k
      · subst hjk
        rw [hxk] at h1; rw [hyk] at h2
        injection h1 with h1; injection h2 with h2
        rw [← h1, ← h2, hxy]
      · exact hn j x' y' (by omega) h1 h2
    · repeat' (first | (refine lw_pure rfl (pv_assign rfl) ?_) | (refine is_cw ?_; first | (refine cw_seq ?_) | (refine cw_region ?_) | (refine is_cd ?_; refine cw_true rfl (by first | assumption | exact decide_eq_true (by omega) | exact dec_notT (by omega)) ?_) | (refine cw_ret ?_)) | (refine is_qw ?_; first | (with_reducible refine qw_then ?_) | (with_reducible refine qw_then_ret ?_) | (with_reducible refine qw_in_ret ?_)) | (refine lw_nil ?_))
      refine qw_ret1 rfl rfl ⟨ret_bool ?_, (hE.mono hw).b⟩
      rw [decide_eq_false (p := t.accs = u.accs) (by intro e; rw [e, hyk] at hxk; injection hxk with hxk; exact hxy hxk.symm)]
      simp
  have hkl : k = t.accs.length := by omega
  subst hkl
  rw [decide_eq_true (p := t.accs = u.accs) (all_ext (by omega) fun j x y h1 h2 => hn j x y (List.getElem?_eq_some_iff.1 h1).1 h1 h2)]
  clear hn hk hlt
  repeat' (first | (refine lw_pure rfl (pv_move rfl) ?_) | (refine lw_pure rfl (pv_assign rfl) ?_) | (refine is_cw ?_; first | (refine cw_seq ?_) | (refine cw_region ?_) | (refine is_cd ?_; refine cw_false rfl (by first | assumption | exact decide_eq_false (by omega) | exact dec_notF (by omega)) ?_) | (refine cw_block ?_) | (refine cw_exit ?_)) | (refine is_qw ?_; first | (with_reducible refine qw_then ?_) | (with_reducible refine qw_in_hit ?_) | (with_reducible refine qw_then_exit ?_)) | (refine lw_nil ?_) | ((refine is_bin ?_; first | (refine lw_pure rfl (pv_lss rfl rfl) ?_))) | ((refine is_load ?_; first | (refine lw_pure rfl (pv_load (t1 rfl) rfl (by first | exact PT.ld0 (HX.mono hw) rfl | exact PT.ld (HX.mono hw) rfl | exact PT.ld0 (HY.mono hw) rfl | exact PT.ld (HY.mono hw) rfl)) ?_))) | ((refine is_fa ?_; first | (refine lw_pure rfl (pv_fa (tF rfl) rfl) ?_))) | ((refine is_bi ?_; first | (refine lw_pure rfl (pv_lenl (tS rfl) rfl) ?_))))
  refine cw_loop (σ := Nat) (fun k => [(2, .pointer (some ⟨N2, 0, none⟩)), (3, .pointer (some ⟨N3, 0, none⟩)), (6, .int .i64 (k : Nat))]) (fun k wr => k ≤ t.inss.length ∧ Below wn.heap.size wn wr ∧ ∀ (j : Nat) x y, j < k → t.inss[j]? = some x → u.inss[j]? = some y → x = y) (fun k => t.inss.length - k) 0 (by repeat' (first | exact trivial | refine ⟨rfl, ?_⟩)) ⟨Nat.zero_le _, hw, by omega⟩ ?_
  clear hw
  rintro k wr ⟨hk, hw, hn⟩
  by_cases hlt : k < t.inss.length
  · have hxk : t.inss[k]? = some t.inss[k] := List.getElem?_eq_getElem hlt
    have hyk : u.inss[k]? = some (u.inss[k]'(by omega)) := List.getElem?_eq_getElem _
    generalize t.inss[k] = x at hxk
    generalize u.inss[k]'_ = y at hyk
    obtain ⟨ab, ao, rfl, -, -⟩ := HI.at (by intro h; rw [h] at hxk; simp at hxk)
    obtain ⟨bb, bo, rfl, -, -⟩ := KI.at (by intro h; rw [h] at hyk; simp at hyk)
    repeat' (first | (refine lw_pure rfl (pv_move rfl) ?_) | (refine is_cw ?_; first | (refine cw_seq ?_) | (refine cw_region ?_) | (refine is_cd ?_; refine cw_true rfl (by first | assumption | exact decide_eq_true (by omega) | exact dec_notT (by omega)) ?_) | (refine cw_skip ?_) | (refine cw_block ?_)) | (refine is_qw ?_; first | (with_reducible refine qw_then ?_)) | (refine lw_nil ?_) | ((refine is_bin ?_; first | (refine lw_pure rfl (pv_lss rfl rfl) ?_))) | ((refine is_load ?_; first | (refine lw_pure rfl (pv_load (t1 rfl) rfl (by first | exact PT.ld0 (HX.mono hw) rfl | exact PT.ld (HX.mono hw) rfl | exact PT.ld0 (HY.mono hw) rfl | exact PT.ld (HY.mono hw) rfl)) ?_))) | ((refine is_fa ?_; first | (refine lw_pure rfl (pv_fa (tF rfl) rfl) ?_))) | ((refine is_bi ?_; first | (refine lw_pure rfl (pv_lenl (tS rfl) rfl) ?_))))
    refine cw_drawn (fun w' => Below wn.heap.size wn w') (by kernel_rfl) (by repeat (first | exact NoPanic.body | with_reducible refine NoPanic.then ?_ | with_reducible refine NoPanic.inBlock ?_)) (fun hNP => ?_)
    have hS := hw.drew
    (refine at0 0 rfl (fun w' hq => pv_fa (tF rfl) rfl) ?_)
    (refine at0 1 rfl (fun w' hq => pv_load (t1 rfl) rfl (by first | exact PT.ld0 (HX.mono hq) rfl | exact PT.ld (HX.mono hq) rfl | exact PT.ld0 (HY.mono hq) rfl | exact PT.ld (HY.mono hq) rfl | exact SlR.ld (HI.mono hq) hxk rfl | exact SlR.ld1 (HI.mono hq) hxk rfl | exact SlR.ld (KI.mono hq) hyk rfl | exact SlR.ld1 (KI.mono hq) hyk rfl)) ?_)
    (refine at0 2 rfl (fun w' hq => pv_move rfl) ?_)
    (refine at0 3 rfl (fun w' hq => pv_ian (tS rfl) rfl rfl (by omega)) ?_)
    (refine at0 4 rfl (fun w' hq => pv_loada (tA rfl) rfl (by first | exact PT.lda (HX.mono hq) | exact PT.lda (HY.mono hq) | exact SlR.lda (HI.mono hq) hxk | exact SlR.lda (KI.mono hq) hyk) (by rfl)) ?_)
    (refine at0 5 rfl (fun w' hq => pv_fa (tF rfl) rfl) ?_)
    (refine at0 6 rfl (fun w' hq => pv_load (t1 rfl) rfl (by first | exact PT.ld0 (HX.mono hq) rfl | exact PT.ld (HX.mono hq) rfl | exact PT.ld0 (HY.mono hq) rfl | exact PT.ld (HY.mono hq) rfl | exact SlR.ld (HI.mono hq) hxk rfl | exact SlR.ld1 (HI.mono hq) hxk rfl | exact SlR.ld (KI.mono hq) hyk rfl | exact SlR.ld1 (KI.mono hq) hyk rfl)) ?_)
    (refine at0 7 rfl (fun w' hq => pv_move rfl) ?_)
    (refine at0 8 rfl (fun w' hq => pv_ian (tS rfl) rfl rfl (by omega)) ?_)
    (refine at0 9 rfl (fun w' hq => pv_loada (tA rfl) rfl (by first | exact PT.lda (HX.mono hq) | exact PT.lda (HY.mono hq) | exact SlR.lda (HI.mono hq) hxk | exact SlR.lda (KI.mono hq) hyk) (by rfl)) ?_)
    (refine at0 10 rfl (fun w' hq => pv_neqN _ _ rfl rfl) ?_)
    refine aw_done (by kernel_rfl) ?_
    replace hw := hS; clear hS hNP
    by_cases hxy : x = y
    · repeat' (first | (refine lw_pure rfl (pv_move rfl) ?_) | (refine lw_pure rfl (pv_assign rfl) ?_) | (refine is_cw ?_; first | (refine cw_region ?_) | (refine is_cd ?_; refine cw_false rfl (by first | assumption | exact decide_eq_false (by omega) | exact dec_notF (by omega)) ?_) | (refine cw_skip ?_)) | (refine is_qw ?_; first | (with_reducible refine qw_then ?_) | (with_reducible refine qw_in ?_)) | (refine lw_nil ?_) | ((refine is_bin ?_; first | (refine lw_pure rfl (pv_inc rfl rfl (by omega)) ?_))))
      refine qw_round (k + 1) (by repeat' (first | exact trivial | refine ⟨rfl, ?_⟩)) ⟨by omega, hw, ?_⟩ (by omega)
      intro j x' y' hj h1 h2
      by_cases hjk : j = k
      · subst hjk
        rw [hxk] at h1; rw [hyk] at h2
        injection h1 with h1; injection h2 with h2
        rw [← h1, ← h2, hxy]
      · exact hn j x' y' (by omega) h1 h2
    · repeat' (first | (refine lw_pure rfl (pv_assign rfl) ?_) | (refine is_cw ?_; first | (refine cw_seq ?_) | (refine cw_region ?_) | (refine is_cd ?_; refine cw_true rfl (by first | assumption | exact decide_eq_true (by omega) | exact dec_notT (by omega)) ?_) | (refine cw_ret ?_)) | (refine is_qw ?_; first | (with_reducible refine qw_then ?_) | (with_reducible refine qw_then_ret ?_) | (with_reducible refine qw_in_ret ?_)) | (refine lw_nil ?_))
      refine qw_ret1 rfl rfl ⟨ret_bool ?_, (hE.mono hw).b⟩
      rw [decide_eq_false (p := t.inss = u.inss) (by intro e; rw [e, hyk] at hxk; injection hxk with hxk; exact hxy hxk.symm)]
      simp
  have hkl : k = t.inss.length := by omega
  subst hkl
  rw [decide_eq_true (p := t.inss = u.inss) (all_ext (by omega) fun j x y h1 h2 => hn j x y (List.getElem?_eq_some_iff.1 h1).1 h1 h2)]
  clear hn hk hlt
  repeat' (first | (refine lw_pure rfl (pv_move rfl) ?_) | (refine lw_pure rfl (pv_assign rfl) ?_) | (refine is_cw ?_; first | (refine cw_seq ?_) | (refine cw_region ?_) | (refine is_cd ?_; refine cw_false rfl (by first | assumption | exact decide_eq_false (by omega) | exact dec_notF (by omega)) ?_) | (refine cw_block ?_) | (refine cw_exit ?_)) | (refine is_qw ?_; first | (with_reducible refine qw_then ?_) | (with_reducible refine qw_in_hit ?_) | (with_reducible refine qw_then_exit ?_)) | (refine lw_nil ?_) | ((refine is_bin ?_; first | (refine lw_pure rfl (pv_lss rfl rfl) ?_))) | ((refine is_load ?_; first | (refine lw_pure rfl (pv_load (t1 rfl) rfl (by first | exact PT.ld0 (HX.mono hw) rfl | exact PT.ld (HX.mono hw) rfl | exact PT.ld0 (HY.mono hw) rfl | exact PT.ld (HY.mono hw) rfl)) ?_))) | ((refine is_fa ?_; first | (refine lw_pure rfl (pv_fa (tF rfl) rfl) ?_))) | ((refine is_bi ?_; first | (refine lw_pure rfl (pv_lenl (tS rfl) rfl) ?_))))
  refine cw_loop (σ := Nat) (fun k => [(2, .pointer (some ⟨N2, 0, none⟩)), (3, .pointer (some ⟨N3, 0, none⟩)), (7, .int .i64 (k : Nat))]) (fun k wr => k ≤ t.aucs.length ∧ Below wn.heap.size wn wr ∧ ∀ (j : Nat) x y, j < k → t.aucs[j]? = some x → u.aucs[j]? = some y → x = y) (fun k => t.aucs.length - k) 0 (by repeat' (first | exact trivial | refine ⟨rfl, ?_⟩)) ⟨Nat.zero_le _, hw, by omega⟩ ?_
  clear hw
  rintro k wr ⟨hk, hw, hn⟩
  by_cases hlt : k < t.aucs.length
  · have hxk : t.aucs[k]? = some t.aucs[k] := List.getElem?_eq_getElem hlt
    have hyk : u.aucs[k]? = some (u.aucs[k]'(by omega)) := List.getElem?_eq_getElem _
    generalize t.aucs[k] = x at hxk
    generalize u.aucs[k]'_ = y at hyk
    obtain ⟨x9, h9k, hR⟩ := HAs.at hxk
    obtain ⟨y9, g9k, hT⟩ := KAs.at hyk
    obtain ⟨ab, ao, rfl, -, -⟩ := HX9.at (by intro h; rw [h] at h9k; simp at h9k)
    obtain ⟨bb, bo, rfl, -, -⟩ := KX9.at (by intro h; rw [h] at g9k; simp at g9k)
    repeat' (first | (refine lw_pure rfl (pv_move rfl) ?_) | (refine is_cw ?_; first | (refine cw_seq ?_) | (refine cw_region ?_) | (refine is_cd ?_; refine cw_true rfl (by first | assumption | exact decide_eq_true (by omega) | exact dec_notT (by omega)) ?_) | (refine cw_skip ?_) | (refine cw_block ?_)) | (refine is_qw ?_; first | (with_reducible refine qw_then ?_)) | (refine lw_nil ?_) | ((refine is_bin ?_; first | (refine lw_pure rfl (pv_lss rfl rfl) ?_))) | ((refine is_load ?_; first | (refine lw_pure rfl (pv_load (t1 rfl) rfl (by first | exact PT.ld0 (HX.mono hw) rfl | exact PT.ld (HX.mono hw) rfl | exact PT.ld0 (HY.mono hw) rfl | exact PT.ld (HY.mono hw) rfl)) ?_))) | ((refine is_fa ?_; first | (refine lw_pure rfl (pv_fa (tF rfl) rfl) ?_))) | ((refine is_bi ?_; first | (refine lw_pure rfl (pv_lenl (tS rfl) rfl) ?_))))
    refine cw_drawn (fun w' => Below wn.heap.size wn w') (by kernel_rfl) (by repeat (first | exact NoPanic.body | with_reducible refine NoPanic.then ?_ | with_reducible refine NoPanic.inBlock ?_)) (fun hNP => ?_)
    have hS := hw.drew
    (refine at0 0 rfl (fun w' hq => pv_fa (tF rfl) rfl) ?_)
    (refine at0 1 rfl (fun w' hq => pv_load (t1 rfl) rfl (by first | exact PT.ld0 (HX.mono hq) rfl | exact PT.ld (HX.mono hq) rfl | exact PT.ld0 (HY.mono hq) rfl | exact PT.ld (HY.mono hq) rfl | exact SlR.ld (HX9.mono hq) h9k rfl | exact SlR.ld1 (HX9.mono hq) h9k rfl | exact SlR.ld (KX9.mono hq) g9k rfl | exact SlR.ld1 (KX9.mono hq) g9k rfl)) ?_)
    (refine at0 2 rfl (fun w' hq => pv_move rfl) ?_)
    (refine at0 3 rfl (fun w' hq => pv_ian (tS rfl) rfl rfl (by omega)) ?_)
    (refine at0 4 rfl (fun w' hq => pv_loada (tA rfl) rfl (by first | exact PT.lda (HX.mono hq) | exact PT.lda (HY.mono hq) | exact SlR.lda (HX9.mono hq) h9k | exact SlR.lda (KX9.mono hq) g9k) (by rfl)) ?_)
    (refine at0 5 rfl (fun w' hq => pv_fa (tF rfl) rfl) ?_)
    (refine at0 6 rfl (fun w' hq => pv_load (t1 rfl) rfl (by first | exact PT.ld0 (HX.mono hq) rfl | exact PT.ld (HX.mono hq) rfl | exact PT.ld0 (HY.mono hq) rfl | exact PT.ld (HY.mono hq) rfl | exact SlR.ld (HX9.mono hq) h9k rfl | exact SlR.ld1 (HX9.mono hq) h9k rfl | exact SlR.ld (KX9.mono hq) g9k rfl | exact SlR.ld1 (KX9.mono hq) g9k rfl)) ?_)
    (refine at0 7 rfl (fun w' hq => pv_move rfl) ?_)
    (refine at0 8 rfl (fun w' hq => pv_ian (tS rfl) rfl rfl (by omega)) ?_)
    (refine at0 9 rfl (fun w' hq => pv_loada (tA rfl) rfl (by first | exact PT.lda (HX.mono hq) | exact PT.lda (HY.mono hq) | exact SlR.lda (HX9.mono hq) h9k | exact SlR.lda (KX9.mono hq) g9k) (by rfl)) ?_)
    refine aw_act 10 (by kernel_rfl) rfl rfl rfl ?_
    refine act_call (f := 53) (by kernel_rfl) rfl (rasame_c (hR.mono hS) (hT.mono hS)) ?_; rintro e w1 ⟨rfl, hb⟩; refine ⟨_, rfl, grow_trans hS hb, fun hS => ?_⟩
    (refine at0 11 rfl (fun w' hq => pv_not rfl) ?_)
    refine aw_done (by kernel_rfl) ?_
    replace hw := hS; clear hS hNP
    by_cases hxy : x = y
    · rw [decide_eq_true hxy]
      repeat' (first | (refine lw_pure rfl (pv_move rfl) ?_) | (refine lw_pure rfl (pv_assign rfl) ?_) | (refine is_cw ?_; first | (refine cw_region ?_) | (refine cw_false rfl rfl ?_) | (refine cw_skip ?_)) | (refine is_qw ?_; first | (with_reducible refine qw_then ?_) | (with_reducible refine qw_in ?_)) | (refine lw_nil ?_) | ((refine is_bin ?_; first | (refine lw_pure rfl (pv_inc rfl rfl (by omega)) ?_))))
      refine qw_round (k + 1) (by repeat' (first | exact trivial | refine ⟨rfl, ?_⟩)) ⟨by omega, hw, ?_⟩ (by omega)
      intro j x' y' hj h1 h2
      by_cases hjk : j = k
      · subst hjk
        rw [hxk] at h1; rw [hyk] at h2
        injection h1 with h1; injection h2 with h2
        rw [← h1, ← h2, hxy]
      · exact hn j x' y' (by omega) h1 h2
    · rw [decide_eq_false hxy]
      repeat' (first | (refine lw_pure rfl (pv_assign rfl) ?_) | (refine is_cw ?_; first | (refine cw_seq ?_) | (refine cw_region ?_) | (refine cw_true rfl rfl ?_) | (refine cw_ret ?_)) | (refine is_qw ?_; first | (with_reducible refine qw_then ?_) | (with_reducible refine qw_then_ret ?_) | (with_reducible refine qw_in_ret ?_)) | (refine lw_nil ?_))
      refine qw_ret1 rfl rfl ⟨ret_bool ?_, (hE.mono hw).b⟩
      rw [decide_eq_false (p := t.aucs = u.aucs) (by intro e; rw [e, hyk] at hxk; injection hxk with hxk; exact hxy hxk.symm)]
      simp
  have hkl : k = t.aucs.length := by omega
  subst hkl
  rw [decide_eq_true (p := t.aucs = u.aucs) (all_ext (by omega) fun j x y h1 h2 => hn j x y (List.getElem?_eq_some_iff.1 h1).1 h1 h2)]
  clear hn hk hlt
  repeat' (first | (refine lw_pure rfl (pv_move rfl) ?_) | (refine lw_pure rfl (pv_assign rfl) ?_) | (refine is_cw ?_; first | (refine cw_seq ?_) | (refine cw_region ?_) | (refine is_cd ?_; refine cw_false rfl (by first | assumption | exact decide_eq_false (by omega) | exact dec_notF (by omega)) ?_) | (refine cw_exit ?_) | (refine cw_ret ?_)) | (refine is_qw ?_; first | (with_reducible refine qw_then ?_) | (with_reducible refine qw_in_hit ?_) | (with_reducible refine qw_then_exit ?_)) | (refine lw_nil ?_) | ((refine is_bin ?_; first | (refine lw_pure rfl (pv_lss rfl rfl) ?_))) | ((refine is_load ?_; first | (refine lw_pure rfl (pv_load (t1 rfl) rfl (by first | exact PT.ld0 (HX.mono hw) rfl | exact PT.ld (HX.mono hw) rfl | exact PT.ld0 (HY.mono hw) rfl | exact PT.ld (HY.mono hw) rfl)) ?_))) | ((refine is_fa ?_; first | (refine lw_pure rfl (pv_fa (tF rfl) rfl) ?_))) | ((refine is_bi ?_; first | (refine lw_pure rfl (pv_lenl (tS rfl) rfl) ?_))))
  exact qw_ret1 rfl rfl ⟨rfl, (hE.mono hw).b⟩

def waitsT (ops : Array Oper) : Nat → Nat → Nat → Bool
  | 0, _, _ => false
  | m + 1, f, i => match ops[f]? with
    | some o => o.after.toList.any fun e => Region.binds .any e && (Nat.beq e.on i || waitsT ops m e.on i)
    | none => false
def ClosedL (ops : Array Oper) (listed : Array Bool) : Prop := ∀ (j : Nat) (o : Oper), ops[j]? = some o → listed.getD j false = true → ∀ e ∈ o.after, Region.binds .any e = true → listed.getD e.on false = true
def closedB (ops : Array Oper) (listed : Array Bool) : Bool := (List.range ops.size).all fun j => match ops[j]? with
  | some o => !listed.getD j false || o.after.toList.all fun e => !Region.binds .any e || listed.getD e.on false
  | none => true
theorem closed_of {ops : Array Oper} {listed : Array Bool} (h : closedB ops listed = true) : ClosedL ops listed := fun j o ho hl e he hb => by
  have hj : j < ops.size := (Array.getElem?_eq_some_iff.1 ho).1
  have h1 := List.all_eq_true.1 h j (List.mem_range.2 hj)
  rw [ho] at h1
  dsimp only at h1
  rw [hl] at h1
  simp only [Bool.not_true, Bool.false_or] at h1
  have h2 := List.all_eq_true.1 h1 e (by simpa using he)
  rw [hb] at h2
  simpa using h2
theorem ClosedL.step {ops : Array Oper} {listed : Array Bool} (h : ClosedL ops listed) {i : Nat} (hi : i ∈ Region.ready .any ops listed) : ClosedL ops (listed.setIfInBounds i true) := fun j o ho hl e he hb => by
  by_cases hij : i = j
  · subst hij
    obtain ⟨_, o', ho', hall⟩ := mem_ready.1 hi
    rw [ho] at ho'; injection ho' with ho'; subst ho'
    exact getD_set_true (hall e he hb)
  · rw [getD_set_ne false hij] at hl
    exact getD_set_true (h j o ho hl e he hb)
theorem waitsT_listed {ops : Array Oper} {listed : Array Bool} (hc : ClosedL ops listed) : ∀ {m f i : Nat}, waitsT ops m f i = true → (∀ o, ops[f]? = some o → ∀ e ∈ o.after, Region.binds .any e = true → listed.getD e.on false = true) → listed.getD i false = true
  | 0, _, _, h, _ => by cases h
  | m + 1, f, i, h, hf => by
    unfold waitsT at h
    cases ho : ops[f]? with
    | none => rw [ho] at h; cases h
    | some o =>
      rw [ho] at h
      rw [List.any_eq_true] at h
      obtain ⟨e, he, h2⟩ := h
      rw [Bool.and_eq_true] at h2
      have hl := hf o ho e (by simpa using he) h2.1
      rcases (Bool.or_eq_true _ _).mp h2.2 with h3 | h3
      · rw [← Nat.eq_of_beq_eq_true h3]; exact hl
      · exact waitsT_listed hc h3 fun o' ho' e' he' hb' => hc e.on o' ho' hl e' he' hb'
section
variable {P : Program} {ops : Array Oper} {Q : Exit → Act → World → Prop} {U : World → Prop} {f : Nat}
theorem wpAnyF_firstT {i : Nat} {oi : Oper} {v : Value} {m : Nat} (hif : i ≠ f) (hwait : waitsT ops m f i = true) (hi : ops[i]? = some oi) (hsel : ∀ (j : Nat) (o : Oper) cs b, ops[j]? = some o → o.op ≠ .select cs b)
    (hQ : ∀ c a w, Q (.panic c) (a.put oi.dst v) w → Q (.panic c) a w) :
    ∀ (fuel : Nat) (listed : Array Bool) (a : Act) (w : World), ClosedL ops listed →
      (∀ j oj, ops[j]? = some oj → j ≠ i → listed.getD j true = false → (∀ e ∈ oj.after, Region.binds .any e = true → e.on ≠ i) → oi.apart ops oj = true) →
      i ∈ Region.ready .any ops listed → listed.getD f true = false → YieldsIf P ops U oi v a → U w →
      wpAnyF P .any ops Q f U fuel (listed.setIfInBounds i true) (a.put oi.dst v) w → wpAnyF P .any ops Q f U (fuel + 1) listed a w := by
  intro fuel
  induction fuel with
  | zero =>
    intro listed a w _ _ hr _ hy hS H
    refine ⟨fun h => (by rw [h] at hr; cases hr), fun j hj => ?_⟩
    by_cases hji : j = i
    · subst hji; exact hy.wpOp hi hS ⟨fun _ => hS, H⟩
    · have := ready_mono hj hji
      rw [H.1] at this
      cases this
  | succ fuel ih =>
    intro listed a w hcl hfree hr hf hy hS H
    refine ⟨fun h => (by rw [h] at hr; cases hr), fun j hj => ?_⟩
    by_cases hji : j = i
    · subst hji; exact hy.wpOp hi hS ⟨fun _ => hS, H⟩
    · have h1 := H.2 j (ready_mono hj hji)
      obtain ⟨hjun, oj, hoj, hall⟩ := mem_ready.1 hj
      have h0 := (mem_ready.1 hr).1
      have hlt : i < listed.size := by
        rcases Nat.lt_or_ge i listed.size with h' | h'
        · exact h'
        · simp [Array.getElem?_eq_none h'] at h0
      have h00 : listed.getD i false = false := by simpa [hlt] using h0
      have hun : ∀ e ∈ oj.after, Region.binds .any e = true → e.on ≠ i := fun e he hb heq => by
        have h1 := hall e he hb
        rw [heq, h00] at h1; cases h1
      have hjf : j ≠ f := fun e => by
        subst e
        have := waitsT_listed hcl hwait fun o' ho' e' he' hb' => by
          rw [hoj] at ho'; injection ho' with ho'; subst ho'
          exact hall e' he' hb'
        rw [h00] at this; cases this
      have h2 := wpOp_putIf hoj (hfree j oj hoj hji hjun hun) (fun cs b => hsel i oi cs b hi) (fun cs b => hsel j oj cs b hoj) hQ hy h1
      have hfree' : ∀ k ok, ops[k]? = some ok → k ≠ i → (listed.setIfInBounds j true).getD k true = false →
          (∀ e ∈ ok.after, Region.binds .any e = true → e.on ≠ i) → oi.apart ops ok = true := fun k ok hk hki hun hno => by
        refine hfree k ok hk hki ?_ hno
        by_cases hjk : j = k
        · subst hjk; exact hjun
        · rw [getD_set_ne true hjk] at hun; exact hun
      refine wpOp_mono (fun a' w' h3 => ?_) h2
      have hU' : U w' := h3.2.1 (by rw [getD_set_ne true hjf, getD_set_ne true hif]; exact hf)
      refine ⟨fun _ => hU', ih (listed.setIfInBounds j true) a' w' (hcl.step hj) hfree' (ready_mono hr (Ne.symm hji)) (by rw [getD_set_ne true hjf]; exact hf) h3.1 hU' ?_⟩
      rw [Array.setIfInBounds_comm _ _ hji]
      exact h3.2.2
end
section
variable {n : Nat} {l : Fr} {P : Program} {w : World} {Q : Exit → Act → World → Prop} {ops : Array Oper} {U : World → Prop} {fuel : Nat} {listed : Array Bool} {f : Nat}
theorem fw_takeT (i m : Nat) {d : Nat} {op : Op} {ty : TypeId} {pos : String} {af : Array Edge} {v : Value} (ho : ops[i]? = some ⟨some d, op, ty, pos, af, none⟩) (hwt : waitsT ops m f i = true) (hcl : closedB ops listed = true) (hif : Nat.beq i f = false) (hfl : listed.getD f true = false)
    (hs : Region.noSelect ops = true) (hf : Region.free .any ops listed i = true) (hr : (Region.ready .any ops listed).contains i = true) (hQ : NoPanic Q) (hU : U w) (hd : Nat.blt d n = true)
    (hv : ∀ w, U w → Pv P n l ⟨some d, op, ty, pos, af, none⟩ v w) (h : FW P n ops Q f U fuel (listed.setIfInBounds i true) ((d, v) :: l) w) : FW P n ops Q f U (fuel + 1) listed l w := ⟨fun a ha =>
  wpAnyF_firstT (fun e => by subst e; simp at hif) hwt ho (Region.noSelect_spec hs) (fun c a w => hQ c _ v a w) fuel listed a w (closed_of hcl) (Region.free_spec ho hf) (by simpa using hr) hfl (Or.inl ⟨rfl, fun w hw => (hv w hw).out a ha⟩) hU (h.out _ (ha.put hd v))⟩
theorem fw_one (i : Nat) {o : Oper} (hr : Region.ready .any ops listed = [i]) (ho : ops[i]? = some o) (hg : guardOn ops l o.guard = true) (hd : inD o.dst n = true) (hfs : (listed.setIfInBounds i true).getD f true = true)
    (h : Act1 P n l o w fun v w' => FW P n ops Q f U fuel (listed.setIfInBounds i true) (putD o.dst v l) w') : FW P n ops Q f U (fuel + 1) listed l w := ⟨fun a ha => by
  refine ⟨fun h0 => (by rw [hr] at h0; cases h0), fun j hj => ?_⟩
  rw [hr, List.mem_singleton] at hj; subst hj
  unfold wpOp; rw [ho]
  dsimp only
  rw [if_pos (wanted_of ha hg)]
  exact Or.inl (h.out a ha _ _ fun v w' hZ => ⟨fun hf => (by rw [hfs] at hf; cases hf), hZ.out _ (ha.putD hd v)⟩)⟩
theorem fw_done (hr : Region.ready .any ops listed = []) (h : QW n Q .normal l w) : FW P n ops Q f U fuel listed l w := ⟨fun a ha => by
  cases fuel with
  | zero => exact ⟨hr, h.out a ha⟩
  | succ m => exact ⟨fun _ => h.out a ha, by rw [hr]; simp⟩⟩
end
section
variable {P : Program} {n : Nat} {l : Fr} {w : World} {d : Option Nat} {t t' ty : TypeId} {x y : Operand} {pos : String} {af : Array Edge} {g : Option (Nat × Bool)} {a b : Int}
theorem u64_in (a : Int) (h : 0 ≤ a ∧ a ≤ 18446744073709551615) : IntKind.u64.wrap a = a := by
  rw [IntKind.wrap_u64]; omega
theorem pv_addu (hx : ev l x = some (.int .u64 a)) (hy : ev l y = some (.int .u64 b)) (h : 0 ≤ a + b ∧ a + b ≤ 18446744073709551615) : Pv P n l ⟨d, .binOp .add t x y t', ty, pos, af, g⟩ (.int .u64 (a + b)) w := by
  have := pv_add_w (P := P) (n := n) (w := w) (d := d) (ty := ty) (pos := pos) (af := af) (g := g) (t := t) (t' := t') hx hy
  rwa [u64_in _ h] at this
theorem pv_mulu (hx : ev l x = some (.int .u64 a)) (hy : ev l y = some (.int .u64 b)) (h : 0 ≤ a * b ∧ a * b ≤ 18446744073709551615) : Pv P n l ⟨d, .binOp .mul t x y t', ty, pos, af, g⟩ (.int .u64 (a * b)) w := by
  have := pv_mul_w (P := P) (n := n) (w := w) (d := d) (ty := ty) (pos := pos) (af := af) (g := g) (t := t) (t' := t') hx hy
  rwa [u64_in _ h] at this
theorem pv_convu (ht : cvB P t t' .u64 = true) {k : IntKind} (hx : ev l x = some (.int k a)) (h : 0 ≤ a ∧ a ≤ 18446744073709551615) : Pv P n l ⟨d, .convert t t' x, ty, pos, af, g⟩ (.int .u64 a) w := by
  have := pv_conv_w (P := P) (n := n) (w := w) (d := d) (ty := ty) (pos := pos) (af := af) (g := g) ht hx
  rwa [u64_in _ h] at this
theorem u64_and32 (n : Int) : bits .and .u64 n 4294967295 = n % 4294967296 := by
  have h127 : (BitVec.ofInt 64 4294967295).toNat = 2 ^ 32 - 1 := by decide
  have key : (BitVec.ofInt 64 n &&& BitVec.ofInt 64 4294967295).toNat = (n % ((2 ^ 64 : Nat) : Int)).toNat % 2 ^ 32 := by
    rw [BitVec.toNat_and, BitVec.toNat_ofInt, h127, Nat.and_two_pow_sub_one_eq_mod]
  show IntKind.u64.wrap ((BitVec.ofInt 64 n &&& BitVec.ofInt 64 4294967295).toNat : Nat) = n % 4294967296
  rw [key, IntKind.wrap_u64]
  omega
theorem pv_and32u (hx : ev l x = some (.int .u64 a)) (hy : ev l y = some (.int .u64 4294967295)) : Pv P n l ⟨d, .binOp .and t x y t', ty, pos, af, g⟩ (.int .u64 (a % 4294967296)) w := ⟨fun A hA => by
  have h : (Op.intBits .and .u64 a 4294967295 : Sem Value) = pure (.int .u64 (a % 4294967296)) := by rw [← u64_and32 a]; rfl
  simp [execOp, hA.ev hx, hA.ev hy, eqGuard, binOp, h]⟩
theorem pv_shr32u {k' : IntKind} (hx : ev l x = some (.int .u64 a)) (hy : ev l y = some (.int k' 32)) : Pv P n l ⟨d, .binOp .shr t x y t', ty, pos, af, g⟩ (.int .u64 (a / 4294967296)) w := by
  have h := pv_shr (P := P) (n := n) (w := w) (d := d) (ty := ty) (pos := pos) (af := af) (g := g) (t := t) (t' := t') hx hy (by omega)
  have e : a.fdiv (2 ^ (min (32 : Int).toNat IntKind.u64.bits)) = a / 4294967296 := by
    rw [show ((2 : Int) ^ (min (32 : Int).toNat IntKind.u64.bits)) = 4294967296 by decide, Int.fdiv_eq_ediv_of_nonneg _ (by omega)]
  rwa [e] at h
theorem pv_half {k k' : IntKind} {m q : Nat} (hx : ev l x = some (.int k a)) (hy : ev l y = some (.int k' 1)) (ha : a = (m : Int)) (hq : m / 2 = q) (hk : 1 ≤ k.bits) : Pv P n l ⟨d, .binOp .shr t x y t', ty, pos, af, g⟩ (.int k (q : Nat)) w := by
  have h := pv_shr (P := P) (n := n) (w := w) (d := d) (ty := ty) (pos := pos) (af := af) (g := g) (t := t) (t' := t') hx hy (by omega)
  have e : a.fdiv (2 ^ (min (1 : Int).toNat k.bits)) = (q : Nat) := by
    rw [show min (1 : Int).toNat k.bits = 1 by have : (1 : Int).toNat = 1 := rfl; omega, Int.fdiv_eq_ediv_of_nonneg _ (by decide), ha, ← hq]
    omega
  rwa [e] at h
end

set_option maxRecDepth 20000 in
theorem clone_Ac {xs : List Acc} {m : Nat} {ad : Option Addr} {cap : Nat} {w : World} (hm : xs.length = m) (HS : SlR encA 2 w ad cap xs) (hl : xs.length ≤ 1048576) : Calls Tryz.prog 39 #[.slice ad m cap] w fun e w' => (∃ v, e = .returned v ∧ Own encA 2 34 w.heap.size w' v xs) ∧ Below w.heap.size w w' := by
  subst hm
  have hw := Below.refl w.heap.size w
  refine fn_enter 8 Tryz.func39 rfl rfl rfl ?_
  cases ad with
  | none =>
    obtain ⟨rfl, rfl⟩ := HS.ofNone rfl
    repeat' (first | (refine lw_pure rfl (pv_move rfl) ?_) | (refine lw_pure rfl (pv_assign rfl) ?_) | (refine lw_pure rfl (pv_slnil (tS rfl) rfl rfl) ?_) | (refine is_cw ?_; first | (refine cw_seq ?_) | (refine cw_region ?_) | (refine cw_true rfl rfl ?_) | (refine cw_ret ?_)) | (refine is_qw ?_; first | (with_reducible refine qw_then ?_) | (with_reducible refine qw_then_ret ?_)) | (refine lw_nil ?_))
    exact qw_ret1 rfl rfl ⟨⟨_, rfl, Own.nil _⟩, hw⟩
  | some ad =>
    repeat' (first | (refine lw_pure rfl (pv_move rfl) ?_) | (refine lw_pure rfl (pv_assign rfl) ?_) | (refine lw_pure rfl (pv_slnil (tS rfl) rfl rfl) ?_) | (refine is_cw ?_; first | (refine cw_seq ?_) | (refine cw_region ?_) | (refine cw_false rfl rfl ?_) | (refine cw_skip ?_)) | (refine is_qw ?_; first | (with_reducible refine qw_then ?_)) | (refine lw_nil ?_))
    refine lw_bs0 (enc := encA) elemA rfl ?_; intro wn hO hb hz
    repeat' (first | (refine lw_pure rfl (pv_move rfl) ?_))
    refine lw_app elemA encA_len encA_one rfl rfl rfl hO (HS.mono (grow_trans hw hb)) rfl (by omega) (by simp; omega) (by simp [maxLen]; omega) ?_; intro vm wn hOm hg hb9
    replace hb := hb.trans hb9
    repeat' (first | (refine lw_pure rfl (pv_assign rfl) ?_) | (refine is_cw ?_; first | (refine cw_ret ?_)) | (refine is_qw ?_; first | (with_reducible refine qw_then ?_)) | (refine lw_nil ?_))
    exact qw_ret1 rfl rfl ⟨⟨_, rfl, hOm⟩, hb⟩

set_option maxRecDepth 20000 in
theorem clone_Nn {xs : List Ins} {m : Nat} {ad : Option Addr} {cap : Nat} {w : World} (hm : xs.length = m) (HS : SlR encN 3 w ad cap xs) (hl : xs.length ≤ 1048576) : Calls Tryz.prog 40 #[.slice ad m cap] w fun e w' => (∃ v, e = .returned v ∧ Own encN 3 37 w.heap.size w' v xs) ∧ Below w.heap.size w w' := by
  subst hm
  have hw := Below.refl w.heap.size w
  refine fn_enter 8 Tryz.func40 rfl rfl rfl ?_
  cases ad with
  | none =>
    obtain ⟨rfl, rfl⟩ := HS.ofNone rfl
    repeat' (first | (refine lw_pure rfl (pv_move rfl) ?_) | (refine lw_pure rfl (pv_assign rfl) ?_) | (refine lw_pure rfl (pv_slnil (tS rfl) rfl rfl) ?_) | (refine is_cw ?_; first | (refine cw_seq ?_) | (refine cw_region ?_) | (refine cw_true rfl rfl ?_) | (refine cw_ret ?_)) | (refine is_qw ?_; first | (with_reducible refine qw_then ?_) | (with_reducible refine qw_then_ret ?_)) | (refine lw_nil ?_))
    exact qw_ret1 rfl rfl ⟨⟨_, rfl, Own.nil _⟩, hw⟩
  | some ad =>
    repeat' (first | (refine lw_pure rfl (pv_move rfl) ?_) | (refine lw_pure rfl (pv_assign rfl) ?_) | (refine lw_pure rfl (pv_slnil (tS rfl) rfl rfl) ?_) | (refine is_cw ?_; first | (refine cw_seq ?_) | (refine cw_region ?_) | (refine cw_false rfl rfl ?_) | (refine cw_skip ?_)) | (refine is_qw ?_; first | (with_reducible refine qw_then ?_)) | (refine lw_nil ?_))
    refine lw_bs0 (enc := encN) elemIn rfl ?_; intro wn hO hb hz
    repeat' (first | (refine lw_pure rfl (pv_move rfl) ?_))
    refine lw_app elemIn encN_len encN_one rfl rfl rfl hO (HS.mono (grow_trans hw hb)) rfl (by omega) (by simp; omega) (by simp [maxLen]; omega) ?_; intro vm wn hOm hg hb9
    replace hb := hb.trans hb9
    repeat' (first | (refine lw_pure rfl (pv_assign rfl) ?_) | (refine is_cw ?_; first | (refine cw_ret ?_)) | (refine is_qw ?_; first | (with_reducible refine qw_then ?_)) | (refine lw_nil ?_))
    exact qw_ret1 rfl rfl ⟨⟨_, rfl, hOm⟩, hb⟩

set_option maxRecDepth 20000 in
theorem clone_Rw {xs : List Row} {m : Nat} {ad : Option Addr} {cap : Nat} {w : World} (hm : xs.length = m) (HS : SlR encR 4 w ad cap xs) (hl : xs.length ≤ 1048576) : Calls Tryz.prog 41 #[.slice ad m cap] w fun e w' => (∃ v, e = .returned v ∧ Own encR 4 39 w.heap.size w' v xs) ∧ Below w.heap.size w w' := by
  subst hm
  have hw := Below.refl w.heap.size w
  refine fn_enter 8 Tryz.func41 rfl rfl rfl ?_
  cases ad with
  | none =>
    obtain ⟨rfl, rfl⟩ := HS.ofNone rfl
    repeat' (first | (refine lw_pure rfl (pv_move rfl) ?_) | (refine lw_pure rfl (pv_assign rfl) ?_) | (refine lw_pure rfl (pv_slnil (tS rfl) rfl rfl) ?_) | (refine is_cw ?_; first | (refine cw_seq ?_) | (refine cw_region ?_) | (refine cw_true rfl rfl ?_) | (refine cw_ret ?_)) | (refine is_qw ?_; first | (with_reducible refine qw_then ?_) | (with_reducible refine qw_then_ret ?_)) | (refine lw_nil ?_))
    exact qw_ret1 rfl rfl ⟨⟨_, rfl, Own.nil _⟩, hw⟩
  | some ad =>
    repeat' (first | (refine lw_pure rfl (pv_move rfl) ?_) | (refine lw_pure rfl (pv_assign rfl) ?_) | (refine lw_pure rfl (pv_slnil (tS rfl) rfl rfl) ?_) | (refine is_cw ?_; first | (refine cw_seq ?_) | (refine cw_region ?_) | (refine cw_false rfl rfl ?_) | (refine cw_skip ?_)) | (refine is_qw ?_; first | (with_reducible refine qw_then ?_)) | (refine lw_nil ?_))
    refine lw_bs0 (enc := encR) elemR rfl ?_; intro wn hO hb hz
    repeat' (first | (refine lw_pure rfl (pv_move rfl) ?_))
    refine lw_app elemR encR_len encR_one rfl rfl rfl hO (HS.mono (grow_trans hw hb)) rfl (by omega) (by simp; omega) (by simp [maxLen]; omega) ?_; intro vm wn hOm hg hb9
    replace hb := hb.trans hb9
    repeat' (first | (refine lw_pure rfl (pv_assign rfl) ?_) | (refine is_cw ?_; first | (refine cw_ret ?_)) | (refine is_qw ?_; first | (with_reducible refine qw_then ?_)) | (refine lw_nil ?_))
    exact qw_ret1 rfl rfl ⟨⟨_, rfl, hOm⟩, hb⟩

set_option maxRecDepth 20000 in
theorem clone_Or {xs : List Ord} {m : Nat} {ad : Option Addr} {cap : Nat} {w : World} (hm : xs.length = m) (HS : SlR encO 6 w ad cap xs) (hl : xs.length ≤ 1048576) : Calls Tryz.prog 42 #[.slice ad m cap] w fun e w' => (∃ v, e = .returned v ∧ Own encO 6 41 w.heap.size w' v xs) ∧ Below w.heap.size w w' := by
  subst hm
  have hw := Below.refl w.heap.size w
  refine fn_enter 8 Tryz.func42 rfl rfl rfl ?_
  cases ad with
  | none =>
    obtain ⟨rfl, rfl⟩ := HS.ofNone rfl
    repeat' (first | (refine lw_pure rfl (pv_move rfl) ?_) | (refine lw_pure rfl (pv_assign rfl) ?_) | (refine lw_pure rfl (pv_slnil (tS rfl) rfl rfl) ?_) | (refine is_cw ?_; first | (refine cw_seq ?_) | (refine cw_region ?_) | (refine cw_true rfl rfl ?_) | (refine cw_ret ?_)) | (refine is_qw ?_; first | (with_reducible refine qw_then ?_) | (with_reducible refine qw_then_ret ?_)) | (refine lw_nil ?_))
    exact qw_ret1 rfl rfl ⟨⟨_, rfl, Own.nil _⟩, hw⟩
  | some ad =>
    repeat' (first | (refine lw_pure rfl (pv_move rfl) ?_) | (refine lw_pure rfl (pv_assign rfl) ?_) | (refine lw_pure rfl (pv_slnil (tS rfl) rfl rfl) ?_) | (refine is_cw ?_; first | (refine cw_seq ?_) | (refine cw_region ?_) | (refine cw_false rfl rfl ?_) | (refine cw_skip ?_)) | (refine is_qw ?_; first | (with_reducible refine qw_then ?_)) | (refine lw_nil ?_))
    refine lw_bs0 (enc := encO) elemO rfl ?_; intro wn hO hb hz
    repeat' (first | (refine lw_pure rfl (pv_move rfl) ?_))
    refine lw_app elemO encO_len encO_one rfl rfl rfl hO (HS.mono (grow_trans hw hb)) rfl (by omega) (by simp; omega) (by simp [maxLen]; omega) ?_; intro vm wn hOm hg hb9
    replace hb := hb.trans hb9
    repeat' (first | (refine lw_pure rfl (pv_assign rfl) ?_) | (refine is_cw ?_; first | (refine cw_ret ?_)) | (refine is_qw ?_; first | (with_reducible refine qw_then ?_)) | (refine lw_nil ?_))
    exact qw_ret1 rfl rfl ⟨⟨_, rfl, hOm⟩, hb⟩

set_option maxRecDepth 20000 in
theorem clone_Au {xs : List AucC} {m : Nat} {ad : Option Addr} {cap : Nat} {w : World} (hm : xs.length = m) (HS : SlR encC 9 w ad cap xs) (hl : xs.length ≤ 1048576) : Calls Tryz.prog 43 #[.slice ad m cap] w fun e w' => (∃ v, e = .returned v ∧ Own encC 9 44 w.heap.size w' v xs) ∧ Below w.heap.size w w' := by
  subst hm
  have hw := Below.refl w.heap.size w
  refine fn_enter 8 Tryz.func43 rfl rfl rfl ?_
  cases ad with
  | none =>
    obtain ⟨rfl, rfl⟩ := HS.ofNone rfl
    repeat' (first | (refine lw_pure rfl (pv_move rfl) ?_) | (refine lw_pure rfl (pv_assign rfl) ?_) | (refine lw_pure rfl (pv_slnil (tS rfl) rfl rfl) ?_) | (refine is_cw ?_; first | (refine cw_seq ?_) | (refine cw_region ?_) | (refine cw_true rfl rfl ?_) | (refine cw_ret ?_)) | (refine is_qw ?_; first | (with_reducible refine qw_then ?_) | (with_reducible refine qw_then_ret ?_)) | (refine lw_nil ?_))
    exact qw_ret1 rfl rfl ⟨⟨_, rfl, Own.nil _⟩, hw⟩
  | some ad =>
    repeat' (first | (refine lw_pure rfl (pv_move rfl) ?_) | (refine lw_pure rfl (pv_assign rfl) ?_) | (refine lw_pure rfl (pv_slnil (tS rfl) rfl rfl) ?_) | (refine is_cw ?_; first | (refine cw_seq ?_) | (refine cw_region ?_) | (refine cw_false rfl rfl ?_) | (refine cw_skip ?_)) | (refine is_qw ?_; first | (with_reducible refine qw_then ?_)) | (refine lw_nil ?_))
    refine lw_bs0 (enc := encC) elemC rfl ?_; intro wn hO hb hz
    repeat' (first | (refine lw_pure rfl (pv_move rfl) ?_))
    refine lw_app elemC encC_len encC_one rfl rfl rfl hO (HS.mono (grow_trans hw hb)) rfl (by omega) (by simp; omega) (by simp [maxLen]; omega) ?_; intro vm wn hOm hg hb9
    replace hb := hb.trans hb9
    repeat' (first | (refine lw_pure rfl (pv_assign rfl) ?_) | (refine is_cw ?_; first | (refine cw_ret ?_)) | (refine is_qw ?_; first | (with_reducible refine qw_then ?_)) | (refine lw_nil ?_))
    exact qw_ret1 rfl rfl ⟨⟨_, rfl, hOm⟩, hb⟩

set_option maxRecDepth 20000 in
theorem clone_Bd {xs : List Bid} {m : Nat} {ad : Option Addr} {cap : Nat} {w : World} (hm : xs.length = m) (HS : SlR encD 2 w ad cap xs) (hl : xs.length ≤ 1048576) : Calls Tryz.prog 44 #[.slice ad m cap] w fun e w' => (∃ v, e = .returned v ∧ Own encD 2 46 w.heap.size w' v xs) ∧ Below w.heap.size w w' := by
  subst hm
  have hw := Below.refl w.heap.size w
  refine fn_enter 8 Tryz.func44 rfl rfl rfl ?_
  cases ad with
  | none =>
    obtain ⟨rfl, rfl⟩ := HS.ofNone rfl
    repeat' (first | (refine lw_pure rfl (pv_move rfl) ?_) | (refine lw_pure rfl (pv_assign rfl) ?_) | (refine lw_pure rfl (pv_slnil (tS rfl) rfl rfl) ?_) | (refine is_cw ?_; first | (refine cw_seq ?_) | (refine cw_region ?_) | (refine cw_true rfl rfl ?_) | (refine cw_ret ?_)) | (refine is_qw ?_; first | (with_reducible refine qw_then ?_) | (with_reducible refine qw_then_ret ?_)) | (refine lw_nil ?_))
    exact qw_ret1 rfl rfl ⟨⟨_, rfl, Own.nil _⟩, hw⟩
  | some ad =>
    repeat' (first | (refine lw_pure rfl (pv_move rfl) ?_) | (refine lw_pure rfl (pv_assign rfl) ?_) | (refine lw_pure rfl (pv_slnil (tS rfl) rfl rfl) ?_) | (refine is_cw ?_; first | (refine cw_seq ?_) | (refine cw_region ?_) | (refine cw_false rfl rfl ?_) | (refine cw_skip ?_)) | (refine is_qw ?_; first | (with_reducible refine qw_then ?_)) | (refine lw_nil ?_))
    refine lw_bs0 (enc := encD) elemD rfl ?_; intro wn hO hb hz
    repeat' (first | (refine lw_pure rfl (pv_move rfl) ?_))
    refine lw_app elemD encD_len encD_one rfl rfl rfl hO (HS.mono (grow_trans hw hb)) rfl (by omega) (by simp; omega) (by simp [maxLen]; omega) ?_; intro vm wn hOm hg hb9
    replace hb := hb.trans hb9
    repeat' (first | (refine lw_pure rfl (pv_assign rfl) ?_) | (refine is_cw ?_; first | (refine cw_ret ?_)) | (refine is_qw ?_; first | (with_reducible refine qw_then ?_)) | (refine lw_nil ?_))
    exact qw_ret1 rfl rfl ⟨⟨_, rfl, hOm⟩, hb⟩

set_option maxRecDepth 20000 in
set_option maxHeartbeats 8000000 in
theorem copy_c {s : SttC} {t : Stt} {w : World} (hS0 : StR w s t) (hM : StSm t) : Calls Tryz.prog 19 #[(.agg (encS s).toArray)] w fun e w' => (∃ (qa : Option Addr) (da : Nat) (qi : Option Addr) (di : Nat) (qr : Option Addr) (dr : Nat) (qo : Option Addr) (d : Nat) (qx : Option Addr) (dx : Nat) (xs : List AucC), e = .returned (.agg (List.toArray [.int .i64 t.clock, .int .i64 t.fee, .int .i64 t.nord, .int .i64 t.nauc, .slice qa t.accs.length da, .slice qi t.inss.length di, .slice qr t.rows.length dr, .slice qo t.ords.length d, .slice qx t.aucs.length dx])) ∧ OwS w.heap.size w' ⟨t.clock, t.fee, t.nord, t.nauc, qa, t.accs.length, da, qi, t.inss.length, di, qr, t.rows.length, dr, qo, t.ords.length, d, qx, t.aucs.length, dx⟩ t xs) ∧ Below w.heap.size w w' := by
  have hE := Ext.refl w
  have hw := Below.refl w.heap.size w
  obtain ⟨c1, c2, c3, c4, pa, ma, ca, pi, mi, ci, pr, mr, cr, po, mo, co, px, mx, cx⟩ := s; obtain ⟨⟨e1, e2, e3, e4⟩, hma, hmi, hmr, hmo, hmx, HA, HI, HR, HO, HXs⟩ := hS0; simp only at e1 e2 e3 e4 hma hmi hmr hmo hmx HA HI HR HO HXs; subst e1 e2 e3 e4 hma hmi hmr hmo hmx
  obtain ⟨xs, HX9, HAs⟩ := HXs
  have hxn := HAs.1
  have hsx := hM.xs
  have hsl := sumX_len t.aucs
  have hro := hM.ro
  have hal := hM.al
  have hil := hM.il
  have HA0 := HA
  have HI0 := HI
  have HR0 := HR
  have HO0 := HO
  have HX0 := HX9
  have HS0 := HAs
  refine fn_enter 43 Tryz.func19 rfl rfl rfl ?_
  repeat' (first | (refine is_cw ?_; first | (refine cw_seq ?_) | (refine cw_region ?_)))
  refine lw_boxN rfl rfl (cs := [.int .i64 t.clock, .int .i64 t.fee, .int .i64 t.nord, .int .i64 t.nauc, .slice pa t.accs.length ca, .slice pi t.inss.length ci, .slice pr t.rows.length cr, .slice po t.ords.length co, .slice px t.aucs.length cx]) rfl ?_; intro N1 wn hN1 HX hb; replace hN1 := Nat.le_trans hw.size hN1; replace hw := grow_trans hw hb; clear hb
  replace hE := hE.mono hw; replace HA := HA.mono hw; replace HI := HI.mono hw; replace HR := HR.mono hw; replace HO := HO.mono hw; replace HX9 := HX9.mono hw; replace HAs := HAs.mono hw; clear hw; have hw := Below.refl wn.heap.size wn
  skip
  refine lw_allocN rfl (by first | exact tyv_29 | exact tyv_30 | exact tyv_33 | exact tyv_34 | exact tyv_36 | exact tyv_37 | exact tyv_38 | exact tyv_39 | exact tyv_40 | exact tyv_41 | exact tyv_43 | exact tyv_44 | exact tyv_45 | exact tyv_46 | exact tyv_73 | exact tyv_74 | exact tyv_80 | exact tyv_81 | exact tyv_107 | exact tyv_108 | exact tyv_123 | exact tyv_146 | exact tyv_147 | exact tyv_148 | exact tyv_149) rfl ?_; intro N2 w2 hN2 H2 hb
  have hn12 : N1 ≠ N2 := by have := HX.lt; omega
  have hB2 := hb
  replace hN2 := Nat.le_trans hE.b.size hN2
  replace HX := HX.mono hb
  replace HA := HA.mono hb
  replace HI := HI.mono hb
  replace HR := HR.mono hb
  replace HO := HO.mono hb
  replace HX9 := HX9.mono hb
  replace HAs := HAs.mono hb
  have hl2 := H2.lt
  clear hb hw
  have hz2 : w.heap.size ≤ w2.heap.size := (hE.mono hB2).b.size
  have hw := Below.refl w2.heap.size w2
  repeat' (first | (refine is_cw ?_; first | (refine cw_seq ?_)) | (refine is_qw ?_; first | (with_reducible refine qw_then ?_)) | (refine lw_nil ?_))
  refine cw_drawnF 7 (fun w' => Below w2.heap.size w2 w' ∧ True) (by kernel_rfl) (by repeat (first | exact NoPanic.body | with_reducible refine NoPanic.then ?_ | with_reducible refine NoPanic.inBlock ?_)) (fun hNP => ?_)
  have hU := And.intro hw.drew trivial
  first | (refine fw_takeT 0 9 rfl (by kernel_rfl) (by kernel_rfl) rfl rfl (by kernel_rfl) (by kernel_rfl) (by kernel_rfl) hNP hU rfl (fun w' hq => pv_fa (tF rfl) rfl) ?_)
  first | (refine fw_takeT 1 9 rfl (by kernel_rfl) (by kernel_rfl) rfl rfl (by kernel_rfl) (by kernel_rfl) (by kernel_rfl) hNP hU rfl (fun w' hq => pv_load (t1 rfl) rfl (by first | exact PT.ld0 (HX.mono hq.1) rfl | exact PT.ld (HX.mono hq.1) rfl)) ?_)
  first | (refine fw_takeT 3 9 rfl (by kernel_rfl) (by kernel_rfl) rfl rfl (by kernel_rfl) (by kernel_rfl) (by kernel_rfl) hNP hU rfl (fun w' hq => pv_fa (tF rfl) rfl) ?_)
  first | (refine fw_takeT 4 9 rfl (by kernel_rfl) (by kernel_rfl) rfl rfl (by kernel_rfl) (by kernel_rfl) (by kernel_rfl) hNP hU rfl (fun w' hq => pv_load (t1 rfl) rfl (by first | exact PT.ld0 (HX.mono hq.1) rfl | exact PT.ld (HX.mono hq.1) rfl)) ?_)
  refine fw_act 2 (by kernel_rfl) rfl rfl rfl ?_
  refine act_call (f := 39) (by kernel_rfl) rfl (clone_Ac rfl (HA.mono hU.1) (by omega)) ?_; rintro e5 w5 ⟨⟨v5, rfl, oA⟩, hb5⟩; obtain ⟨aA, cA, rfl⟩ := own_shapeM (m := t.accs.length) encA_len oA rfl; replace oA := oA.weaken (Nat.le_trans hz2 hU.1.size); refine ⟨_, rfl, ⟨grow_trans hU.1 hb5, trivial⟩, fun hU => ?_⟩
  first | (refine fw_takeT 6 9 rfl (by kernel_rfl) (by kernel_rfl) rfl rfl (by kernel_rfl) (by kernel_rfl) (by kernel_rfl) hNP hU rfl (fun w' hq => pv_fa (tF rfl) rfl) ?_)
  refine fw_act 5 (by kernel_rfl) rfl rfl rfl ?_
  refine act_call (f := 40) (by kernel_rfl) rfl (clone_Nn rfl (HI.mono hU.1) (by omega)) ?_; rintro e5 w5 ⟨⟨v5, rfl, oI⟩, hb5⟩; obtain ⟨aI, cI, rfl⟩ := own_shapeM (m := t.inss.length) encN_len oI rfl; replace oI := oI.weaken (Nat.le_trans hz2 hU.1.size); replace oA := oA.mono hb5; refine ⟨_, rfl, ⟨grow_trans hU.1 hb5, trivial⟩, fun hU => ?_⟩
  obtain ⟨hw, -⟩ := hU; clear hNP
  refine fw_one 7 (by kernel_rfl) rfl rfl rfl (by kernel_rfl) ?_
  refine act_store (HX.mono hw) (tZ rfl) rfl rfl rfl (by simp) ?_; intro w7 H7 hg7 hz7
  first | (refine fw_one 8 (by kernel_rfl) rfl rfl rfl (by kernel_rfl) ?_; refine act_pv (pv_fa (tF rfl) rfl) ?_)
  refine fw_one 9 (by kernel_rfl) rfl rfl rfl (by kernel_rfl) ?_
  refine act_store H7 (tZ rfl) rfl rfl rfl (by simp) ?_; intro w9 H9 hg9 hz9
  refine fw_done (by kernel_rfl) ?_
  have hT : Below w.heap.size w w9 := st_hw (st_hw (grow_trans (hE.mono hB2).b hw) hg7 hN1) hg9 hN1
  have n21 : N2 ≠ N1 := fun e => hn12 e.symm
  have oA9 := (oA.kept hg7 (Or.inr (own_ne_ptN oA (HX.mono hw) (by decide)))).kept hg9 (Or.inr (own_ne_ptN (oA.kept hg7 (Or.inr (own_ne_ptN oA (HX.mono hw) (by decide)))) H7 (by decide)))
  have oI9 := (oI.kept hg7 (Or.inr (own_ne_ptN oI (HX.mono hw) (by decide)))).kept hg9 (Or.inr (own_ne_ptN (oI.kept hg7 (Or.inr (own_ne_ptN oI (HX.mono hw) (by decide)))) H7 (by decide)))
  have H2z := pt_keptN (pt_keptN (H2.mono hw) hg7 n21) hg9 n21
  replace H9 : PT w9 N1 30 [.int .i64 t.clock, .int .i64 t.fee, .int .i64 t.nord, .int .i64 t.nauc, .slice aA t.accs.length cA, .slice aI t.inss.length cI, .slice pr t.rows.length cr, .slice po t.ords.length co, .slice px t.aucs.length cx] := H9
  clear hU hw oA oI HX H2 H7 hB2 hE hg7 hg9 hz7 hz9 HA HI HR HO HX9 HAs hz2 hb5
  have hz2 := hT.size
  have HR := HR0.mono hT
  have HO := HO0.mono hT
  have hw := Below.refl w9.heap.size w9
  repeat' (first | (refine is_cw ?_; first | (refine cw_seq ?_)) | (refine is_qw ?_; first | (with_reducible refine qw_then ?_)))
  refine cw_drawnF 7 (fun w' => Below w9.heap.size w9 w' ∧ True) (by kernel_rfl) (by repeat (first | exact NoPanic.body | with_reducible refine NoPanic.then ?_ | with_reducible refine NoPanic.inBlock ?_)) (fun hNP => ?_)
  have hU := And.intro hw.drew trivial
  first | (refine fw_takeT 0 9 rfl (by kernel_rfl) (by kernel_rfl) rfl rfl (by kernel_rfl) (by kernel_rfl) (by kernel_rfl) hNP hU rfl (fun w' hq => pv_fa (tF rfl) rfl) ?_)
  first | (refine fw_takeT 1 9 rfl (by kernel_rfl) (by kernel_rfl) rfl rfl (by kernel_rfl) (by kernel_rfl) (by kernel_rfl) hNP hU rfl (fun w' hq => pv_load (t1 rfl) rfl (by first | exact PT.ld0 (H9.mono hq.1) rfl | exact PT.ld (H9.mono hq.1) rfl)) ?_)
  first | (refine fw_takeT 3 9 rfl (by kernel_rfl) (by kernel_rfl) rfl rfl (by kernel_rfl) (by kernel_rfl) (by kernel_rfl) hNP hU rfl (fun w' hq => pv_fa (tF rfl) rfl) ?_)
  first | (refine fw_takeT 4 9 rfl (by kernel_rfl) (by kernel_rfl) rfl rfl (by kernel_rfl) (by kernel_rfl) (by kernel_rfl) hNP hU rfl (fun w' hq => pv_load (t1 rfl) rfl (by first | exact PT.ld0 (H9.mono hq.1) rfl | exact PT.ld (H9.mono hq.1) rfl)) ?_)
  refine fw_act 2 (by kernel_rfl) rfl rfl rfl ?_
  refine act_call (f := 41) (by kernel_rfl) rfl (clone_Rw rfl (HR.mono hU.1) (by omega)) ?_; rintro e5 w5 ⟨⟨v5, rfl, oR⟩, hb5⟩; obtain ⟨aR, cR, rfl⟩ := own_shapeM (m := t.rows.length) encR_len oR rfl; replace oR := oR.weaken (Nat.le_trans hz2 hU.1.size); refine ⟨_, rfl, ⟨grow_trans hU.1 hb5, trivial⟩, fun hU => ?_⟩
  first | (refine fw_takeT 6 9 rfl (by kernel_rfl) (by kernel_rfl) rfl rfl (by kernel_rfl) (by kernel_rfl) (by kernel_rfl) hNP hU rfl (fun w' hq => pv_fa (tF rfl) rfl) ?_)
  refine fw_act 5 (by kernel_rfl) rfl rfl rfl ?_
  refine act_call (f := 42) (by kernel_rfl) rfl (clone_Or rfl (HO.mono hU.1) (by omega)) ?_; rintro e5 w5 ⟨⟨v5, rfl, oO⟩, hb5⟩; obtain ⟨aO, cO, rfl⟩ := own_shapeM (m := t.ords.length) encO_len oO rfl; replace oO := oO.weaken (Nat.le_trans hz2 hU.1.size); replace oR := oR.mono hb5; refine ⟨_, rfl, ⟨grow_trans hU.1 hb5, trivial⟩, fun hU => ?_⟩
  obtain ⟨hw, -⟩ := hU; clear hNP
  refine fw_one 7 (by kernel_rfl) rfl rfl rfl (by kernel_rfl) ?_
  refine act_store (H9.mono hw) (tZ rfl) rfl rfl rfl (by simp) ?_; intro w7 H7 hg7 hz7
  first | (refine fw_one 8 (by kernel_rfl) rfl rfl rfl (by kernel_rfl) ?_; refine act_pv (pv_fa (tF rfl) rfl) ?_)
  refine fw_one 9 (by kernel_rfl) rfl rfl rfl (by kernel_rfl) ?_
  refine act_store H7 (tZ rfl) rfl rfl rfl (by simp) ?_; intro wB HB hg9 hz9
  refine fw_done (by kernel_rfl) ?_
  have hT2 : Below w.heap.size w wB := st_hw (st_hw (grow_trans hT hw) hg7 hN1) hg9 hN1
  have kp : ∀ {α : Type} {enc : α → List Value} {kk : Nat} {T : TypeId} {v : Value} {l : List α}, Own enc kk T w.heap.size w5 v l → T ≠ 30 → Own enc kk T w.heap.size wB v l := fun h hq => (h.kept hg7 (Or.inr (own_ne_ptN h (H9.mono hw) hq))).kept hg9 (Or.inr (own_ne_ptN (h.kept hg7 (Or.inr (own_ne_ptN h (H9.mono hw) hq))) H7 hq))
  have oAB := kp (oA9.mono hw) (by decide)
  have oIB := kp (oI9.mono hw) (by decide)
  have oRB := kp oR (by decide)
  have oOB := kp oO (by decide)
  have H2B := pt_keptN (pt_keptN (H2z.mono hw) hg7 n21) hg9 n21
  replace HB : PT wB N1 30 [.int .i64 t.clock, .int .i64 t.fee, .int .i64 t.nord, .int .i64 t.nauc, .slice aA t.accs.length cA, .slice aI t.inss.length cI, .slice aR t.rows.length cR, .slice aO t.ords.length cO, .slice px t.aucs.length cx] := HB
  clear kp hU hw oA9 oI9 oR oO H9 H2z H7 hT hg7 hg9 hz7 hz9 HR HO hz2 hb5
  have hz2 := hT2.size
  have HX9 := HX0.mono hT2
  have hw := Below.refl wB.heap.size wB
  repeat' (first | (refine is_cw ?_; first | (refine cw_seq ?_) | (refine cw_region ?_)) | (refine is_qw ?_; first | (with_reducible refine qw_then ?_)) | ((refine is_load ?_; first | (refine lw_pure rfl (pv_load (t1 rfl) rfl (by first | exact PT.ld0 (HB.mono hw) rfl | exact PT.ld (HB.mono hw) rfl)) ?_))) | ((refine is_fa ?_; first | (refine lw_pure rfl (pv_fa (tF rfl) rfl) ?_))))
  refine lw_call (f := 43) (by kernel_rfl) rfl rfl (clone_Au hxn (HX9.mono hw) (by omega)) ?_; rintro e5 w5 ⟨⟨v5, rfl, oX⟩, hb5⟩; refine ⟨_, rfl, ?_⟩
  obtain ⟨aX, cX, rfl⟩ := own_shapeM (m := t.aucs.length) encC_len oX hxn
  replace oX := oX.weaken (Nat.le_trans hz2 hw.size)
  replace hw := grow_trans hw hb5
  clear hb5
  repeat' (first | ((refine is_fa ?_; first | (refine lw_pure rfl (pv_fa (tF rfl) rfl) ?_))))
  refine lw_store (HB.mono hw) (tZ rfl) rfl rfl rfl (by simp) ?_; intro wC HC hg hz
  have hT3 : Below w.heap.size w wC := st_hw (grow_trans hT2 hw) hg hN1
  have kp : ∀ {α : Type} {enc : α → List Value} {kk : Nat} {T : TypeId} {v : Value} {l : List α}, Own enc kk T w.heap.size w5 v l → T ≠ 30 → Own enc kk T w.heap.size wC v l := fun h hq => h.kept hg (Or.inr (own_ne_ptN h (HB.mono hw) hq))
  have oAC := kp (oAB.mono hw) (by decide)
  have oIC := kp (oIB.mono hw) (by decide)
  have oRC := kp (oRB.mono hw) (by decide)
  have oOC := kp (oOB.mono hw) (by decide)
  have oXC := kp oX (by decide)
  have H2C := pt_keptN (H2B.mono hw) hg n21
  replace HC : PT wC N1 30 [.int .i64 t.clock, .int .i64 t.fee, .int .i64 t.nord, .int .i64 t.nauc, .slice aA t.accs.length cA, .slice aI t.inss.length cI, .slice aR t.rows.length cR, .slice aO t.ords.length cO, .slice aX t.aucs.length cX] := HC
  clear kp hw oAB oIB oRB oOB oX HB H2B hT2 hg hz hz2 HX9
  have hw := Below.refl wC.heap.size wC
  repeat' (first | (refine lw_pure rfl (pv_move rfl) ?_) | (refine is_cw ?_; first | (refine cw_seq ?_) | (refine cw_region ?_) | (refine cw_block ?_)) | (refine is_qw ?_; first | (with_reducible refine qw_then ?_)) | (refine lw_nil ?_) | ((refine is_load ?_; first | (refine lw_pure rfl (pv_load (t1 rfl) rfl (by first | exact PT.ld0 (HC.mono hw) rfl | exact PT.ld (HC.mono hw) rfl)) ?_))) | ((refine is_fa ?_; first | (refine lw_pure rfl (pv_fa (tF rfl) rfl) ?_))) | ((refine is_bi ?_; first | (refine lw_pure rfl (pv_lenl (tS rfl) rfl) ?_))))
  refine cw_loop (σ := Nat × List AucC) (fun q => [(1, .pointer (some ⟨N1, 0, none⟩)), (2, .pointer (some ⟨N2, 0, none⟩)), (26, .slice aX t.aucs.length cX), (27, .int .i64 (t.aucs.length : Nat)), (28, .int .i64 (q.1 : Nat))]) (fun q wr => q.1 ≤ t.aucs.length ∧ OwI w.heap.size N2 N1 w t aA aI aR aO aX cA cI cR cO cX q.1 q.2 wr ∧ ∀ j, q.1 ≤ j → q.2[j]? = xs[j]?) (fun q => t.aucs.length - q.1) (0, xs) (by repeat' (first | exact trivial | refine ⟨rfl, ?_⟩)) ⟨Nat.zero_le _, ⟨hT3, ⟨_, H2C, rfl⟩, HC, oAC, oIC, oRC, oOC, oXC, hxn, fun j x a hx ha => ⟨(HS0.2 j x a hx ha).h, fun h => absurd h (Nat.not_lt_zero _)⟩⟩, fun _ _ => rfl⟩ ?_
  clear hw HC H2C oAC oIC oRC oOC oXC hT3
  rintro ⟨k, ys⟩ wr ⟨hk, hI, hJ⟩
  dsimp only at hk hI hJ
  change CW _ _ _ _ [(1, .pointer (some ⟨N1, 0, none⟩)), (2, .pointer (some ⟨N2, 0, none⟩)), (26, .slice aX t.aucs.length cX), (27, .int .i64 (t.aucs.length : Nat)), (28, .int .i64 (k : Nat))] wr
  have hzr := hI.b.size
  have hw := Below.refl wr.heap.size wr
  have H3 := hI.h3
  by_cases hlt : k < t.aucs.length
  · have hak : t.aucs[k]? = some (t.aucs[k]'(by omega)) := List.getElem?_eq_getElem _
    generalize t.aucs[k]'(by omega) = a at hak
    obtain ⟨x, hxk, hR⟩ := HS0.at hak
    have hbl := sumX_mem (List.mem_of_getElem? hak)
    have hyk : ys[k]? = some x := by rw [hJ k (Nat.le_refl _), hxk]
    obtain ⟨g, rfl⟩ := own_some hI.X (by omega)
    obtain ⟨xh, ba, bm, bc⟩ := x
    obtain ⟨hh, hm, HB0⟩ := hR
    simp only at hh hm HB0
    subst hh hm
    have HB := HB0.mono hI.b
    have OXr := hI.X
    rw [← hI.L] at OXr
    obtain ⟨-, hgb, -⟩ := Own.heap' OXr
    have SX := (own_sl encC_len hI.X).2
    repeat' (first | (refine lw_pure rfl (pv_move rfl) ?_) | (refine is_cw ?_; first | (refine cw_seq ?_) | (refine cw_region ?_) | (refine is_cd ?_; refine cw_true rfl (by first | assumption | exact decide_eq_true (by omega) | exact dec_notT (by omega)) ?_) | (refine cw_skip ?_) | (refine cw_block ?_)) | (refine is_qw ?_; first | (with_reducible refine qw_then ?_)) | (refine lw_nil ?_) | ((refine is_bin ?_; first | (refine lw_pure rfl (pv_lss rfl rfl) ?_))) | ((refine is_load ?_; first | (refine lw_pure rfl (pv_loada (tA rfl) rfl (by first | exact SlR.lda (SX.mono hw) hyk) (by rfl)) ?_))) | ((refine is_ia ?_; first | (refine lw_pure rfl (pv_ian (tS rfl) rfl rfl (by omega)) ?_))))
    refine lw_allocN rfl (by first | exact tyv_29 | exact tyv_30 | exact tyv_33 | exact tyv_34 | exact tyv_36 | exact tyv_37 | exact tyv_38 | exact tyv_39 | exact tyv_40 | exact tyv_41 | exact tyv_43 | exact tyv_44 | exact tyv_45 | exact tyv_46 | exact tyv_73 | exact tyv_74 | exact tyv_80 | exact tyv_81 | exact tyv_107 | exact tyv_108 | exact tyv_123 | exact tyv_146 | exact tyv_147 | exact tyv_148 | exact tyv_149) rfl ?_; intro N4 w4 hN4 H4 hb
    replace hw := grow_trans hw hb
    clear hb
    repeat' (first | (refine lw_pure rfl (pv_assign rfl) ?_))
    refine lw_storea (vs := encC ⟨a.h, ba, a.bids.length, bc⟩) H4 (tZ rfl) rfl rfl rfl rfl (encC_one _) ?_; intro w5 H5 hg5 hz5
    have hw5 : Below wr.heap.size wr w5 := st_hw hw hg5 hN4
    clear hw hg5 hz5 H4
    have hw := Below.refl w5.heap.size w5
    have H35 := H3.mono hw5
    have HB5 := HB.mono hw5
    have OX5 := OXr.mono hw5
    have hI5 := Nat.le_trans hzr hw5.size
    repeat' (first | (refine is_qw ?_; first | (with_reducible refine qw_then ?_)) | (refine lw_nil ?_))
    refine cw_drawnF 8 (fun w' => Below w5.heap.size w5 w' ∧ True) (by kernel_rfl) (by repeat (first | exact NoPanic.body | with_reducible refine NoPanic.then ?_ | with_reducible refine NoPanic.inBlock ?_)) (fun hNP => ?_)
    have hU := And.intro hw.drew trivial
    first | (refine fw_take 0 rfl (by kernel_rfl) rfl rfl (by kernel_rfl) (by kernel_rfl) (by kernel_rfl) hNP hU rfl (fun w' hq => pv_fa (tF rfl) rfl) ?_)
    first | (refine fw_take 1 rfl (by kernel_rfl) rfl rfl (by kernel_rfl) (by kernel_rfl) (by kernel_rfl) hNP hU rfl (fun w' hq => pv_load (t1 rfl) rfl (by first | exact PT.ld0 hq.2 rfl | exact PT.ld hq.2 rfl)) ?_) | (refine fw_take 1 rfl (by kernel_rfl) rfl rfl (by kernel_rfl) (by kernel_rfl) (by kernel_rfl) hNP hU rfl (fun w' hq => pv_loada (tA rfl) rfl (by first | exact PT.lda hq.2) (by rfl)) ?_) | (refine fw_take 1 rfl (by kernel_rfl) rfl rfl (by kernel_rfl) (by kernel_rfl) (by kernel_rfl) hNP hU rfl (fun w' hq => pv_load (t1 rfl) rfl (by first | exact PT.ld0 (H35.mono hq.1) rfl | exact PT.ld (H35.mono hq.1) rfl | exact PT.ld0 (H5.mono hq.1) rfl | exact PT.ld (H5.mono hq.1) rfl)) ?_) | (refine fw_take 1 rfl (by kernel_rfl) rfl rfl (by kernel_rfl) (by kernel_rfl) (by kernel_rfl) hNP hU rfl (fun w' hq => pv_loada (tA rfl) rfl (by first | exact PT.lda (H35.mono hq.1) | exact PT.lda (H5.mono hq.1)) (by rfl)) ?_)
    first | (refine fw_take 2 rfl (by kernel_rfl) rfl rfl (by kernel_rfl) (by kernel_rfl) (by kernel_rfl) hNP hU rfl (fun w' hq => pv_move rfl) ?_)
    first | (refine fw_take 3 rfl (by kernel_rfl) rfl rfl (by kernel_rfl) (by kernel_rfl) (by kernel_rfl) hNP hU rfl (fun w' hq => pv_fa (tF rfl) rfl) ?_)
    first | (refine fw_take 4 rfl (by kernel_rfl) rfl rfl (by kernel_rfl) (by kernel_rfl) (by kernel_rfl) hNP hU rfl (fun w' hq => pv_load (t1 rfl) rfl (by first | exact PT.ld0 hq.2 rfl | exact PT.ld hq.2 rfl)) ?_) | (refine fw_take 4 rfl (by kernel_rfl) rfl rfl (by kernel_rfl) (by kernel_rfl) (by kernel_rfl) hNP hU rfl (fun w' hq => pv_loada (tA rfl) rfl (by first | exact PT.lda hq.2) (by rfl)) ?_) | (refine fw_take 4 rfl (by kernel_rfl) rfl rfl (by kernel_rfl) (by kernel_rfl) (by kernel_rfl) hNP hU rfl (fun w' hq => pv_load (t1 rfl) rfl (by first | exact PT.ld0 (H35.mono hq.1) rfl | exact PT.ld (H35.mono hq.1) rfl | exact PT.ld0 (H5.mono hq.1) rfl | exact PT.ld (H5.mono hq.1) rfl)) ?_) | (refine fw_take 4 rfl (by kernel_rfl) rfl rfl (by kernel_rfl) (by kernel_rfl) (by kernel_rfl) hNP hU rfl (fun w' hq => pv_loada (tA rfl) rfl (by first | exact PT.lda (H35.mono hq.1) | exact PT.lda (H5.mono hq.1)) (by rfl)) ?_)
    refine fw_act 5 (by kernel_rfl) rfl rfl rfl ?_
    refine act_call (f := 44) (by kernel_rfl) rfl (clone_Bd rfl (HB5.mono hU.1) (by omega)) ?_; rintro e6 w6 ⟨⟨v6, rfl, oB⟩, hb6⟩; obtain ⟨bA, bC, rfl⟩ := own_shapeM (m := a.bids.length) encD_len oB rfl; replace oB := oB.weaken (Nat.le_trans hI5 hU.1.size); refine ⟨_, rfl, ⟨grow_trans hU.1 hb6, trivial⟩, fun hU => ?_⟩
    first | (refine fw_act 6 (by kernel_rfl) rfl rfl rfl ?_; refine act_pv (pv_ian (tS rfl) rfl rfl (by omega)) ?_; refine ⟨hU, fun hU => ?_⟩) | (refine fw_act 6 (by kernel_rfl) rfl rfl rfl ?_; refine act_pv (pv_ia (tS rfl) rfl rfl (by omega)) ?_; refine ⟨hU, fun hU => ?_⟩)
    first | (refine fw_take 7 rfl (by kernel_rfl) rfl rfl (by kernel_rfl) (by kernel_rfl) (by kernel_rfl) hNP hU rfl (fun w' hq => pv_fa (tF rfl) rfl) ?_)
    refine fw_last (by kernel_rfl) rfl rfl rfl rfl (by kernel_rfl) ?_
    obtain ⟨hw, -⟩ := hU; clear hNP
    refine act_storeF (i := k) (f := 8) (a := ⟨a.h, ba, a.bids.length, bc⟩) (u := ⟨a.h, bA, a.bids.length, bC⟩) encC_len (tZ rfl) rfl (by omega) rfl rfl (OX5.mono hw) hyk rfl (by omega) ?_; intro wz OX2 hg hz
    repeat' (first | (refine lw_pure rfl (pv_move rfl) ?_) | (refine is_cw ?_; first | (refine cw_region ?_)) | (refine is_qw ?_; first | (with_reducible refine qw_then ?_) | (with_reducible refine qw_in ?_)) | (refine lw_nil ?_) | ((refine is_bin ?_; first | (refine lw_pure rfl (pv_inc rfl rfl (by omega)) ?_))))
    have hwz := grow_trans hw5 hw
    have hbz : Below w.heap.size w wz := st_hw (grow_trans hI.b hwz) hg hgb
    obtain ⟨c2, h2r, h2l⟩ := hI.h2
    have n3 : N1 ≠ g := fun e => own_ne_ptN OXr hI.h3 (by decide) (by rw [e]; rfl)
    have n2 : N2 ≠ g := fun e => own_ne_ptN OXr h2r (by decide) (by rw [e]; rfl)
    have hx : ∀ {α : Type} {enc : α → List Value} {kk : Nat} {T : TypeId} {v : Value} {l : List α}, Own enc kk T w.heap.size wr v l → T ≠ 44 → Own enc kk T w.heap.size wz v l := fun h hT => (h.mono hwz).kept hg (own_own_ne h OXr hT)
    refine qw_round (k + 1, ys.set k ⟨a.h, bA, a.bids.length, bC⟩) (by repeat' (first | exact trivial | refine ⟨rfl, ?_⟩)) ⟨by show k + 1 ≤ _; omega, ⟨hbz, ⟨c2, pt_keptN (h2r.mono hwz) hg n2, h2l⟩, pt_keptN (hI.h3.mono hwz) hg n3, hx hI.A (by decide), hx hI.I (by decide), hx hI.R (by decide), hx hI.O (by decide), ?_, ?_, ?_⟩, ?_⟩ (by show _ - (k + 1) < _ - k; omega)
    · dsimp only; rw [← hI.L]; exact OX2
    · simp [hI.L]
    · intro j x b hx1 hb1
      dsimp only at hx1 ⊢
      rcases Nat.decEq j k with hjk | hjk
      · rw [List.getElem?_set_ne (Ne.symm hjk)] at hx1
        obtain ⟨q1, q2⟩ := hI.B j x b hx1 hb1
        exact ⟨q1, fun hj => hx (q2 (by omega)) (by decide)⟩
      · subst hjk
        rw [hak] at hb1; injection hb1 with hb1; subst hb1
        rw [List.getElem?_set_self (List.getElem?_eq_some_iff.1 hyk).1] at hx1; injection hx1 with hx1; subst hx1
        exact ⟨rfl, fun _ => oB.kept hg (own_own_ne oB (OX5.mono hw) (by decide))⟩
    · intro j hj
      dsimp only at hj ⊢
      rw [List.getElem?_set_ne (by omega)]
      exact hJ j (by omega)
  · have hke : k = t.aucs.length := by omega
    subst hke
    repeat' (first | (refine is_cw ?_; first | (refine cw_seq ?_) | (refine cw_region ?_) | (refine is_cd ?_; refine cw_false rfl (by first | assumption | exact decide_eq_false (by omega) | exact dec_notF (by omega)) ?_) | (refine cw_exit ?_)) | (refine is_qw ?_; first | (with_reducible refine qw_then ?_) | (with_reducible refine qw_in_hit ?_) | (with_reducible refine qw_then_exit ?_)) | (refine lw_nil ?_) | ((refine is_bin ?_; first | (refine lw_pure rfl (pv_lss rfl rfl) ?_))) | ((refine is_load ?_; first | (refine lw_pure rfl (pv_loada (tA rfl) rfl (by first | exact PT.lda (H3.mono hw)) (by rfl)) ?_))))
    obtain ⟨c2, h2r, h2l⟩ := hI.h2
    refine lw_storea (vs := [.int .i64 t.clock, .int .i64 t.fee, .int .i64 t.nord, .int .i64 t.nauc, .slice aA t.accs.length cA, .slice aI t.inss.length cI, .slice aR t.rows.length cR, .slice aO t.ords.length cO, .slice aX t.aucs.length cX]) (h2r.mono hw) (tZ rfl) rfl rfl rfl h2l (by simp [Value.oneCell']) ?_; intro wz HZ hg hz
    repeat' (first | (refine is_cw ?_; first | (refine cw_ret ?_)) | (refine is_qw ?_; first | (with_reducible refine qw_then ?_)) | (refine lw_nil ?_))
    have hq : ∀ {α : Type} {enc : α → List Value} {kk : Nat} {T : TypeId} {v : Value} {l : List α}, Own enc kk T w.heap.size wr v l → T ≠ 30 → Own enc kk T w.heap.size wz v l := fun h hT => (h.mono hw).kept hg (Or.inr (own_ne_ptN (h.mono hw) (h2r.mono hw) hT))
    refine qw_retc rfl rfl (agg_ld (tA rfl) rfl HZ.lda) ⟨⟨aA, cA, aI, cI, aR, cR, aO, cO, aX, cX, ys, rfl, ⟨⟨rfl, rfl, rfl, rfl⟩, hq hI.A (by decide), hq hI.I (by decide), hq hI.R (by decide), hq hI.O (by decide), hq hI.X (by decide), hI.L, fun j x a hx ha => ?_⟩⟩, st_hw (grow_trans hI.b hw) hg hN2⟩
    have hj : j < t.aucs.length := (List.getElem?_eq_some_iff.1 ha).1
    obtain ⟨q1, q2⟩ := hI.B j x a hx ha
    exact ⟨q1, hq (q2 hj) (by decide)⟩

def ShB (base : Nat) (w : World) (a : Option Addr) (m k : Nat) (T : TypeId) : Prop := m = 0 ∨ ∃ g cs, a = some ⟨g, 0, none⟩ ∧ base ≤ g ∧ PT w g T cs ∧ m * k ≤ cs.length
theorem ShB.of {α : Type} {enc : α → List Value} {k base m c : Nat} {T : TypeId} {w : World} {a : Option Addr} {xs : List α} (hk : ∀ x, (enc x).length = k) (h : Own enc k T base w (.slice a m c) xs) : ShB base w a m k T := by
  by_cases hm : m = 0
  · exact Or.inl hm
  · obtain ⟨hl, -⟩ := own_sl hk h
    obtain ⟨g, rfl⟩ := own_some h (by omega)
    subst hl
    obtain ⟨cur, hb, hg, hle, hmax, hsz, htk⟩ := Own.heap' h
    refine Or.inr ⟨g, cur.toList, rfl, hb, by unfold PT; simpa using hg, ?_⟩
    show xs.length * k ≤ cur.size
    rw [hsz]; exact Nat.mul_le_mul_right k hle
theorem ShB.mono {base m k : Nat} {T : TypeId} {w w' : World} {a : Option Addr} (h : ShB base w a m k T) (hb : Below w.heap.size w w') : ShB base w' a m k T := by
  rcases h with h | ⟨g, cs, h1, h2, h3, h4⟩
  · exact Or.inl h
  · exact Or.inr ⟨g, cs, h1, h2, h3.mono hb, h4⟩
theorem ShB.st {base m k N i : Nat} {T T' : TypeId} {w w' : World} {a : Option Addr} {cs : List Value} {v : Value} (h : ShB base w a m k T) (hp : PT w N T' cs) (hq : PT w' N T' (cs.set i v)) (hg : w.grownBy w' (some N)) : ShB base w' a m k T := by
  rcases h with h | ⟨g, cs', h1, h2, h3, h4⟩
  · exact Or.inl h
  · by_cases e : g = N
    · subst e
      have h5 := h3
      unfold PT at h5 hp
      rw [hp] at h5
      injection h5 with h5; injection h5 with h6 h7 _
      subst h7
      have h8 : cs = cs' := by simpa using h6
      subst h8
      exact Or.inr ⟨g, _, h1, h2, hq, by rw [List.length_set]; exact h4⟩
    · exact Or.inr ⟨g, cs', h1, h2, pt_keptN h3 hg e, h4⟩
theorem ShB.kept {α : Type} {enc : α → List Value} {kk base B m k g M C : Nat} {T T' : TypeId} {w w' : World} {a : Option Addr} {xs : List α} (h : ShB base w a m k T) (ho : Own enc kk T' B w (.slice (some ⟨g, 0, none⟩) M C) xs) (hT : T' ≠ T) (hg : w.grownBy w' (some g)) : ShB base w' a m k T := by
  rcases h with h | ⟨q, cs', h1, h2, h3, h4⟩
  · exact Or.inl h
  · refine Or.inr ⟨q, cs', h1, h2, pt_keptN h3 hg fun e => ?_, h4⟩
    subst e
    exact own_ne_ptN ho h3 hT rfl
structure SpI (base N : Nat) (w0 : World) (c1 c2 c3 c4 : Int) (pa pi pr po px : Option Addr) (ma mi mr mo mx ca ci cr co cx : Nat) (xs : List AucC) (w : World) : Prop where
  b : Below base w0 w
  h : PT w N 30 [.int .i64 c1, .int .i64 c2, .int .i64 c3, .int .i64 c4, .slice pa ma ca, .slice pi mi ci, .slice pr mr cr, .slice po mo co, .slice px mx cx]
  A : ShB base w pa ma 2 34
  I : ShB base w pi mi 3 37
  R : ShB base w pr mr 4 39
  O : ShB base w po mo 6 41
  X : Own encC 9 44 base w (.slice px mx cx) xs
  B : ∀ x ∈ xs, ShB base w x.ba x.bm 2 46 ∧ x.bm ≤ 9223372036854775807
theorem SpI.mono {base N : Nat} {w0 w w' : World} {c1 c2 c3 c4 : Int} {pa pi pr po px : Option Addr} {ma mi mr mo mx ca ci cr co cx : Nat} {xs : List AucC} (h : SpI base N w0 c1 c2 c3 c4 pa pi pr po px ma mi mr mo mx ca ci cr co cx xs w) (hz : base ≤ w.heap.size) (hb : Below w.heap.size w w') : SpI base N w0 c1 c2 c3 c4 pa pi pr po px ma mi mr mo mx ca ci cr co cx xs w' :=
  ⟨h.b.trans (hb.mono hz), h.h.mono hb, h.A.mono hb, h.I.mono hb, h.R.mono hb, h.O.mono hb, h.X.mono hb, fun x hx => ⟨(h.B x hx).1.mono hb, (h.B x hx).2⟩⟩
theorem SpI.st {base N g i : Nat} {T : TypeId} {cs : List Value} {v : Value} {w0 w w' : World} {c1 c2 c3 c4 : Int} {pa pi pr po px : Option Addr} {ma mi mr mo mx ca ci cr co cx : Nat} {xs : List AucC} (h : SpI base N w0 c1 c2 c3 c4 pa pi pr po px ma mi mr mo mx ca ci cr co cx xs w) (hgb : base ≤ g) (hp : PT w g T cs) (hq : PT w' g T (cs.set i v)) (hg : w.grownBy w' (some g)) (h1 : T ≠ 30) (h2 : 44 ≠ T) : SpI base N w0 c1 c2 c3 c4 pa pi pr po px ma mi mr mo mx ca ci cr co cx xs w' := by
  refine ⟨h.b.grown hg (Nat.le_trans hgb (Nat.le_of_lt hp.lt)) (fun q e => by injection e with e; omega), pt_keptN h.h hg fun e => ?_, h.A.st hp hq hg, h.I.st hp hq hg, h.R.st hp hq hg, h.O.st hp hq hg, h.X.kept hg (Or.inr (own_ne_ptN h.X hp h2)), fun x hx => ⟨(h.B x hx).1.st hp hq hg, (h.B x hx).2⟩⟩
  subst e
  have h9 := h.h
  unfold PT at h9 hp
  rw [h9] at hp; injection hp with hp; injection hp with _ hp _; exact h1 hp.symm
set_option maxRecDepth 20000 in
set_option maxHeartbeats 4000000 in
theorem spoil_c {s : SttC} {t : Stt} {xs : List AucC} {base : Nat} {w : World} (hO : OwS base w s t xs) (hbw : base ≤ w.heap.size) : Calls Tryz.prog 22 #[(.agg (encS s).toArray)] w fun e w' => e = .returned (.tuple #[]) ∧ Below base w w' := by
  have hw := Below.refl w.heap.size w
  obtain ⟨c1, c2, c3, c4, pa, ma, ca, pi, mi, ci, pr, mr, cr, po, mo, co, px, mx, cx⟩ := s
  obtain ⟨-, A, I, R, O, X, L, B⟩ := hO
  dsimp only at A I R O X
  have hma : ma ≤ 9223372036854775807 := by obtain ⟨e, h⟩ := own_sl encA_len A; have := h.le; have := h.max; omega
  have hmi : mi ≤ 9223372036854775807 := by obtain ⟨e, h⟩ := own_sl encN_len I; have := h.le; have := h.max; omega
  have hmr : mr ≤ 9223372036854775807 := by obtain ⟨e, h⟩ := own_sl encR_len R; have := h.le; have := h.max; omega
  have hmo : mo ≤ 9223372036854775807 := by obtain ⟨e, h⟩ := own_sl encO_len O; have := h.le; have := h.max; omega
  have hmx : mx ≤ 9223372036854775807 := by obtain ⟨e, h⟩ := own_sl encC_len X; have := h.le; have := h.max; omega
  have hB0 : ∀ x ∈ xs, ShB base w x.ba x.bm 2 46 ∧ x.bm ≤ 9223372036854775807 := fun x hx => by
    obtain ⟨j, hj, rfl⟩ := List.getElem_of_mem hx
    have hb := (B j _ _ (List.getElem?_eq_getElem hj) (List.getElem?_eq_getElem (by rw [← L]; exact hj))).o
    refine ⟨ShB.of encD_len hb, ?_⟩
    obtain ⟨e, h⟩ := own_sl encD_len hb
    have := h.le; have := h.max; omega
  clear B L
  refine fn_enter 88 Tryz.func22 rfl rfl rfl ?_
  repeat' (first | (refine is_cw ?_; first | (refine cw_seq ?_) | (refine cw_region ?_)))
  refine lw_boxN rfl rfl (cs := [.int .i64 c1, .int .i64 c2, .int .i64 c3, .int .i64 c4, .slice pa ma ca, .slice pi mi ci, .slice pr mr cr, .slice po mo co, .slice px mx cx]) rfl ?_; intro N1 wn hN1 HX hb; replace hN1 := Nat.le_trans hw.size hN1; replace hw := grow_trans hw hb; clear hb
  have hI : SpI base N1 w c1 c2 c3 c4 pa pi pr po px ma mi mr mo mx ca ci cr co cx xs wn := ⟨hw.mono hbw, HX, (ShB.of encA_len A).mono hw, (ShB.of encN_len I).mono hw, (ShB.of encR_len R).mono hw, (ShB.of encO_len O).mono hw, X.mono hw, fun x hx => ⟨(hB0 x hx).1.mono hw, (hB0 x hx).2⟩⟩
  clear hw A I R O X hB0 HX
  have hw := Below.refl wn.heap.size wn
  repeat' (first | (refine lw_pure rfl (pv_assign rfl) ?_) | (refine is_cw ?_; first | (refine cw_seq ?_) | (refine cw_region ?_) | (refine cw_block ?_)) | (refine is_qw ?_; first | (with_reducible refine qw_then ?_)) | (refine lw_nil ?_))
  refine cw_loop (σ := Nat) (fun k => [(1, .pointer (some ⟨N1, 0, none⟩)), (2, .int .i64 (k : Nat))]) (fun k wr => k ≤ ma ∧ SpI base N1 w c1 c2 c3 c4 pa pi pr po px ma mi mr mo mx ca ci cr co cx xs wr) (fun k => ma - k) 0 (by repeat' (first | exact trivial | refine ⟨rfl, ?_⟩)) ⟨Nat.zero_le _, hI⟩ ?_
  clear hI hw
  rintro k wr ⟨hk, hI⟩
  have hw := Below.refl wr.heap.size wr
  have HX := hI.h
  by_cases hlt : k < ma
  · rcases hI.A with h | ⟨g, cs, rfl, hgb, hp, hl⟩
    · omega
    repeat' (first | (refine lw_pure rfl (pv_move rfl) ?_) | (refine is_cw ?_; first | (refine cw_seq ?_) | (refine cw_region ?_) | (refine is_cd ?_; refine cw_true rfl (by first | assumption | exact decide_eq_true (by omega) | exact dec_notT (by omega)) ?_) | (refine cw_skip ?_) | (refine cw_block ?_)) | (refine is_qw ?_; first | (with_reducible refine qw_then ?_)) | (refine lw_nil ?_) | ((refine is_bin ?_; first | (refine lw_pure rfl (pv_lss rfl rfl) ?_))) | ((refine is_load ?_; first | (refine lw_pure rfl (pv_load (t1 rfl) rfl (by first | exact PT.ld0 (HX.mono hw) rfl | exact PT.ld (HX.mono hw) rfl)) ?_))) | ((refine is_fa ?_; first | (refine lw_pure rfl (pv_fa (tF rfl) rfl) ?_))) | ((refine is_ia ?_; first | (refine lw_pure rfl (pv_ian (tS rfl) rfl rfl (by omega)) ?_))) | ((refine is_bi ?_; first | (refine lw_pure rfl (pv_lenl (tS rfl) rfl) ?_))))
    refine lw_store hp (tZ rfl) rfl rfl rfl (by omega) ?_; intro w2 hq hg hz
    repeat' (first | (refine lw_pure rfl (pv_move rfl) ?_) | (refine lw_pure rfl (pv_assign rfl) ?_) | (refine is_cw ?_; first | (refine cw_region ?_)) | (refine is_qw ?_; first | (with_reducible refine qw_then ?_) | (with_reducible refine qw_in ?_)) | (refine lw_nil ?_) | ((refine is_bin ?_; first | (refine lw_pure rfl (pv_inc rfl rfl (by omega)) ?_))))
    exact qw_round (k + 1) (by repeat' (first | exact trivial | refine ⟨rfl, ?_⟩)) ⟨by omega, hI.st hgb hp hq hg (by decide) (by decide)⟩ (by omega)
  repeat' (first | (refine lw_pure rfl (pv_move rfl) ?_) | (refine lw_pure rfl (pv_assign rfl) ?_) | (refine is_cw ?_; first | (refine cw_seq ?_) | (refine cw_region ?_) | (refine is_cd ?_; refine cw_false rfl (by first | assumption | exact decide_eq_false (by omega) | exact dec_notF (by omega)) ?_) | (refine cw_block ?_) | (refine cw_exit ?_)) | (refine is_qw ?_; first | (with_reducible refine qw_then ?_) | (with_reducible refine qw_in_hit ?_) | (with_reducible refine qw_then_exit ?_)) | (refine lw_nil ?_) | ((refine is_bin ?_; first | (refine lw_pure rfl (pv_lss rfl rfl) ?_))) | ((refine is_load ?_; first | (refine lw_pure rfl (pv_load (t1 rfl) rfl (by first | exact PT.ld0 (HX.mono hw) rfl | exact PT.ld (HX.mono hw) rfl)) ?_))) | ((refine is_fa ?_; first | (refine lw_pure rfl (pv_fa (tF rfl) rfl) ?_))) | ((refine is_bi ?_; first | (refine lw_pure rfl (pv_lenl (tS rfl) rfl) ?_))))
  clear hk hlt HX
  refine cw_loop (σ := Nat) (fun k => [(1, .pointer (some ⟨N1, 0, none⟩)), (3, .int .i64 (k : Nat))]) (fun k wr => k ≤ mi ∧ SpI base N1 w c1 c2 c3 c4 pa pi pr po px ma mi mr mo mx ca ci cr co cx xs wr) (fun k => mi - k) 0 (by repeat' (first | exact trivial | refine ⟨rfl, ?_⟩)) ⟨Nat.zero_le _, hI⟩ ?_
  clear hI hw
  rintro k wr ⟨hk, hI⟩
  have hw := Below.refl wr.heap.size wr
  have HX := hI.h
  by_cases hlt : k < mi
  · rcases hI.I with h | ⟨g, cs, rfl, hgb, hp, hl⟩
    · omega
    repeat' (first | (refine lw_pure rfl (pv_move rfl) ?_) | (refine is_cw ?_; first | (refine cw_seq ?_) | (refine cw_region ?_) | (refine is_cd ?_; refine cw_true rfl (by first | assumption | exact decide_eq_true (by omega) | exact dec_notT (by omega)) ?_) | (refine cw_skip ?_) | (refine cw_block ?_)) | (refine is_qw ?_; first | (with_reducible refine qw_then ?_)) | (refine lw_nil ?_) | ((refine is_bin ?_; first | (refine lw_pure rfl (pv_lss rfl rfl) ?_))) | ((refine is_load ?_; first | (refine lw_pure rfl (pv_load (t1 rfl) rfl (by first | exact PT.ld0 (HX.mono hw) rfl | exact PT.ld (HX.mono hw) rfl)) ?_))) | ((refine is_fa ?_; first | (refine lw_pure rfl (pv_fa (tF rfl) rfl) ?_))) | ((refine is_ia ?_; first | (refine lw_pure rfl (pv_ian (tS rfl) rfl rfl (by omega)) ?_))) | ((refine is_bi ?_; first | (refine lw_pure rfl (pv_lenl (tS rfl) rfl) ?_))))
    refine lw_store hp (tZ rfl) rfl rfl rfl (by omega) ?_; intro w2 hq hg hz
    repeat' (first | (refine lw_pure rfl (pv_move rfl) ?_) | (refine lw_pure rfl (pv_assign rfl) ?_) | (refine is_cw ?_; first | (refine cw_region ?_)) | (refine is_qw ?_; first | (with_reducible refine qw_then ?_) | (with_reducible refine qw_in ?_)) | (refine lw_nil ?_) | ((refine is_bin ?_; first | (refine lw_pure rfl (pv_inc rfl rfl (by omega)) ?_))))
    exact qw_round (k + 1) (by repeat' (first | exact trivial | refine ⟨rfl, ?_⟩)) ⟨by omega, hI.st hgb hp hq hg (by decide) (by decide)⟩ (by omega)
  repeat' (first | (refine lw_pure rfl (pv_move rfl) ?_) | (refine lw_pure rfl (pv_assign rfl) ?_) | (refine is_cw ?_; first | (refine cw_seq ?_) | (refine cw_region ?_) | (refine is_cd ?_; refine cw_false rfl (by first | assumption | exact decide_eq_false (by omega) | exact dec_notF (by omega)) ?_) | (refine cw_block ?_) | (refine cw_exit ?_)) | (refine is_qw ?_; first | (with_reducible refine qw_then ?_) | (with_reducible refine qw_in_hit ?_) | (with_reducible refine qw_then_exit ?_)) | (refine lw_nil ?_) | ((refine is_bin ?_; first | (refine lw_pure rfl (pv_lss rfl rfl) ?_))) | ((refine is_load ?_; first | (refine lw_pure rfl (pv_load (t1 rfl) rfl (by first | exact PT.ld0 (HX.mono hw) rfl | exact PT.ld (HX.mono hw) rfl)) ?_))) | ((refine is_fa ?_; first | (refine lw_pure rfl (pv_fa (tF rfl) rfl) ?_))) | ((refine is_bi ?_; first | (refine lw_pure rfl (pv_lenl (tS rfl) rfl) ?_))))
  clear hk hlt HX
  refine cw_loop (σ := Nat) (fun k => [(1, .pointer (some ⟨N1, 0, none⟩)), (4, .int .i64 (k : Nat))]) (fun k wr => k ≤ mr ∧ SpI base N1 w c1 c2 c3 c4 pa pi pr po px ma mi mr mo mx ca ci cr co cx xs wr) (fun k => mr - k) 0 (by repeat' (first | exact trivial | refine ⟨rfl, ?_⟩)) ⟨Nat.zero_le _, hI⟩ ?_
  clear hI hw
  rintro k wr ⟨hk, hI⟩
  have hw := Below.refl wr.heap.size wr
  have HX := hI.h
  by_cases hlt : k < mr
  · rcases hI.R with h | ⟨g, cs, rfl, hgb, hp, hl⟩
    · omega
    repeat' (first | (refine lw_pure rfl (pv_move rfl) ?_) | (refine is_cw ?_; first | (refine cw_seq ?_) | (refine cw_region ?_) | (refine is_cd ?_; refine cw_true rfl (by first | assumption | exact decide_eq_true (by omega) | exact dec_notT (by omega)) ?_) | (refine cw_skip ?_) | (refine cw_block ?_)) | (refine is_qw ?_; first | (with_reducible refine qw_then ?_)) | (refine lw_nil ?_) | ((refine is_bin ?_; first | (refine lw_pure rfl (pv_lss rfl rfl) ?_))) | ((refine is_load ?_; first | (refine lw_pure rfl (pv_load (t1 rfl) rfl (by first | exact PT.ld0 (HX.mono hw) rfl | exact PT.ld (HX.mono hw) rfl)) ?_))) | ((refine is_fa ?_; first | (refine lw_pure rfl (pv_fa (tF rfl) rfl) ?_))) | ((refine is_ia ?_; first | (refine lw_pure rfl (pv_ian (tS rfl) rfl rfl (by omega)) ?_))) | ((refine is_bi ?_; first | (refine lw_pure rfl (pv_lenl (tS rfl) rfl) ?_))))
    refine lw_store hp (tZ rfl) rfl rfl rfl (by omega) ?_; intro w2 hq hg hz
    repeat' (first | (refine lw_pure rfl (pv_move rfl) ?_) | (refine lw_pure rfl (pv_assign rfl) ?_) | (refine is_cw ?_; first | (refine cw_region ?_)) | (refine is_qw ?_; first | (with_reducible refine qw_then ?_) | (with_reducible refine qw_in ?_)) | (refine lw_nil ?_) | ((refine is_bin ?_; first | (refine lw_pure rfl (pv_inc rfl rfl (by omega)) ?_))))
    exact qw_round (k + 1) (by repeat' (first | exact trivial | refine ⟨rfl, ?_⟩)) ⟨by omega, hI.st hgb hp hq hg (by decide) (by decide)⟩ (by omega)
  repeat' (first | (refine lw_pure rfl (pv_move rfl) ?_) | (refine lw_pure rfl (pv_assign rfl) ?_) | (refine is_cw ?_; first | (refine cw_seq ?_) | (refine cw_region ?_) | (refine is_cd ?_; refine cw_false rfl (by first | assumption | exact decide_eq_false (by omega) | exact dec_notF (by omega)) ?_) | (refine cw_block ?_) | (refine cw_exit ?_)) | (refine is_qw ?_; first | (with_reducible refine qw_then ?_) | (with_reducible refine qw_in_hit ?_) | (with_reducible refine qw_then_exit ?_)) | (refine lw_nil ?_) | ((refine is_bin ?_; first | (refine lw_pure rfl (pv_lss rfl rfl) ?_))) | ((refine is_load ?_; first | (refine lw_pure rfl (pv_load (t1 rfl) rfl (by first | exact PT.ld0 (HX.mono hw) rfl | exact PT.ld (HX.mono hw) rfl)) ?_))) | ((refine is_fa ?_; first | (refine lw_pure rfl (pv_fa (tF rfl) rfl) ?_))) | ((refine is_bi ?_; first | (refine lw_pure rfl (pv_lenl (tS rfl) rfl) ?_))))
  clear hk hlt HX
  refine cw_loop (σ := Nat) (fun k => [(1, .pointer (some ⟨N1, 0, none⟩)), (5, .int .i64 (k : Nat))]) (fun k wr => k ≤ mo ∧ SpI base N1 w c1 c2 c3 c4 pa pi pr po px ma mi mr mo mx ca ci cr co cx xs wr) (fun k => mo - k) 0 (by repeat' (first | exact trivial | refine ⟨rfl, ?_⟩)) ⟨Nat.zero_le _, hI⟩ ?_
  clear hI hw
  rintro k wr ⟨hk, hI⟩
  have hw := Below.refl wr.heap.size wr
  have HX := hI.h
  by_cases hlt : k < mo
  · rcases hI.O with h | ⟨g, cs, rfl, hgb, hp, hl⟩
    · omega
    repeat' (first | (refine lw_pure rfl (pv_move rfl) ?_) | (refine is_cw ?_; first | (refine cw_seq ?_) | (refine cw_region ?_) | (refine is_cd ?_; refine cw_true rfl (by first | assumption | exact decide_eq_true (by omega) | exact dec_notT (by omega)) ?_) | (refine cw_skip ?_) | (refine cw_block ?_)) | (refine is_qw ?_; first | (with_reducible refine qw_then ?_)) | (refine lw_nil ?_) | ((refine is_bin ?_; first | (refine lw_pure rfl (pv_lss rfl rfl) ?_))) | ((refine is_load ?_; first | (refine lw_pure rfl (pv_load (t1 rfl) rfl (by first | exact PT.ld0 (HX.mono hw) rfl | exact PT.ld (HX.mono hw) rfl)) ?_))) | ((refine is_fa ?_; first | (refine lw_pure rfl (pv_fa (tF rfl) rfl) ?_))) | ((refine is_ia ?_; first | (refine lw_pure rfl (pv_ian (tS rfl) rfl rfl (by omega)) ?_))) | ((refine is_bi ?_; first | (refine lw_pure rfl (pv_lenl (tS rfl) rfl) ?_))))
    refine lw_store hp (tZ rfl) rfl rfl rfl (by omega) ?_; intro w2 hq hg hz
    repeat' (first | (refine lw_pure rfl (pv_move rfl) ?_) | (refine lw_pure rfl (pv_assign rfl) ?_) | (refine is_cw ?_; first | (refine cw_region ?_)) | (refine is_qw ?_; first | (with_reducible refine qw_then ?_) | (with_reducible refine qw_in ?_)) | (refine lw_nil ?_) | ((refine is_bin ?_; first | (refine lw_pure rfl (pv_inc rfl rfl (by omega)) ?_))))
    exact qw_round (k + 1) (by repeat' (first | exact trivial | refine ⟨rfl, ?_⟩)) ⟨by omega, hI.st hgb hp hq hg (by decide) (by decide)⟩ (by omega)
  repeat' (first | (refine lw_pure rfl (pv_move rfl) ?_) | (refine lw_pure rfl (pv_assign rfl) ?_) | (refine is_cw ?_; first | (refine cw_seq ?_) | (refine cw_region ?_) | (refine is_cd ?_; refine cw_false rfl (by first | assumption | exact decide_eq_false (by omega) | exact dec_notF (by omega)) ?_) | (refine cw_block ?_) | (refine cw_exit ?_)) | (refine is_qw ?_; first | (with_reducible refine qw_then ?_) | (with_reducible refine qw_in_hit ?_) | (with_reducible refine qw_then_exit ?_)) | (refine lw_nil ?_) | ((refine is_bin ?_; first | (refine lw_pure rfl (pv_lss rfl rfl) ?_))) | ((refine is_load ?_; first | (refine lw_pure rfl (pv_load (t1 rfl) rfl (by first | exact PT.ld0 (HX.mono hw) rfl | exact PT.ld (HX.mono hw) rfl)) ?_))) | ((refine is_fa ?_; first | (refine lw_pure rfl (pv_fa (tF rfl) rfl) ?_))) | ((refine is_bi ?_; first | (refine lw_pure rfl (pv_lenl (tS rfl) rfl) ?_))))
  clear hk hlt HX
  refine cw_loop (σ := Nat × List AucC) (fun q => [(1, .pointer (some ⟨N1, 0, none⟩)), (6, .int .i64 (q.1 : Nat))]) (fun q wr => q.1 ≤ mx ∧ SpI base N1 w c1 c2 c3 c4 pa pi pr po px ma mi mr mo mx ca ci cr co cx q.2 wr) (fun q => mx - q.1) (0, xs) (by repeat' (first | exact trivial | refine ⟨rfl, ?_⟩)) ⟨Nat.zero_le _, hI⟩ ?_
  clear hI hw
  rintro ⟨k, ys⟩ wr ⟨hk, hI⟩
  dsimp only at hk hI
  change CW _ _ _ _ [(1, .pointer (some ⟨N1, 0, none⟩)), (6, .int .i64 (k : Nat))] wr
  have hw := Below.refl wr.heap.size wr
  have HX := hI.h
  have hyl := (own_sl encC_len hI.X).1
  by_cases hlt : k < mx
  · obtain ⟨g, rfl⟩ := own_some hI.X (by omega)
    have hyk : ys[k]? = some (ys[k]'(by omega)) := List.getElem?_eq_getElem _
    generalize ys[k]'_ = x at hyk
    have hbm := (hI.B x (List.mem_of_getElem? hyk)).2
    repeat' (first | (refine lw_pure rfl (pv_move rfl) ?_) | (refine lw_pure rfl (pv_assign rfl) ?_) | (refine is_cw ?_; first | (refine cw_seq ?_) | (refine cw_region ?_) | (refine is_cd ?_; refine cw_true rfl (by first | assumption | exact decide_eq_true (by omega) | exact dec_notT (by omega)) ?_) | (refine cw_skip ?_) | (refine cw_block ?_)) | (refine is_qw ?_; first | (with_reducible refine qw_then ?_)) | (refine lw_nil ?_) | ((refine is_bin ?_; first | (refine lw_pure rfl (pv_lss rfl rfl) ?_))) | ((refine is_load ?_; first | (refine lw_pure rfl (pv_load (t1 rfl) rfl (by first | exact PT.ld0 (HX.mono hw) rfl | exact PT.ld (HX.mono hw) rfl)) ?_))) | ((refine is_fa ?_; first | (refine lw_pure rfl (pv_fa (tF rfl) rfl) ?_))) | ((refine is_bi ?_; first | (refine lw_pure rfl (pv_lenl (tS rfl) rfl) ?_))))
    refine cw_loop (σ := Nat) (fun j => [(1, .pointer (some ⟨N1, 0, none⟩)), (6, .int .i64 (k : Nat)), (7, .int .i64 (j : Nat))]) (fun j w3 => j ≤ x.bm ∧ SpI base N1 w c1 c2 c3 c4 pa pi pr po (some ⟨g, 0, none⟩) ma mi mr mo mx ca ci cr co cx ys w3) (fun j => x.bm - j) 0 (by repeat' (first | exact trivial | refine ⟨rfl, ?_⟩)) ⟨Nat.zero_le _, hI⟩ ?_
    clear hI hw HX
    rintro j w3 ⟨hj, hI⟩
    have hw := Below.refl w3.heap.size w3
    have HX := hI.h
    have SX := (own_sl encC_len hI.X).2
    by_cases hlj : j < x.bm
    · rcases (hI.B _ (List.mem_of_getElem? hyk)).1 with h | ⟨g9, cs, e9, hgb, hp, hl⟩
      · omega
      repeat' (first | (refine lw_pure rfl (pv_move rfl) ?_) | (refine is_cw ?_; first | (refine cw_seq ?_) | (refine cw_region ?_) | (refine is_cd ?_; refine cw_true rfl (by first | assumption | exact decide_eq_true (by omega) | exact dec_notT (by omega)) ?_) | (refine cw_skip ?_) | (refine cw_block ?_)) | (refine is_qw ?_; first | (with_reducible refine qw_then ?_)) | (refine lw_nil ?_) | ((refine is_bin ?_; first | (refine lw_pure rfl (pv_lss rfl rfl) ?_))) | ((refine is_load ?_; first | (refine lw_pure rfl (pv_load (t1 rfl) rfl (by first | exact PT.ld0 (HX.mono hw) rfl | exact PT.ld (HX.mono hw) rfl | exact SlR.ld (SX.mono hw) hyk rfl | exact SlR.ld1 (SX.mono hw) hyk rfl)) ?_))) | ((refine is_fa ?_; first | (refine lw_pure rfl (pv_fa (tF rfl) rfl) ?_))) | ((refine is_ia ?_; first | (refine lw_pure rfl (pv_ian (tS rfl) rfl rfl (by omega)) ?_))) | ((refine is_bi ?_; first | (refine lw_pure rfl (pv_lenl (tS rfl) rfl) ?_))))
      rw [e9]
      repeat' (first | ((refine is_fa ?_; first | (refine lw_pure rfl (pv_fa (tF rfl) rfl) ?_))) | ((refine is_ia ?_; first | (refine lw_pure rfl (pv_ian (tS rfl) rfl rfl (by omega)) ?_))))
      refine lw_store hp (tZ rfl) rfl rfl rfl (by omega) ?_; intro w2 hq hg hz
      repeat' (first | (refine lw_pure rfl (pv_move rfl) ?_) | (refine lw_pure rfl (pv_assign rfl) ?_) | (refine is_cw ?_; first | (refine cw_region ?_)) | (refine is_qw ?_; first | (with_reducible refine qw_then ?_) | (with_reducible refine qw_in ?_)) | (refine lw_nil ?_) | ((refine is_bin ?_; first | (refine lw_pure rfl (pv_inc rfl rfl (by omega)) ?_))))
      exact qw_round (j + 1) (by repeat' (first | exact trivial | refine ⟨rfl, ?_⟩)) ⟨by omega, hI.st hgb hp hq hg (by decide) (by decide)⟩ (by omega)
    have OX := hI.X
    subst hyl
    repeat' (first | (refine lw_pure rfl (pv_move rfl) ?_) | (refine is_cw ?_; first | (refine cw_seq ?_) | (refine cw_region ?_) | (refine is_cd ?_; refine cw_false rfl (by first | assumption | exact decide_eq_false (by omega) | exact dec_notF (by omega)) ?_) | (refine cw_exit ?_)) | (refine is_qw ?_; first | (with_reducible refine qw_then ?_) | (with_reducible refine qw_in_hit ?_) | (with_reducible refine qw_then_exit ?_)) | (refine lw_nil ?_) | ((refine is_bin ?_; first | (refine lw_pure rfl (pv_lss rfl rfl) ?_))) | ((refine is_load ?_; first | (refine lw_pure rfl (pv_load (t1 rfl) rfl (by first | exact PT.ld0 (HX.mono hw) rfl | exact PT.ld (HX.mono hw) rfl | exact SlR.ld (SX.mono hw) hyk rfl | exact SlR.ld1 (SX.mono hw) hyk rfl)) ?_))) | ((refine is_fa ?_; first | (refine lw_pure rfl (pv_fa (tF rfl) rfl) ?_))) | ((refine is_ia ?_; first | (refine lw_pure rfl (pv_ian (tS rfl) rfl rfl (by omega)) ?_))) | ((refine is_bi ?_; first | (refine lw_pure rfl (pv_lenl (tS rfl) rfl) ?_))))
    refine lw_storeF (i := k) (f := 0) (a := x) (u := ⟨{ x.h with id := -7 }, x.ba, x.bm, x.bc⟩) encC_len (tZ rfl) rfl (by omega) rfl rfl OX hyk rfl (by omega) ?_; intro w2 OX2 hg hz
    repeat' (first | (refine lw_pure rfl (pv_move rfl) ?_) | (refine lw_pure rfl (pv_assign rfl) ?_) | (refine is_cw ?_; first | (refine cw_region ?_)) | (refine is_qw ?_; first | (with_reducible refine qw_then ?_) | (with_reducible refine qw_in ?_)) | (refine lw_nil ?_) | ((refine is_bin ?_; first | (refine lw_pure rfl (pv_inc rfl rfl (by omega)) ?_))))
    obtain ⟨-, hgb, -⟩ := Own.heap' OX
    have hsz : base ≤ w3.heap.size := by obtain ⟨_, hb, hh, -⟩ := Own.heap' OX; have := (Array.getElem?_eq_some_iff.1 hh).1; omega
    refine qw_round (k + 1, ys.set k ⟨{ x.h with id := -7 }, x.ba, x.bm, x.bc⟩) (by repeat' (first | exact trivial | refine ⟨rfl, ?_⟩)) ⟨by show k + 1 ≤ _; omega, ⟨hI.b.grown hg hsz (fun q e => by injection e with e; omega), pt_keptN hI.h hg (fun e => by subst e; exact own_ne_ptN OX hI.h (by decide) rfl), hI.A.kept OX (by decide) hg, hI.I.kept OX (by decide) hg, hI.R.kept OX (by decide) hg, hI.O.kept OX (by decide) hg, OX2, fun y hy => ?_⟩⟩ (by show _ - (k + 1) < _ - k; omega)
    rcases List.mem_or_eq_of_mem_set hy with h1 | rfl
    · exact ⟨(hI.B y h1).1.kept OX (by decide) hg, (hI.B y h1).2⟩
    · exact ⟨((hI.B _ (List.mem_of_getElem? hyk)).1.kept OX (by decide) hg), (hI.B _ (List.mem_of_getElem? hyk)).2⟩
  repeat' (first | (refine lw_pure rfl (pv_move rfl) ?_) | (refine is_cw ?_; first | (refine cw_seq ?_) | (refine cw_region ?_) | (refine is_cd ?_; refine cw_false rfl (by first | assumption | exact decide_eq_false (by omega) | exact dec_notF (by omega)) ?_) | (refine cw_exit ?_)) | (refine is_qw ?_; first | (with_reducible refine qw_then ?_) | (with_reducible refine qw_in_hit ?_) | (with_reducible refine qw_then_exit ?_)) | (refine lw_nil ?_) | ((refine is_bin ?_; first | (refine lw_pure rfl (pv_lss rfl rfl) ?_))) | ((refine is_load ?_; first | (refine lw_pure rfl (pv_load (t1 rfl) rfl (by first | exact PT.ld0 (HX.mono hw) rfl | exact PT.ld (HX.mono hw) rfl)) ?_))) | ((refine is_fa ?_; first | (refine lw_pure rfl (pv_fa (tF rfl) rfl) ?_))) | ((refine is_bi ?_; first | (refine lw_pure rfl (pv_lenl (tS rfl) rfl) ?_))))
  exact qw_end0 rfl ⟨rfl, hI.b⟩

theorem StSm.okC {t : Stt} (h : StSm t) (hr : In64R t.rows) : StOk t := ⟨fun x hx => Nat.le_trans (Nat.le_of_lt (h.an x hx)) (by omega), fun x hx => Nat.le_trans (Nat.le_of_lt (h.im x hx)) (by omega), by have := h.al; omega, by have := h.il; omega, hr⟩
theorem OwS.monC {base : Nat} {w w' : World} {s : SttC} {t : Stt} {xs : List AucC} (h : OwS base w s t xs) (hb : Below w.heap.size w w') : OwS base w' s t xs := ⟨h.n, h.A.mono hb, h.I.mono hb, h.R.mono hb, h.O.mono hb, h.X.mono hb, h.L, fun j x a hx ha => ⟨(h.B j x a hx ha).h, (h.B j x a hx ha).o.mono hb⟩⟩
set_option maxRecDepth 20000 in
set_option maxHeartbeats 8000000 in
theorem copylaw_c {s : SttC} {t : Stt} {w : World} (hS0 : StR w s t) (hB : StBg t) : Calls Tryz.prog 5 #[(.agg (encS s).toArray)] w fun e w' => e = .returned (.bool true) ∧ Below w.heap.size w w' := by
  have hE := Ext.refl w
  have hw := Below.refl w.heap.size w
  have hSt := hS0
  obtain ⟨c1, c2, c3, c4, pa, ma, ca, pi, mi, ci, pr, mr, cr, po, mo, co, px, mx, cx⟩ := s; obtain ⟨⟨e1, e2, e3, e4⟩, hma, hmi, hmr, hmo, hmx, HA, HI, HR, HO, HXs⟩ := hS0; simp only at e1 e2 e3 e4 hma hmi hmr hmo hmx HA HI HR HO HXs; subst e1 e2 e3 e4 hma hmi hmr hmo hmx
  refine fn_enter 48 Tryz.func5 rfl rfl rfl ?_
  repeat' (first | (refine is_cw ?_; first | (refine cw_seq ?_) | (refine cw_region ?_)))
  refine lw_boxN rfl rfl (cs := [.int .i64 t.clock, .int .i64 t.fee, .int .i64 t.nord, .int .i64 t.nauc, .slice pa t.accs.length ca, .slice pi t.inss.length ci, .slice pr t.rows.length cr, .slice po t.ords.length co, .slice px t.aucs.length cx]) rfl ?_; intro N1 wn hN1 HX hb; replace hN1 := Nat.le_trans hw.size hN1; replace hw := grow_trans hw hb; clear hb
  replace hE := hE.mono hw; replace hSt := hSt.mono hw; clear hw; have hw := Below.refl wn.heap.size wn
  repeat' (first | (refine lw_pure rfl (pv_assign rfl) ?_) | (refine is_cw ?_; first | (refine cw_seq ?_) | (refine cw_region ?_)) | (refine is_qw ?_; first | (with_reducible refine qw_then ?_)) | (refine lw_nil ?_))
  refine lw_call (f := 8) (by kernel_rfl) rfl rfl (works_c _) ?_; rintro e w1 ⟨rfl, hb⟩; refine ⟨_, rfl, ?_⟩; replace hw := grow_trans hw hb; clear hb
  repeat' (first | (refine lw_pure rfl (pv_move rfl) ?_) | (refine is_guarded ?_; first | (refine lw_on rfl rfl rfl ?_)) | ((refine is_load ?_; first | (refine lw_pure rfl (pv_loada (tA rfl) rfl (by first | exact PT.lda (HX.mono hw)) (by rfl)) ?_))) | ((refine is_un ?_; first | (refine lw_pure rfl (pv_not rfl) ?_))))
  have hcp := weigh_c (hSt.mono hw) hB; dsimp only [encS] at hcp; refine lw_call (f := 16) (by kernel_rfl) rfl rfl hcp ?_; clear hcp; rintro e w1 ⟨⟨q, rfl, hQ⟩, hb⟩; refine ⟨_, rfl, ?_⟩; replace hw := grow_trans hw hb; clear hb
  by_cases hq : 1500 ≤ q
  · repeat' (first | (refine is_cw ?_; first | (refine cw_seq ?_) | (refine cw_region ?_) | (refine is_cd ?_; refine cw_true rfl (by first | assumption | exact decide_eq_true (by omega) | exact dec_notT (by omega)) ?_)) | (refine is_qw ?_; first | (with_reducible refine qw_then ?_)) | (refine lw_nil ?_) | (refine is_guarded ?_; first | (refine lw_on rfl rfl rfl ?_)) | ((refine is_bin ?_; first | (refine lw_pure rfl (pv_geq rfl rfl) ?_))) | (refine is_pk ?_; refine lw_pure rfl (pv_pick_f rfl rfl rfl) ?_))
    refine lw_call (f := 8) (by kernel_rfl) rfl rfl (works_c _) ?_; rintro e w1 ⟨rfl, hb⟩; refine ⟨_, rfl, ?_⟩; replace hw := grow_trans hw hb; clear hb
    repeat' (first | (refine lw_pure rfl (pv_assign rfl) ?_) | (refine is_cw ?_; first | (refine cw_ret ?_)) | (refine is_qw ?_; first | (with_reducible refine qw_then ?_) | (with_reducible refine qw_then_ret ?_)) | (refine lw_nil ?_))
    exact qw_ret1 rfl rfl ⟨rfl, (hE.mono hw).b⟩
  have hM := hQ (by omega)
  have hok := hM.okC hB.r
  repeat' (first | (refine is_cw ?_; first | (refine cw_seq ?_) | (refine cw_region ?_) | (refine is_cd ?_; refine cw_false rfl (by first | assumption | exact decide_eq_false (by omega) | exact dec_notF (by omega)) ?_) | (refine cw_skip ?_)) | (refine is_qw ?_; first | (with_reducible refine qw_then ?_)) | (refine lw_nil ?_) | (refine is_guarded ?_; first | (refine lw_on rfl rfl rfl ?_)) | ((refine is_bin ?_; first | (refine lw_pure rfl (pv_geq rfl rfl) ?_))) | ((refine is_load ?_; first | (refine lw_pure rfl (pv_loada (tA rfl) rfl (by first | exact PT.lda (HX.mono hw)) (by rfl)) ?_))) | (refine is_pk ?_; refine lw_pure rfl (pv_pick_f rfl rfl rfl) ?_))
  have hcp := own_c (hSt.mono hw) hM; dsimp only [encS] at hcp; refine lw_call (f := 18) (by kernel_rfl) rfl rfl hcp ?_; clear hcp; rintro e wo ⟨⟨xpa, xca, xpi, xci, xpr, xcr, xpo, xco, xpx, xcx, xs1, rfl, hO1⟩, hb⟩; refine ⟨_, rfl, ?_⟩
  have hR1 := hO1.stR
  clear hO1
  replace hw := grow_trans hw hb
  clear hb
  skip
  refine lw_varN rfl (by first | exact tyv_29 | exact tyv_30 | exact tyv_33 | exact tyv_34 | exact tyv_36 | exact tyv_37 | exact tyv_38 | exact tyv_39 | exact tyv_40 | exact tyv_41 | exact tyv_43 | exact tyv_44 | exact tyv_45 | exact tyv_46 | exact tyv_73 | exact tyv_74 | exact tyv_80 | exact tyv_81 | exact tyv_107 | exact tyv_108 | exact tyv_123 | exact tyv_146 | exact tyv_147 | exact tyv_148 | exact tyv_149) rfl (tZ rfl) (fun _ => rfl) rfl rfl ?_; intro N3 w4 hN3 H3 hb
  replace H3 : PT w4 N3 30 [.int .i64 t.clock, .int .i64 t.fee, .int .i64 t.nord, .int .i64 t.nauc, .slice xpa t.accs.length xca, .slice xpi t.inss.length xci, .slice xpr t.rows.length xcr, .slice xpo t.ords.length xco, .slice xpx t.aucs.length xcx] := H3
  replace hR1 := hR1.mono hb
  replace hw := grow_trans hw hb
  clear hb
  replace hE := hE.mono hw; replace hSt := hSt.mono hw; replace HX := HX.mono hw; clear hw; have hw := Below.refl w4.heap.size w4
  repeat' (first | (refine lw_pure rfl (pv_assign rfl) ?_) | (refine is_cw ?_; first | (refine cw_seq ?_) | (refine cw_region ?_) | (refine cw_block ?_)) | (refine is_qw ?_; first | (with_reducible refine qw_then ?_)) | (refine lw_nil ?_))
  refine cw_loop (σ := Nat) (fun j => [(1, .pointer (some ⟨N1, 0, none⟩)), (3, .pointer (some ⟨N3, 0, none⟩)), (4, .int .i64 (j : Nat))]) (fun j wr => Below w4.heap.size w4 wr) (fun j => 2 - j) 0 (by repeat' (first | exact trivial | refine ⟨rfl, ?_⟩)) hw ?_
  clear hw
  rintro j wr hw
  by_cases hj : j < 2
  · repeat' (first | (refine lw_pure rfl (pv_move rfl) ?_) | (refine is_cw ?_; first | (refine cw_seq ?_) | (refine cw_region ?_) | (refine is_cd ?_; refine cw_true rfl (by first | assumption | exact decide_eq_true (by omega) | exact dec_notT (by omega)) ?_) | (refine cw_skip ?_) | (refine cw_block ?_)) | (refine is_qw ?_; first | (with_reducible refine qw_then ?_)) | (refine lw_nil ?_) | ((refine is_bin ?_; first | (refine lw_pure rfl (pv_lss rfl rfl) ?_))) | ((refine is_load ?_; first | (refine lw_pure rfl (pv_loada (tA rfl) rfl (by first | exact PT.lda (HX.mono hw)) (by rfl)) ?_))))
    have hcp := copy_c (hSt.mono hw) hM; dsimp only [encS] at hcp; refine lw_call (f := 19) (by kernel_rfl) rfl rfl hcp ?_; clear hcp; rintro e wc ⟨⟨ypa, yca, ypi, yci, ypr, ycr, ypo, yco, ypx, ycx, ys1, rfl, hO2⟩, hb⟩; refine ⟨_, rfl, ?_⟩
    have hR2 := hO2.stR
    have hwr := hw
    replace hw := grow_trans hw hb
    have hwc := hb.size
    clear hb
    skip
    refine lw_varN rfl (by first | exact tyv_29 | exact tyv_30 | exact tyv_33 | exact tyv_34 | exact tyv_36 | exact tyv_37 | exact tyv_38 | exact tyv_39 | exact tyv_40 | exact tyv_41 | exact tyv_43 | exact tyv_44 | exact tyv_45 | exact tyv_46 | exact tyv_73 | exact tyv_74 | exact tyv_80 | exact tyv_81 | exact tyv_107 | exact tyv_108 | exact tyv_123 | exact tyv_146 | exact tyv_147 | exact tyv_148 | exact tyv_149) rfl (tZ rfl) (fun _ => rfl) rfl rfl ?_; intro N5 w5 hN5 H5 hb
    replace H5 : PT w5 N5 30 [.int .i64 t.clock, .int .i64 t.fee, .int .i64 t.nord, .int .i64 t.nauc, .slice ypa t.accs.length yca, .slice ypi t.inss.length yci, .slice ypr t.rows.length ycr, .slice ypo t.ords.length yco, .slice ypx t.aucs.length ycx] := H5
    replace hR2 := hR2.mono hb
    replace hO2 := hO2.monC hb
    replace hw := grow_trans hw hb
    have hw45 := hw
    have hsz := Nat.le_trans hwc hb.size
    clear hb hwc
    have HX5 := HX.mono hw45
    have H35 := H3.mono hw45
    have hS5 := hSt.mono hw45
    have hR5 := hR1.mono hw45
    clear hw
    have hw := Below.refl w5.heap.size w5
    have c1 := fun (w' : World) (hS' : Below w5.heap.size w5 w') => same_S (hR2.mono hS') (hS5.mono hS')
    have c2 := fun (w' : World) (hS' : Below w5.heap.size w5 w') => rsame_S (hR2.mono hS') (hR5.mono hS')
    have c3 := fun (w' : World) (hS' : Below w5.heap.size w5 w') => check_c (hR2.mono hS') hok
    have c4 := fun (w' : World) (hS' : Below w5.heap.size w5 w') => check_c (hS5.mono hS') hok
    have c5 := fun (w' : World) (hS' : Below w5.heap.size w5 w') (hq : wr.heap.size ≤ w'.heap.size) => spoil_c (hO2.monC hS') hq
    dsimp only [encS] at c1 c2 c3 c4 c5
    rw [decide_eq_true rfl] at c1 c2
    repeat' (first | (refine is_cw ?_; first | (refine cw_seq ?_)) | (refine is_qw ?_; first | (with_reducible refine qw_then ?_)) | (refine lw_nil ?_))
    refine cw_drawn (fun w' => Below w5.heap.size w5 w') (by kernel_rfl) (by repeat (first | exact NoPanic.body | with_reducible refine NoPanic.then ?_ | with_reducible refine NoPanic.inBlock ?_)) (fun hNP => ?_)
    have hS := hw.drew
    all_goals (refine at0 0 rfl (fun w' hq => pv_loada (tA rfl) rfl (by first | exact PT.lda (HX5.mono hq) | exact PT.lda (H35.mono hq) | exact PT.lda (H5.mono hq)) (by rfl)) ?_)
    all_goals (refine at0 1 rfl (fun w' hq => pv_loada (tA rfl) rfl (by first | exact PT.lda (HX5.mono hq) | exact PT.lda (H35.mono hq) | exact PT.lda (H5.mono hq)) (by rfl)) ?_)
    all_goals (refine aw_act 2 (by kernel_rfl) rfl rfl rfl ?_; refine act_call (f := 20) (by kernel_rfl) rfl (c1 _ hS) ?_; rintro e w1 ⟨rfl, hb⟩; refine ⟨_, rfl, grow_trans hS hb, fun hS => ?_⟩)
    all_goals (refine at0 3 rfl (fun w' hq => pv_not rfl) ?_)
    all_goals (refine at0 4 rfl (fun w' hq => pv_move rfl) ?_)
    all_goals (refine at1 5 rfl rfl rfl rfl (fun w' hq => pv_loada (tA rfl) rfl (by first | exact PT.lda (HX5.mono hq) | exact PT.lda (H35.mono hq) | exact PT.lda (H5.mono hq)) (by rfl)) ?_)
    all_goals (refine at1 6 rfl rfl rfl rfl (fun w' hq => pv_loada (tA rfl) rfl (by first | exact PT.lda (HX5.mono hq) | exact PT.lda (H35.mono hq) | exact PT.lda (H5.mono hq)) (by rfl)) ?_)
    all_goals first | (refine an3 7 rfl rfl rfl ?_) | (refine an0 7 rfl rfl rfl ?_) | (refine aw_act_g 7 (by kernel_rfl) rfl rfl rfl (by first | rfl | assumption | exact decide_eq_true (by omega) | exact decide_eq_false (by omega) | exact dec_notT (by omega) | exact dec_notF (by omega)) rfl ?_; refine act_call (f := 21) (by kernel_rfl) rfl (c2 _ hS) ?_; rintro e w1 ⟨rfl, hb⟩; refine ⟨_, rfl, grow_trans hS hb, fun hS => ?_⟩)
    all_goals (refine at1 8 rfl rfl rfl rfl (fun w' hq => pv_not rfl) ?_)
    all_goals (refine at0 9 rfl (fun w' hq => pv_pick_f rfl rfl rfl) ?_)
    all_goals (refine at0 10 rfl (fun w' hq => pv_move rfl) ?_)
    all_goals (refine at1 11 rfl rfl rfl rfl (fun w' hq => pv_loada (tA rfl) rfl (by first | exact PT.lda (HX5.mono hq) | exact PT.lda (H35.mono hq) | exact PT.lda (H5.mono hq)) (by rfl)) ?_)
    all_goals (refine at1 13 rfl rfl rfl rfl (fun w' hq => pv_loada (tA rfl) rfl (by first | exact PT.lda (HX5.mono hq) | exact PT.lda (H35.mono hq) | exact PT.lda (H5.mono hq)) (by rfl)) ?_)
    all_goals first | (refine an3 12 rfl rfl rfl ?_) | (refine an0 12 rfl rfl rfl ?_) | (refine aw_act_g 12 (by kernel_rfl) rfl rfl rfl (by first | rfl | assumption | exact decide_eq_true (by omega) | exact decide_eq_false (by omega) | exact dec_notT (by omega) | exact dec_notF (by omega)) rfl ?_; refine act_call (f := 9) (by kernel_rfl) rfl (c3 _ hS) ?_; rintro e w1 ⟨rfl, hb⟩; refine ⟨_, rfl, grow_trans hS hb, fun hS => ?_⟩)
    all_goals first | (refine an3 14 rfl rfl rfl ?_) | (refine an0 14 rfl rfl rfl ?_) | (refine aw_act_g 14 (by kernel_rfl) rfl rfl rfl (by first | rfl | assumption | exact decide_eq_true (by omega) | exact decide_eq_false (by omega) | exact dec_notT (by omega) | exact dec_notF (by omega)) rfl ?_; refine act_call (f := 9) (by kernel_rfl) rfl (c4 _ hS) ?_; rintro e w1 ⟨rfl, hb⟩; refine ⟨_, rfl, grow_trans hS hb, fun hS => ?_⟩)
    all_goals (refine at1 15 rfl rfl rfl rfl (fun w' hq => pv_sneqD rfl rfl) ?_)
    all_goals (refine at0 16 rfl (fun w' hq => pv_pick_f rfl rfl rfl) ?_)
    all_goals (refine aw_done (by kernel_rfl) ?_; replace hw := hS; clear hS hNP)
    have hdd : (!decide (checkF t = checkF t)) = false := by simp
    repeat' (first | (refine is_cw ?_; first | (refine cw_seq ?_) | (refine cw_region ?_) | (refine is_cd ?_; refine cw_false rfl (by first | assumption | exact decide_eq_false (by omega) | exact dec_notF (by omega)) ?_) | (refine cw_skip ?_)) | (refine is_qw ?_; first | (with_reducible refine qw_then ?_)) | ((refine is_load ?_; first | (refine lw_pure rfl (pv_loada (tA rfl) rfl (by first | exact PT.lda (H5.mono hw)) (by rfl)) ?_))))
    have hz9 := Nat.le_trans hsz hw.size
    refine lw_call (f := 22) (by kernel_rfl) rfl rfl (c5 _ hw hz9) ?_; rintro e w9 ⟨rfl, hb⟩; refine ⟨_, rfl, ?_⟩
    have hw9 : Below w4.heap.size w4 w9 := (grow_trans hw45 hw).trans (hb.mono hwr.size)
    clear c1 c2 c3 c4 c5 hw hb hw45
    have hw := Below.refl w9.heap.size w9
    have HX9 := HX.mono hw9
    have H39 := H3.mono hw9
    have hS9 := hSt.mono hw9
    have hR9 := hR1.mono hw9
    repeat' (first | (refine is_cw ?_; first | (refine cw_seq ?_) | (refine cw_region ?_)) | (refine is_qw ?_; first | (with_reducible refine qw_then ?_)) | (refine lw_nil ?_) | ((refine is_load ?_; first | (refine lw_pure rfl (pv_loada (tA rfl) rfl (by first | exact PT.lda (HX9.mono hw) | exact PT.lda (H39.mono hw)) (by rfl)) ?_))))
    have c1 := rsame_S (hS9.mono hw) (hR9.mono hw)
    rw [decide_eq_true rfl] at c1
    dsimp only [encS] at c1
    refine lw_call (f := 21) (by kernel_rfl) rfl rfl (c1) ?_; rintro e w1 ⟨rfl, hb⟩; refine ⟨_, rfl, ?_⟩; replace hw := grow_trans hw hb; clear hb
    repeat' (first | (refine lw_pure rfl (pv_move rfl) ?_) | (refine lw_pure rfl (pv_assign rfl) ?_) | (refine is_cw ?_; first | (refine cw_region ?_) | (refine cw_false rfl rfl ?_) | (refine cw_skip ?_)) | (refine is_qw ?_; first | (with_reducible refine qw_then ?_) | (with_reducible refine qw_in ?_)) | (refine lw_nil ?_) | ((refine is_bin ?_; first | (refine lw_pure rfl (pv_inc rfl rfl (by omega)) ?_))) | ((refine is_un ?_; first | (refine lw_pure rfl (pv_not rfl) ?_))))
    exact qw_round (j + 1) (by repeat' (first | exact trivial | refine ⟨rfl, ?_⟩)) (grow_trans hw9 hw) (by omega)
  repeat' (first | (refine lw_pure rfl (pv_move rfl) ?_) | (refine is_cw ?_; first | (refine cw_seq ?_) | (refine cw_region ?_) | (refine is_cd ?_; refine cw_false rfl (by first | assumption | exact decide_eq_false (by omega) | exact dec_notF (by omega)) ?_) | (refine cw_exit ?_)) | (refine is_qw ?_; first | (with_reducible refine qw_then ?_) | (with_reducible refine qw_in_hit ?_) | (with_reducible refine qw_then_exit ?_)) | (refine lw_nil ?_) | ((refine is_bin ?_; first | (refine lw_pure rfl (pv_lss rfl rfl) ?_))) | ((refine is_load ?_; first | (refine lw_pure rfl (pv_loada (tA rfl) rfl (by first | exact PT.lda (HX.mono hw) | exact PT.lda (H3.mono hw)) (by rfl)) ?_))))
  have c1 := same_S (hSt.mono hw) (hR1.mono hw)
  rw [decide_eq_true rfl] at c1
  dsimp only [encS] at c1
  refine lw_call (f := 20) (by kernel_rfl) rfl rfl (c1) ?_; rintro e w1 ⟨rfl, hb⟩; refine ⟨_, rfl, ?_⟩; replace hw := grow_trans hw hb; clear hb
  repeat' (first | (refine lw_pure rfl (pv_assign rfl) ?_) | (refine is_cw ?_; first | (refine cw_ret ?_)) | (refine is_qw ?_; first | (with_reducible refine qw_then ?_)) | (refine lw_nil ?_))
  exact qw_ret1 rfl rfl ⟨rfl, (hE.mono hw).b⟩
end Go.Proofs.YtekomjnjddhfmaaGreat
namespace Go.Proofs.YtekomjnjddhfmaaGreat
open Go.ChangeShapes Go.WideShapes Go.ChangeAt Go.RowKit

set_option maxRecDepth 100000 in
theorem stateCopies_lifted (os : Os) (started : os.Started) (H : Type) (enc : TypeId × Value → H) :
    ReturnsInHanded {} Tryz.checked os 5 .any (Rows.stateCopiesSpec.pre6 enc Tryz.prog Tryz.f5 Rows.stateCopiesRow.domain false) (Rows.stateCopiesSpec.post enc Tryz.prog Tryz.f5 false true false false) := by
  refine returnsInHanded_of_change_sized (C := Tryz.checked) seatOwn started (by kernel_rfl) Tryz.func5
    (ChangeSpec.witness6 (enc := enc) (C := Tryz.checked) false ⟨#[], #[.agg #[.int .i64 0, .int .i64 0, .int .i64 0, .int .i64 0, .slice none 0 0, .slice none 0 0, .slice none 0 0, .slice none 0 0, .slice none 0 0]], []⟩ 8 (by kernel_rfl) (by kernel_rfl) (by kernel_rfl) (by kernel_rfl)) ?_
  intro W base args ds gs before hval0 hW _ hZ _
  have hval : ∀ (j : Nat) t v, Tryz.f5.params[j]? = some t → args[j]? = some v → Value.okWide Tryz.prog W .any base t v := hval0
  have hW' := hW
  obtain ⟨p, q, hA0, hV, hpq, hfz, hnd⟩ := hW
  have hA : DataW.TrodAll enc Tryz.prog W 0 (fun _ => true) true Tryz.f5.params.toList args.toList ds p := hA0
  rw [Tryz.params5] at hA hval
  obtain ⟨args⟩ := args
  have hA1 : DataW.TrodAll enc Tryz.prog W 0 (fun _ => true) true _ args ds p := hA
  clear hA
  obtain ⟨v0, vs0, d0, ds0, p0, q0, hv0, hd0, hp0, h0, hr0⟩ := trodAll_cons hA1
  obtain ⟨hvn, hdn, hpn⟩ := trodAll_nil hr0
  subst hvn hdn hpn
  subst hv0 hd0 hp0
  obtain ⟨rfl, rfl⟩ := trodVars_none hV
  obtain ⟨ts, tt, rfl, tr, tb, ti⟩ := state_open (hval 0 _ v0 rfl rfl) h0 (wt_of hZ (j := 0) (by kernel_rfl) rfl)
  subst hpq
  refine (copylaw_c tr tb).mono fun e W' ⟨he, hw⟩ => ?_
  subst he
  have hB := below_trodAll hw (by decide +kernel) hA1
  rw [← Tryz.params5] at hB
  exact ⟨_, rfl, _, _, _, [], _, [], hW', trodAll_mk1 (shut_bool Tryz.underlying4 true), hB, rfl, hw.frame _, fun h => by cases h⟩
theorem stateCopies_holds : Rows.StateCopiesSaid :=
  OpenClaim.holds_of_wide 5 Tryz.f5 rfl rfl rfl rfl rfl rfl rfl ⟨rfl, rfl, rfl, rfl, rfl⟩ rfl rfl rfl rfl rfl (by kernel_rfl) Tryz.func5 (by kernel_rfl)
    (of_decide_eq_true (by kernel_rfl)) (by unfold Func.isWrapper; first | (rw [if_pos (by decide +kernel)]; kernel_rfl) | (rw [if_neg (by decide +kernel)]; exact ⟨rfl, rfl⟩))
    (fun os started H enc _ => stateCopies_lifted os started H enc)
#print axioms stateCopies_holds
end Go.Proofs.YtekomjnjddhfmaaGreat
