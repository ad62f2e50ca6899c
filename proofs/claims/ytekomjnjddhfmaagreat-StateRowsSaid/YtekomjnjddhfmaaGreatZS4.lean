/-
  StateRows: its row: whatever the input: true; the input reads as it did. Conditions: none.
-/
import Derived.Test.YtekomjnjddhfmaaGreatZS3
import Derived.SizedLaws
namespace Go.Proofs.YtekomjnjddhfmaaGreat
open Go.RowKit Go.PlainAid

structure StBg (t : Stt) : Prop where
  rl : t.rows.length ≤ 140737488355328
  ol : t.ords.length ≤ 140737488355328
  an : ∀ x ∈ t.accs, x.name.size ≤ 140737488355328
  im : ∀ x ∈ t.inss, x.name.size ≤ 140737488355328
  r : In64R t.rows
def sumX (l : List Auc) : Nat := (l.map fun a => 1 + a.bids.length).sum
theorem sumX_snoc {l : List Auc} {k : Nat} {a : Auc} (h : l[k]? = some a) : sumX (l.take (k + 1)) = sumX (l.take k) + (1 + a.bids.length) := by
  unfold sumX; rw [List.take_add_one, h]; simp
structure Wg (t : Stt) (ka ki kx n : Nat) : Prop where
  z : t.rows.length + t.ords.length ≤ n
  f : n < 3000 → t.rows.length + t.ords.length + ka + ki ≤ n ∧ (∀ (j : Nat) x, j < ka → t.accs[j]? = some x → x.name.size ≤ n) ∧ (∀ (j : Nat) x, j < ki → t.inss[j]? = some x → x.name.size ≤ n) ∧ sumX (t.aucs.take kx) ≤ n
structure StSm (t : Stt) : Prop where
  ro : t.rows.length + t.ords.length < 1500
  al : t.accs.length < 1500
  il : t.inss.length < 1500
  an : ∀ x ∈ t.accs, x.name.size < 1500
  im : ∀ x ∈ t.inss, x.name.size < 1500
  xs : sumX t.aucs < 1500
theorem pv_minK {P : Program} {n : Nat} {l : Fr} {w : World} {d : Option Nat} {g : Option (Nat × Bool)} {ty : TypeId} {pos : String} {af : Array Edge} {x y : Operand} {ts : Array TypeId} {m : Nat} (hx : ev l x = some (.int .i64 3000)) (hy : ev l y = some (.int .i64 (m : Int))) : Pv P n l ⟨d, .call ⟨.builtin .min, #[x, y], ts⟩, ty, pos, af, g⟩ (.int .i64 ((min 3000 m : Nat) : Int)) w := by
  have h := pv_min (P := P) (n := n) (w := w) (d := d) (g := g) (ty := ty) (pos := pos) (af := af) (ts := ts) hx hy
  rwa [show (if (m : Int) < 3000 then (m : Int) else 3000) = ((min 3000 m : Nat) : Int) by split <;> omega] at h
theorem pv_minL {P : Program} {n : Nat} {l : Fr} {w : World} {d : Option Nat} {g : Option (Nat × Bool)} {ty : TypeId} {pos : String} {af : Array Edge} {x y : Operand} {ts : Array TypeId} {m : Nat} (hx : ev l x = some (.int .i64 (m : Int))) (hy : ev l y = some (.int .i64 3000)) : Pv P n l ⟨d, .call ⟨.builtin .min, #[x, y], ts⟩, ty, pos, af, g⟩ (.int .i64 ((min 3000 m : Nat) : Int)) w := by
  have h := pv_min (P := P) (n := n) (w := w) (d := d) (g := g) (ty := ty) (pos := pos) (af := af) (ts := ts) hx hy
  rwa [show (if (3000 : Int) < (m : Int) then (3000 : Int) else (m : Int)) = ((min 3000 m : Nat) : Int) by split <;> omega] at h
theorem pv_addN {P : Program} {n : Nat} {l : Fr} {w : World} {d : Option Nat} {g : Option (Nat × Bool)} {t t' ty : TypeId} {pos : String} {af : Array Edge} {x y : Operand} {a b : Nat} (hx : ev l x = some (.int .i64 (a : Int))) (hy : ev l y = some (.int .i64 (b : Int))) (h : a + b ≤ 9223372036854775807) : Pv P n l ⟨d, .binOp .add t x y t', ty, pos, af, g⟩ (.int .i64 ((a + b : Nat) : Int)) w := by
  have h2 := pv_add (P := P) (n := n) (w := w) (d := d) (g := g) (t := t) (t' := t') (ty := ty) (pos := pos) (af := af) hx hy (by omega)
  rwa [show (a : Int) + (b : Int) = ((a + b : Nat) : Int) by omega] at h2
set_option maxRecDepth 20000 in
set_option maxHeartbeats 4000000 in
theorem weigh_c {s : SttC} {t : Stt} {w : World} (hS0 : StR w s t) (hB : StBg t) : Calls Tryz.prog 16 #[(.agg (encS s).toArray)] w fun e w' => (∃ n : Nat, e = .returned (.int .i64 (n : Int)) ∧ (n < 1500 → StSm t)) ∧ Below w.heap.size w w' := by
  have hE := Ext.refl w
  have hw := Below.refl w.heap.size w
  obtain ⟨c1, c2, c3, c4, pa, ma, ca, pi, mi, ci, pr, mr, cr, po, mo, co, px, mx, cx⟩ := s; obtain ⟨⟨e1, e2, e3, e4⟩, hma, hmi, hmr, hmo, hmx, HA, HI, HR, HO, HXs⟩ := hS0; simp only at e1 e2 e3 e4 hma hmi hmr hmo hmx HA HI HR HO HXs; subst e1 e2 e3 e4 hma hmi hmr hmo hmx
  have hal := HA.le
  have ham := HA.max
  have hil := HI.le
  have him := HI.max
  have hB1 := hB.rl
  have hB2 := hB.ol
  obtain ⟨xs, HX9, HAs⟩ := HXs
  have hxl := HX9.le
  have hxm := HX9.max
  have hxn := HAs.1
  refine fn_enter 82 Tryz.func16 rfl rfl rfl ?_
  repeat' (first | (refine is_cw ?_; first | (refine cw_seq ?_) | (refine cw_region ?_)))
  refine lw_boxN rfl rfl (cs := [.int .i64 t.clock, .int .i64 t.fee, .int .i64 t.nord, .int .i64 t.nauc, .slice pa t.accs.length ca, .slice pi t.inss.length ci, .slice pr t.rows.length cr, .slice po t.ords.length co, .slice px t.aucs.length cx]) rfl ?_; intro N2 wn hN2 HX hb; replace hN2 := Nat.le_trans hw.size hN2; replace hw := grow_trans hw hb; clear hb
  replace hE := hE.mono hw; replace HA := HA.mono hw; replace HI := HI.mono hw; replace HX9 := HX9.mono hw; replace HAs := HAs.mono hw; clear hw; have hw := Below.refl wn.heap.size wn
  repeat' ((fail_if_success (refine is_seqb ?_)); (fail_if_success (refine is_blk ?_)); first | (refine lw_pure rfl (pv_assign rfl) ?_) | (refine is_cw ?_; first | (refine cw_seq ?_) | (refine cw_region ?_)) | (refine is_qw ?_; first | (with_reducible refine qw_then ?_)) | (refine lw_nil ?_) | ((refine is_bin ?_; first | (refine lw_pure rfl (pv_add rfl rfl (by omega)) ?_))) | ((refine is_load ?_; first | (refine lw_pure rfl (pv_load (t1 rfl) rfl (by first | exact PT.ld0 (HX.mono hw) rfl | exact PT.ld (HX.mono hw) rfl)) ?_))) | ((refine is_fa ?_; first | (refine lw_pure rfl (pv_fa (tF rfl) rfl) ?_))) | ((refine is_bi ?_; first | (refine lw_pure rfl (pv_lenl (tS rfl) rfl) ?_))))
  refine cw_cutq (σ := Nat) (fun n => [(1, .pointer (some ⟨N2, 0, none⟩)), (3, .int .i64 (n : Int))]) (fun n wr => Below wn.heap.size wn wr ∧ Wg t t.accs.length 0 0 n ∧ n ≤ 281474976720000) ?_ ?_
  · repeat' (first | (refine is_cw ?_; first | (refine cw_block ?_)))
    refine cw_loop (σ := Nat × Nat) (fun q => [(1, .pointer (some ⟨N2, 0, none⟩)), (3, .int .i64 (q.2 : Int)), (4, .int .i64 (q.1 : Nat))]) (fun q wr => q.1 ≤ t.accs.length ∧ Below wn.heap.size wn wr ∧ Wg t q.1 0 0 q.2 ∧ q.2 ≤ 281474976720000) (fun q => t.accs.length - q.1) (0, t.rows.length + t.ords.length) (by repeat' (first | exact trivial | refine ⟨rfl, ?_⟩)) ⟨Nat.zero_le _, hw, ⟨Nat.le_refl _, fun _ => ⟨by omega, fun j x hj => by omega, fun j x hj => by omega, by simp [sumX]⟩⟩, by omega⟩ ?_
    clear hw
    rintro ⟨k, n⟩ wr ⟨hk, hw, hG, hn⟩
    dsimp only at hk hG hn
    change CW _ _ _ _ [(1, .pointer (some ⟨N2, 0, none⟩)), (3, .int .i64 (n : Int)), (4, .int .i64 (k : Nat))] wr
    by_cases hlt : k < t.accs.length ∧ n < 3000
    · obtain ⟨hlt, hn3⟩ := hlt
      have hxk : t.accs[k]? = some (t.accs[k]'(by omega)) := List.getElem?_eq_getElem _
      obtain ⟨ab, ao, rfl, -, -⟩ := HA.at (by intro h; rw [h] at hlt; simp at hlt)
      generalize t.accs[k]'(by omega) = x at hxk
      repeat' (first | (refine lw_pure rfl (pv_move rfl) ?_) | (refine lw_pure rfl (pv_assign rfl) ?_) | (refine is_cw ?_; first | (refine cw_seq ?_) | (refine cw_region ?_) | (refine is_cd ?_; refine cw_true rfl (by first | assumption | exact decide_eq_true (by omega) | exact dec_notT (by omega)) ?_) | (refine cw_skip ?_) | (refine cw_block ?_)) | (refine is_qw ?_; first | (with_reducible refine qw_then ?_) | (with_reducible refine qw_in ?_)) | (refine lw_nil ?_) | (refine is_guarded ?_; first | (refine lw_on rfl rfl (by first | assumption | exact decide_eq_true (by omega) | exact decide_eq_false (by omega) | exact dec_notT (by omega) | exact dec_notF (by omega)) ?_)) | ((refine is_bin ?_; first | (refine lw_pure rfl (pv_lss rfl rfl) ?_) | (refine lw_pure rfl (pv_inc rfl rfl (by omega)) ?_) | (refine lw_pure rfl (pv_add rfl rfl (by omega)) ?_))) | ((refine is_load ?_; first | (refine lw_pure rfl (pv_load (t1 rfl) rfl (by first | exact PT.ld0 (HX.mono hw) rfl | exact PT.ld (HX.mono hw) rfl | exact SlR.ld (HA.mono hw) hxk rfl | exact SlR.ld1 (HA.mono hw) hxk rfl)) ?_))) | ((refine is_fa ?_; first | (refine lw_pure rfl (pv_fa (tF rfl) rfl) ?_))) | ((refine is_ia ?_; first | (refine lw_pure rfl (pv_ian (tS rfl) rfl rfl (by omega)) ?_))) | ((refine is_bi ?_; first | (refine lw_pure rfl (pv_minK rfl rfl) ?_) | (refine lw_pure rfl (pv_lenl (tS rfl) rfl) ?_) | (refine lw_pure rfl (pv_lens (tStr rfl) rfl) ?_))) | (refine is_pk ?_; refine lw_pure rfl (pv_pick_t rfl (by first | assumption | exact decide_eq_true (by omega) | exact dec_notT (by omega)) rfl) ?_))
      obtain ⟨f1, f2, f3, f4⟩ := hG.f hn3
      refine qw_round (k + 1, n + 1 + min 3000 x.name.size) (by repeat' (first | exact trivial | refine ⟨rfl, ?_⟩)) ⟨by show k + 1 ≤ _; omega, hw, ⟨by have := hG.z; omega, fun hn9 => ⟨by omega, fun j u hj hu => ?_, fun j u hj hu => by omega, by simp [sumX]⟩⟩, by show n + 1 + _ ≤ _; omega⟩ (by show t.accs.length - (k + 1) < t.accs.length - k; omega)
      by_cases hjk : j = k
      · subst hjk; rw [hxk] at hu; injection hu with hu; subst hu; omega
      · have := f2 j u (by omega) hu; omega
    · have hA : Wg t t.accs.length 0 0 n := by
        refine ⟨hG.z, fun hn9 => ?_⟩
        have hkl : k = t.accs.length := by omega
        have := hG.f hn9
        rw [hkl] at this; exact this
      repeat' (first | (refine lw_pure rfl (pv_move rfl) ?_) | (refine is_cw ?_; first | (refine cw_seq ?_) | (refine cw_region ?_) | (refine cw_false rfl rfl ?_) | (refine is_cd ?_; refine cw_false rfl (by first | assumption | exact decide_eq_false (by omega) | exact dec_notF (by omega)) ?_) | (refine cw_exit ?_)) | (refine is_qw ?_; first | (with_reducible refine qw_then ?_) | (with_reducible refine qw_in_hit ?_) | (with_reducible refine qw_then_exit ?_)) | (refine lw_nil ?_) | (refine is_guarded ?_; first | (refine lw_on rfl rfl (by first | assumption | exact decide_eq_true (by omega) | exact decide_eq_false (by omega) | exact dec_notT (by omega) | exact dec_notF (by omega)) ?_) | (refine lw_not rfl rfl rfl (by first | assumption | exact decide_eq_true (by omega) | exact decide_eq_false (by omega) | exact dec_notT (by omega) | exact dec_notF (by omega)) ?_) | (refine lw_gs_t rfl rfl rfl (fun hc => ?_) (fun hc => ?_) <;> (first | replace hc := of_decide_eq_true hc | replace hc := of_decide_eq_false hc | replace hc := dec_nT hc | replace hc := dec_nF hc | skip) <;> (try (exfalso; omega)))) | ((refine is_bin ?_; first | (refine lw_pure rfl (pv_lss rfl rfl) ?_))) | ((refine is_load ?_; first | (refine lw_pure rfl (pv_load (t1 rfl) rfl (by first | exact PT.ld0 (HX.mono hw) rfl | exact PT.ld (HX.mono hw) rfl)) ?_))) | ((refine is_fa ?_; first | (refine lw_pure rfl (pv_fa (tF rfl) rfl) ?_))) | ((refine is_bi ?_; first | (refine lw_pure rfl (pv_lenl (tS rfl) rfl) ?_))) | (refine is_pk ?_; refine lw_pure rfl (pv_pick_t rfl (by first | assumption | exact decide_eq_true (by omega) | exact dec_notT (by omega)) rfl) ?_) | (refine is_pk ?_; refine lw_pure rfl (pv_pick_f rfl (by first | assumption | exact decide_eq_false (by omega) | exact dec_notF (by omega)) rfl) ?_))
      all_goals exact qw_join n (by repeat' (first | exact trivial | refine ⟨rfl, ?_⟩)) ⟨hw, hA, hn⟩
  clear hw
  rintro n wr ⟨hw, hG, hn⟩
  repeat' ((fail_if_success (refine is_seqb ?_)); (fail_if_success (refine is_blk ?_)); first | (refine lw_pure rfl (pv_assign rfl) ?_) | (refine is_cw ?_; first | (refine cw_seq ?_) | (refine cw_region ?_)) | (refine is_qw ?_; first | (with_reducible refine qw_then ?_)) | (refine lw_nil ?_))
  refine cw_cutq (σ := Nat) (fun n => [(1, .pointer (some ⟨N2, 0, none⟩)), (3, .int .i64 (n : Int))]) (fun n wr => Below wn.heap.size wn wr ∧ Wg t t.accs.length t.inss.length 0 n ∧ n ≤ 281474976730000) ?_ ?_
  · repeat' (first | (refine is_cw ?_; first | (refine cw_block ?_)))
    refine cw_loop (σ := Nat × Nat) (fun q => [(1, .pointer (some ⟨N2, 0, none⟩)), (3, .int .i64 (q.2 : Int)), (5, .int .i64 (q.1 : Nat))]) (fun q wr => q.1 ≤ t.inss.length ∧ Below wn.heap.size wn wr ∧ Wg t t.accs.length q.1 0 q.2 ∧ q.2 ≤ 281474976730000) (fun q => t.inss.length - q.1) (0, n) (by repeat' (first | exact trivial | refine ⟨rfl, ?_⟩)) ⟨Nat.zero_le _, hw, hG, by omega⟩ ?_
    clear hw
    rintro ⟨k, n⟩ wr ⟨hk, hw, hG, hn⟩
    dsimp only at hk hG hn
    change CW _ _ _ _ [(1, .pointer (some ⟨N2, 0, none⟩)), (3, .int .i64 (n : Int)), (5, .int .i64 (k : Nat))] wr
    by_cases hlt : k < t.inss.length ∧ n < 3000
    · obtain ⟨hlt, hn3⟩ := hlt
      have hxk : t.inss[k]? = some (t.inss[k]'(by omega)) := List.getElem?_eq_getElem _
      obtain ⟨ab, ao, rfl, -, -⟩ := HI.at (by intro h; rw [h] at hlt; simp at hlt)
      generalize t.inss[k]'(by omega) = x at hxk
      repeat' (first | (refine lw_pure rfl (pv_move rfl) ?_) | (refine lw_pure rfl (pv_assign rfl) ?_) | (refine is_cw ?_; first | (refine cw_seq ?_) | (refine cw_region ?_) | (refine is_cd ?_; refine cw_true rfl (by first | assumption | exact decide_eq_true (by omega) | exact dec_notT (by omega)) ?_) | (refine cw_skip ?_) | (refine cw_block ?_)) | (refine is_qw ?_; first | (with_reducible refine qw_then ?_) | (with_reducible refine qw_in ?_)) | (refine lw_nil ?_) | (refine is_guarded ?_; first | (refine lw_on rfl rfl (by first | assumption | exact decide_eq_true (by omega) | exact decide_eq_false (by omega) | exact dec_notT (by omega) | exact dec_notF (by omega)) ?_)) | ((refine is_bin ?_; first | (refine lw_pure rfl (pv_lss rfl rfl) ?_) | (refine lw_pure rfl (pv_inc rfl rfl (by omega)) ?_) | (refine lw_pure rfl (pv_add rfl rfl (by omega)) ?_))) | ((refine is_load ?_; first | (refine lw_pure rfl (pv_load (t1 rfl) rfl (by first | exact PT.ld0 (HX.mono hw) rfl | exact PT.ld (HX.mono hw) rfl | exact SlR.ld (HI.mono hw) hxk rfl | exact SlR.ld1 (HI.mono hw) hxk rfl)) ?_))) | ((refine is_fa ?_; first | (refine lw_pure rfl (pv_fa (tF rfl) rfl) ?_))) | ((refine is_ia ?_; first | (refine lw_pure rfl (pv_ian (tS rfl) rfl rfl (by omega)) ?_))) | ((refine is_bi ?_; first | (refine lw_pure rfl (pv_minK rfl rfl) ?_) | (refine lw_pure rfl (pv_lenl (tS rfl) rfl) ?_) | (refine lw_pure rfl (pv_lens (tStr rfl) rfl) ?_))) | (refine is_pk ?_; refine lw_pure rfl (pv_pick_t rfl (by first | assumption | exact decide_eq_true (by omega) | exact dec_notT (by omega)) rfl) ?_))
      obtain ⟨f1, f2, f3, f4⟩ := hG.f hn3
      refine qw_round (k + 1, n + 1 + min 3000 x.name.size) (by repeat' (first | exact trivial | refine ⟨rfl, ?_⟩)) ⟨by show k + 1 ≤ _; omega, hw, ⟨by have := hG.z; omega, fun hn9 => ⟨by omega, fun j u hj hu => by have := f2 j u hj hu; omega, fun j u hj hu => ?_, by simp [sumX]⟩⟩, by show n + 1 + _ ≤ _; omega⟩ (by show t.inss.length - (k + 1) < t.inss.length - k; omega)
      by_cases hjk : j = k
      · subst hjk; rw [hxk] at hu; injection hu with hu; subst hu; omega
      · have := f3 j u (by omega) hu; omega
    · have hA : Wg t t.accs.length t.inss.length 0 n := by
        refine ⟨hG.z, fun hn9 => ?_⟩
        have hkl : k = t.inss.length := by omega
        have := hG.f hn9
        rw [hkl] at this; exact this
      repeat' (first | (refine lw_pure rfl (pv_move rfl) ?_) | (refine is_cw ?_; first | (refine cw_seq ?_) | (refine cw_region ?_) | (refine cw_false rfl rfl ?_) | (refine is_cd ?_; refine cw_false rfl (by first | assumption | exact decide_eq_false (by omega) | exact dec_notF (by omega)) ?_) | (refine cw_exit ?_)) | (refine is_qw ?_; first | (with_reducible refine qw_then ?_) | (with_reducible refine qw_in_hit ?_) | (with_reducible refine qw_then_exit ?_)) | (refine lw_nil ?_) | (refine is_guarded ?_; first | (refine lw_on rfl rfl (by first | assumption | exact decide_eq_true (by omega) | exact decide_eq_false (by omega) | exact dec_notT (by omega) | exact dec_notF (by omega)) ?_) | (refine lw_not rfl rfl rfl (by first | assumption | exact decide_eq_true (by omega) | exact decide_eq_false (by omega) | exact dec_notT (by omega) | exact dec_notF (by omega)) ?_) | (refine lw_gs_t rfl rfl rfl (fun hc => ?_) (fun hc => ?_) <;> (first | replace hc := of_decide_eq_true hc | replace hc := of_decide_eq_false hc | replace hc := dec_nT hc | replace hc := dec_nF hc | skip) <;> (try (exfalso; omega)))) | ((refine is_bin ?_; first | (refine lw_pure rfl (pv_lss rfl rfl) ?_))) | ((refine is_load ?_; first | (refine lw_pure rfl (pv_load (t1 rfl) rfl (by first | exact PT.ld0 (HX.mono hw) rfl | exact PT.ld (HX.mono hw) rfl)) ?_))) | ((refine is_fa ?_; first | (refine lw_pure rfl (pv_fa (tF rfl) rfl) ?_))) | ((refine is_bi ?_; first | (refine lw_pure rfl (pv_lenl (tS rfl) rfl) ?_))) | (refine is_pk ?_; refine lw_pure rfl (pv_pick_t rfl (by first | assumption | exact decide_eq_true (by omega) | exact dec_notT (by omega)) rfl) ?_) | (refine is_pk ?_; refine lw_pure rfl (pv_pick_f rfl (by first | assumption | exact decide_eq_false (by omega) | exact dec_notF (by omega)) rfl) ?_))
      all_goals exact qw_join n (by repeat' (first | exact trivial | refine ⟨rfl, ?_⟩)) ⟨hw, hA, hn⟩
  clear hw
  rintro n wr ⟨hw, hG, hn⟩
  repeat' ((fail_if_success (refine is_seqb ?_)); (fail_if_success (refine is_blk ?_)); first | (refine lw_pure rfl (pv_assign rfl) ?_) | (refine is_cw ?_; first | (refine cw_seq ?_) | (refine cw_region ?_)) | (refine is_qw ?_; first | (with_reducible refine qw_then ?_)) | (refine lw_nil ?_))
  refine cw_cutq (σ := Nat) (fun n => [(1, .pointer (some ⟨N2, 0, none⟩)), (3, .int .i64 (n : Int))]) (fun n wr => Below wn.heap.size wn wr ∧ Wg t t.accs.length t.inss.length t.aucs.length n ∧ n ≤ 281474976740000) ?_ ?_
  · repeat' (first | (refine is_cw ?_; first | (refine cw_block ?_)))
    refine cw_loop (σ := Nat × Nat) (fun q => [(1, .pointer (some ⟨N2, 0, none⟩)), (3, .int .i64 (q.2 : Int)), (6, .int .i64 (q.1 : Nat))]) (fun q wr => q.1 ≤ t.aucs.length ∧ Below wn.heap.size wn wr ∧ Wg t t.accs.length t.inss.length q.1 q.2 ∧ q.2 ≤ 281474976740000) (fun q => t.aucs.length - q.1) (0, n) (by repeat' (first | exact trivial | refine ⟨rfl, ?_⟩)) ⟨Nat.zero_le _, hw, hG, by omega⟩ ?_
    clear hw
    rintro ⟨k, n⟩ wr ⟨hk, hw, hG, hn⟩
    dsimp only at hk hG hn
    change CW _ _ _ _ [(1, .pointer (some ⟨N2, 0, none⟩)), (3, .int .i64 (n : Int)), (6, .int .i64 (k : Nat))] wr
    by_cases hlt : k < t.aucs.length ∧ n < 3000
    · obtain ⟨hlt, hn3⟩ := hlt
      have hak : t.aucs[k]? = some (t.aucs[k]'(by omega)) := List.getElem?_eq_getElem _
      obtain ⟨ab, ao, rfl, -, -⟩ := HX9.at (by intro h; rw [h] at hxn; simp at hxn; omega)
      generalize t.aucs[k]'(by omega) = a at hak
      obtain ⟨x, hxk, hR⟩ := HAs.at hak
      obtain ⟨xh, ba, bm, bc⟩ := x
      obtain ⟨hh, hm, HB⟩ := hR
      simp only at hh hm HB
      subst hh hm
      repeat' (first | (refine lw_pure rfl (pv_move rfl) ?_) | (refine lw_pure rfl (pv_assign rfl) ?_) | (refine is_cw ?_; first | (refine cw_seq ?_) | (refine cw_region ?_) | (refine is_cd ?_; refine cw_true rfl (by first | assumption | exact decide_eq_true (by omega) | exact dec_notT (by omega)) ?_) | (refine cw_skip ?_) | (refine cw_block ?_)) | (refine is_qw ?_; first | (with_reducible refine qw_then ?_) | (with_reducible refine qw_in ?_)) | (refine lw_nil ?_) | (refine is_guarded ?_; first | (refine lw_on rfl rfl (by first | assumption | exact decide_eq_true (by omega) | exact decide_eq_false (by omega) | exact dec_notT (by omega) | exact dec_notF (by omega)) ?_)) | ((refine is_bin ?_; first | (refine lw_pure rfl (pv_lss rfl rfl) ?_) | (refine lw_pure rfl (pv_inc rfl rfl (by omega)) ?_) | (refine lw_pure rfl (pv_add rfl rfl (by omega)) ?_))) | ((refine is_load ?_; first | (refine lw_pure rfl (pv_load (t1 rfl) rfl (by first | exact PT.ld0 (HX.mono hw) rfl | exact PT.ld (HX.mono hw) rfl | exact SlR.ld (HX9.mono hw) hxk rfl | exact SlR.ld1 (HX9.mono hw) hxk rfl)) ?_))) | ((refine is_fa ?_; first | (refine lw_pure rfl (pv_fa (tF rfl) rfl) ?_))) | ((refine is_ia ?_; first | (refine lw_pure rfl (pv_ian (tS rfl) rfl rfl (by omega)) ?_))) | ((refine is_bi ?_; first | (refine lw_pure rfl (pv_minK rfl rfl) ?_) | (refine lw_pure rfl (pv_lenl (tS rfl) rfl) ?_))) | (refine is_pk ?_; refine lw_pure rfl (pv_pick_t rfl (by first | assumption | exact decide_eq_true (by omega) | exact dec_notT (by omega)) rfl) ?_))
      obtain ⟨f1, f2, f3, f4⟩ := hG.f hn3
      have hsn := sumX_snoc hak
      exact qw_round (k + 1, n + 1 + min 3000 a.bids.length) (by repeat' (first | exact trivial | refine ⟨rfl, ?_⟩)) ⟨by show k + 1 ≤ _; omega, hw, ⟨by have := hG.z; omega, fun hn9 => ⟨by omega, fun j u hj hu => by have := f2 j u hj hu; omega, fun j u hj hu => by have := f3 j u hj hu; omega, by show sumX (t.aucs.take (k + 1)) ≤ n + 1 + min 3000 a.bids.length; omega⟩⟩, by show n + 1 + _ ≤ _; omega⟩ (by show t.aucs.length - (k + 1) < t.aucs.length - k; omega)
    · have hA : Wg t t.accs.length t.inss.length t.aucs.length n := by
        refine ⟨hG.z, fun hn9 => ?_⟩
        have hkl : k = t.aucs.length := by omega
        have := hG.f hn9
        rw [hkl] at this; exact this
      repeat' (first | (refine lw_pure rfl (pv_move rfl) ?_) | (refine is_cw ?_; first | (refine cw_seq ?_) | (refine cw_region ?_) | (refine cw_false rfl rfl ?_) | (refine is_cd ?_; refine cw_false rfl (by first | assumption | exact decide_eq_false (by omega) | exact dec_notF (by omega)) ?_) | (refine cw_exit ?_)) | (refine is_qw ?_; first | (with_reducible refine qw_then ?_) | (with_reducible refine qw_in_hit ?_) | (with_reducible refine qw_then_exit ?_)) | (refine lw_nil ?_) | (refine is_guarded ?_; first | (refine lw_on rfl rfl (by first | assumption | exact decide_eq_true (by omega) | exact decide_eq_false (by omega) | exact dec_notT (by omega) | exact dec_notF (by omega)) ?_) | (refine lw_not rfl rfl rfl (by first | assumption | exact decide_eq_true (by omega) | exact decide_eq_false (by omega) | exact dec_notT (by omega) | exact dec_notF (by omega)) ?_) | (refine lw_gs_t rfl rfl rfl (fun hc => ?_) (fun hc => ?_) <;> (first | replace hc := of_decide_eq_true hc | replace hc := of_decide_eq_false hc | replace hc := dec_nT hc | replace hc := dec_nF hc | skip) <;> (try (exfalso; omega)))) | ((refine is_bin ?_; first | (refine lw_pure rfl (pv_lss rfl rfl) ?_))) | ((refine is_load ?_; first | (refine lw_pure rfl (pv_load (t1 rfl) rfl (by first | exact PT.ld0 (HX.mono hw) rfl | exact PT.ld (HX.mono hw) rfl)) ?_))) | ((refine is_fa ?_; first | (refine lw_pure rfl (pv_fa (tF rfl) rfl) ?_))) | ((refine is_bi ?_; first | (refine lw_pure rfl (pv_lenl (tS rfl) rfl) ?_))) | (refine is_pk ?_; refine lw_pure rfl (pv_pick_t rfl (by first | assumption | exact decide_eq_true (by omega) | exact dec_notT (by omega)) rfl) ?_) | (refine is_pk ?_; refine lw_pure rfl (pv_pick_f rfl (by first | assumption | exact decide_eq_false (by omega) | exact dec_notF (by omega)) rfl) ?_))
      all_goals exact qw_join n (by repeat' (first | exact trivial | refine ⟨rfl, ?_⟩)) ⟨hw, hA, hn⟩
  clear hw
  rintro n wr ⟨hw, hG, hn⟩
  repeat' (first | (refine lw_pure rfl (pv_move rfl) ?_) | (refine lw_pure rfl (pv_assign rfl) ?_) | (refine is_cw ?_; first | (refine cw_seq ?_) | (refine cw_region ?_) | (refine cw_ret ?_)) | (refine is_qw ?_; first | (with_reducible refine qw_then ?_)) | (refine lw_nil ?_) | ((refine is_bi ?_; first | (refine lw_pure rfl (pv_minL rfl rfl) ?_))))
  refine qw_ret1 rfl rfl ⟨⟨min 3000 n, rfl, fun h => ?_⟩, (hE.mono hw).b⟩
  obtain ⟨f1, f2, f3, f4⟩ := hG.f (by omega)
  rw [List.take_of_length_le (Nat.le_refl _)] at f4
  exact ⟨by omega, by omega, by omega, all_get fun j x hj => by have := f2 j x (List.getElem?_eq_some_iff.1 hj).1 hj; omega, all_get fun j x hj => by have := f3 j x (List.getElem?_eq_some_iff.1 hj).1 hj; omega, by omega⟩
end Go.Proofs.YtekomjnjddhfmaaGreat
namespace Go.Proofs.YtekomjnjddhfmaaGreat
open Go.ChangeShapes Go.WideShapes Go.ChangeAt Go.RowKit Go.Deep Go.WideElems Go.Joins
section
variable {H : Type} {enc : TypeId × Value → H} {P : Program} {w : World} {base : Nat} {held : Bool}
theorem mem_weightsAll {e : TypeId} {n : Nat} {y : DataW H} (hn : n ∈ DataW.weights P e y) : ∀ {ds : List (DataW H)}, y ∈ ds → n ∈ DataW.weightsAll P e ds
  | [], h => by cases h
  | d :: r, h => by
    rw [DataW.weightsAll]
    rcases List.mem_cons.1 h with rfl | h
    · exact List.mem_append_left _ hn
    · exact List.mem_append_right _ (mem_weightsAll hn h)
theorem cell_in {a : Addr} {v : Value} (h : w.cell? a = some v) : a.spot = none ∧ a.block < w.heap.size := by
  unfold World.cell? at h
  cases hb : w.heap[a.block]? with
  | none => rw [hb] at h; cases h
  | some o =>
    refine ⟨?_, (Array.getElem?_eq_some_iff.1 hb).1⟩
    rw [hb] at h
    cases o <;> first | (cases h; done) | (cases hs : a.spot with | none => rfl | some s => rw [hs] at h; simp at h)
theorem open_slV {α : Type} (encE : α → List Value) (k B : Nat) (Pr : α → Prop) {t e : TypeId} {fuel : Nat} {c : Value} {x : DataW H × List MemPlace} (hk : ∀ x, (encE x).length = k) (hk0 : 0 < k) (ht : P.underlying t = some (.slice e)) (hC : P.cellsOf e = k) (hby : Nat.ble 1 (P.bytesOf e) = true)
    (hdec : ∀ n cs y, DataW.trod enc P w base (fun _ => true) held n e cs = some y → (∀ n ∈ DataW.weights P e y.1, n ≤ B) → ∃ x : α, cs = encE x ∧ Pr x)
    (h : DataW.trod enc P w base (fun _ => true) held fuel t [c] = some x) (hwt : ∀ n ∈ DataW.weights P t x.1, n ≤ B) : ∃ a cap, ∃ xs : List α, c = .slice a xs.length cap ∧ SlR encE k w a cap xs ∧ (∀ z ∈ xs, Pr z) ∧ xs.length ≤ B := by
  rcases open_slice ht h with ⟨h0, _⟩ | ⟨a, len, cap, m, n, D, Pl, hcs, hb, hl, hm, hmm, hx, hi⟩
  · simp only [List.cons.injEq, and_true] at h0
    exact ⟨none, 0, [], h0, SlR.nil w, by simp, Nat.zero_le _⟩
  · simp only [List.cons.injEq, and_true] at hcs
    subst hcs
    simp only [if_true] at hmm
    subst hmm
    subst hx
    rw [DataW.weights, ht] at hwt
    have hlen0 : len ≤ B := by
      have h1 := hwt _ List.mem_cons_self
      simp only [List.length_map, List.length_range] at h1
      have h2 : len * 1 ≤ (len + (m - len)) * P.bytesOf e := Nat.mul_le_mul (by omega) (Nat.le_of_ble_eq_true hby)
      omega
    have hE : ∀ i, i < len → ∃ x : α, w.cells? base (a.add (i * P.cellsOf e)) (P.cellsOf e) = some (encE x) ∧ Pr x := fun i h => by
      obtain ⟨cs', h1, h2⟩ := hi i (by omega)
      obtain ⟨x, rfl, hp⟩ := hdec _ _ _ h2 fun q hq => hwt q (List.mem_cons_of_mem _ (List.mem_append_left _ (mem_weightsAll hq (List.mem_map.2 ⟨i, List.mem_range.2 h, rfl⟩))))
      exact ⟨x, h1, hp⟩
    have hL : ∀ m, m ≤ len → ∃ xs : List α, xs.length = m ∧ (∀ j x, xs[j]? = some x → w.cells? base (a.add (j * P.cellsOf e)) (P.cellsOf e) = some (encE x)) ∧ ∀ x ∈ xs, Pr x := by
      intro m hm
      induction m with
      | zero => exact ⟨[], rfl, fun j x hx => by simp at hx, by simp⟩
      | succ m ih =>
        obtain ⟨xs, h1, h2, h3⟩ := ih (by omega)
        obtain ⟨x, hx, hp⟩ := hE m (by omega)
        refine ⟨xs ++ [x], by simp [h1], fun j y hy => ?_, fun y hy => ?_⟩
        · by_cases hj : j < xs.length
          · rw [List.getElem?_append_left hj] at hy; exact h2 j y hy
          · rw [List.getElem?_append_right (by omega)] at hy
            have : j - xs.length = 0 := by
              have := (List.getElem?_eq_some_iff.1 hy).1; simp at this; omega
            rw [this] at hy; simp at hy; subst hy
            have : j = m := by omega
            subst this; exact hx
        · rcases List.mem_append.1 hy with hy | hy
          · exact h3 y hy
          · simp at hy; subst hy; exact hp
    obtain ⟨xs, hlen, hxs, hpr⟩ := hL len (Nat.le_refl _)
    refine ⟨some a, _, xs, by rw [hlen], ⟨by omega, by simpa [maxLen] using hm, (fun h => by cases h), fun ad had hc => ?_⟩, hpr, by omega⟩
    cases had
    obtain ⟨cs0, h1, _⟩ := hi 0 hc
    obtain ⟨_, h2, h3⟩ := World.cells?_some h1
    have h4 := h3 0 (by rw [hC]; exact hk0)
    rw [List.getElem?_eq_getElem (by rw [h2, hC]; exact hk0)] at h4
    obtain ⟨hsp, hlt⟩ := cell_in h4
    obtain ⟨b, off, sp⟩ := a
    have e0 : ((⟨b, off, sp⟩ : Addr).add (0 * P.cellsOf e)).add 0 = ⟨b, off, sp⟩ := by simp [Addr.add]
    rw [e0] at hsp hlt
    have hsp0 : sp = none := hsp
    subst hsp0
    refine ⟨rfl, hlt, fun j x hx i v hv => ?_⟩
    obtain ⟨_, h1, h2⟩ := World.cells?_some (hxs j x hx)
    have hik : i < k := by have := (List.getElem?_eq_some_iff.1 hv).1; rwa [hk] at this
    have h3 := h2 i (by rw [hC]; exact hik)
    rw [hv] at h3
    rw [hC] at h3
    rwa [Addr.add_lit, Addr.add_lit] at h3
theorem SlR.map_fst {α β : Type} {encE : α → List Value} {k : Nat} {a : Option Addr} {cap : Nat} {xs : List β} (f : β → α) (h : SlR (fun x => encE (f x)) k w a cap xs) : SlR encE k w a cap (xs.map f) := by
  refine ⟨by rw [List.length_map]; exact h.le, h.max, fun hn => ?_, fun ad had hc => ?_⟩
  · obtain ⟨h1, h2⟩ := h.ofNone hn; exact ⟨by rw [h1]; rfl, h2⟩
  · obtain ⟨h1, h2, h3⟩ := h.ofSome ad had hc
    refine ⟨h1, h2, fun j x hx i v hv => ?_⟩
    rw [List.getElem?_map] at hx
    cases hq : xs[j]? with
    | none => rw [hq] at hx; cases hx
    | some z => rw [hq, Option.map_some] at hx; injection hx with hx; subst hx; exact h3 j z hq i v hv
theorem wt_in {n : Nat} : ∀ {ts : List TypeId} {ds : List (DataW H)} {j : Nat} {t : TypeId} {d : DataW H}, ts[j]? = some t → ds[j]? = some d → n ∈ DataW.weights P t d → n ∈ DataW.weightsEach P ts ds
  | t :: ts, d :: ds, 0, _, _, h1, h2, hn => by
    simp at h1 h2; subst h1 h2
    rw [DataW.weightsEach]; exact List.mem_append_left _ hn
  | t :: ts, d :: ds, j + 1, _, _, h1, h2, hn => by
    rw [DataW.weightsEach]; exact List.mem_append_right _ (wt_in (by simpa using h1) (by simpa using h2) hn)
  | [], _, _, _, _, h1, _, _ => by simp at h1
  | _ :: _, [], _, _, _, _, h2, _ => by simp at h2
theorem wt_of {ts us : List TypeId} {ds gs : List (DataW H)} (hZ : ((DataW.weightsEach P (ts ++ us) (ds ++ gs)).all fun x => decide (x ≤ reachBytes)) = true) {j : Nat} {t : TypeId} {d : DataW H} (ht : ts[j]? = some t) (hd : ds[j]? = some d) : ∀ n ∈ DataW.weights P t d, n ≤ reachBytes := fun n hn => by
  have h1 : (ts ++ us)[j]? = some t := by rw [List.getElem?_append_left (List.getElem?_eq_some_iff.1 ht).1]; exact ht
  have h2 : (ds ++ gs)[j]? = some d := by rw [List.getElem?_append_left (List.getElem?_eq_some_iff.1 hd).1]; exact hd
  exact of_decide_eq_true (List.all_eq_true.1 hZ n (wt_in h1 h2 hn))
theorem wt_part {B : Nat} {t u : TypeId} {fs : Array Field} {ds : List (DataW H)} (ht : P.underlying t = some (.struct fs)) (hwt : ∀ n ∈ DataW.weights P t (.agg ds), n ≤ B) {j : Nat} {d : DataW H} (hj : (fs.toList.map (·.type))[j]? = some u) (hd : ds[j]? = some d) : ∀ n ∈ DataW.weights P u d, n ≤ B := fun n hn => hwt n (by
  rw [DataW.weights, ht]
  exact wt_in hj hd hn)
theorem trod_u8 {fuel : Nat} {t : TypeId} {c : Value} {x : DataW H × List MemPlace} (ht : P.underlying t = some (.int .u8)) (h : DataW.trod enc P w base (fun _ => true) held fuel t [c] = some x) : ∃ n : Int, c = .int .u8 n ∧ 0 ≤ n ∧ n ≤ 255 := by
  obtain ⟨n, e, _, hw⟩ := DataW.trod_int (k := .u8) ht h
  simp only [List.cons.injEq, and_true] at e
  simp only [Lit.wf, Bool.and_eq_true, decide_eq_true_eq] at hw
  exact ⟨n, e, hw⟩
theorem trod_strW {B fuel : Nat} {t : TypeId} {c : Value} {x : DataW H × List MemPlace} (ht : P.underlying t = some .string) (h : DataW.trod enc P w base (fun _ => true) held fuel t [c] = some x) (hwt : ∀ n ∈ DataW.weights P t x.1, n ≤ B) : ∃ s : ByteArray, c = .string s ∧ s.size ≤ B := by
  obtain ⟨s, e, hx, _⟩ := DataW.trod_string ht h
  simp only [List.cons.injEq, and_true] at e
  refine ⟨s, e, hwt _ ?_⟩
  rw [hx, DataW.weights]
  exact List.mem_singleton.2 Array.length_toList.symm
theorem trod_bool1 {fuel : Nat} {t : TypeId} {c : Value} {x : DataW H × List MemPlace} (ht : P.underlying t = some .bool) (h : DataW.trod enc P w base (fun _ => true) held fuel t [c] = some x) : ∃ b : Bool, c = .bool b := by
  obtain ⟨b, e, _⟩ := DataW.trod_bool ht h
  simp only [List.cons.injEq, and_true] at e
  exact ⟨b, e⟩
end
section
variable {H : Type} {enc : TypeId × Value → H} {W : World} {base : Nat} {held : Bool} {b0 : Nat} {v : Value} {d : DataW H} {p : List MemPlace} {B : Nat}
set_option maxRecDepth 20000 in
theorem acc_dec (n : Nat) (cs : List Value) (y : DataW H × List MemPlace) (h : DataW.trod enc Tryz.prog W base (fun _ => true) held n 34 cs = some y) (hwt : ∀ n ∈ DataW.weights Tryz.prog 34 y.1, n ≤ B) : ∃ r : Acc, cs = encA r ∧ r.name.size ≤ B := by
  obtain ⟨xs, m, _, rfl, hl, hlen, hf⟩ := DataW.trod_struct Tryz.underlying34 h
  rw [show Tryz.prog.cellsOf 34 = 2 by kernel_rfl] at hl
  match xs, hlen, cs, hl with
  | [y0, y1], _, [c0, c1], _ =>
    obtain ⟨a, rfl, ha⟩ := trod_strW (c := c0) (B := B) Tryz.underlying9 (hf 0 _ rfl) (wt_part Tryz.underlying34 hwt (j := 0) rfl rfl)
    obtain ⟨b, rfl⟩ := trod_bool1 (c := c1) Tryz.underlying4 (hf 1 _ rfl)
    exact ⟨⟨a, b⟩, rfl, ha⟩
set_option maxRecDepth 20000 in
theorem ins_dec (n : Nat) (cs : List Value) (y : DataW H × List MemPlace) (h : DataW.trod enc Tryz.prog W base (fun _ => true) held n 37 cs = some y) (hwt : ∀ n ∈ DataW.weights Tryz.prog 37 y.1, n ≤ B) : ∃ r : Ins, cs = encN r ∧ r.name.size ≤ B ∧ (-9223372036854775808 ≤ r.tick ∧ r.tick ≤ 9223372036854775807) := by
  obtain ⟨xs, m, _, rfl, hl, hlen, hf⟩ := DataW.trod_struct Tryz.underlying37 h
  rw [show Tryz.prog.cellsOf 37 = 3 by kernel_rfl] at hl
  match xs, hlen, cs, hl with
  | [y0, y1, y2], _, [c0, c1, c2], _ =>
    obtain ⟨a, rfl, ha⟩ := trod_strW (c := c0) (B := B) Tryz.underlying9 (hf 0 _ rfl) (wt_part Tryz.underlying37 hwt (j := 0) rfl rfl)
    obtain ⟨q, rfl, hq⟩ := trod_i64 (c := c1) Tryz.underlying2 (hf 1 _ rfl)
    obtain ⟨b, rfl⟩ := trod_bool1 (c := c2) Tryz.underlying4 (hf 2 _ rfl)
    exact ⟨⟨a, q, b⟩, rfl, ha, hq⟩
set_option maxRecDepth 20000 in
theorem ord_dec (n : Nat) (cs : List Value) (y : DataW H × List MemPlace) (h : DataW.trod enc Tryz.prog W base (fun _ => true) held n 41 cs = some y) (hwt : ∀ n ∈ DataW.weights Tryz.prog 41 y.1, n ≤ B) : ∃ r : Ord, cs = encO r ∧ (-9223372036854775808 ≤ r.price ∧ r.price ≤ 9223372036854775807) ∧ (-9223372036854775808 ≤ r.left ∧ r.left ≤ 9223372036854775807) := by
  obtain ⟨xs, m, _, rfl, hl, hlen, hf⟩ := DataW.trod_struct Tryz.underlying41 h
  rw [show Tryz.prog.cellsOf 41 = 6 by kernel_rfl] at hl
  match xs, hlen, cs, hl with
  | [y0, y1, y2, y3, y4, y5], _, [c0, c1, c2, c3, c4, c5], _ =>
    obtain ⟨a, rfl, _⟩ := trod_i64 (c := c0) Tryz.underlying2 (hf 0 _ rfl)
    obtain ⟨b, rfl, _⟩ := trod_i64 (c := c1) Tryz.underlying3 (hf 1 _ rfl)
    obtain ⟨i, rfl, _⟩ := trod_i64 (c := c2) Tryz.underlying3 (hf 2 _ rfl)
    obtain ⟨s, rfl, _⟩ := trod_u8 (c := c3) Tryz.underlying5 (hf 3 _ rfl)
    obtain ⟨q, rfl, hq⟩ := trod_i64 (c := c4) Tryz.underlying2 (hf 4 _ rfl)
    obtain ⟨l, rfl, hl⟩ := trod_i64 (c := c5) Tryz.underlying2 (hf 5 _ rfl)
    exact ⟨⟨a, b, i, s, q, l⟩, rfl, hq, hl⟩
set_option maxRecDepth 20000 in
theorem bid_dec (n : Nat) (cs : List Value) (y : DataW H × List MemPlace) (h : DataW.trod enc Tryz.prog W base (fun _ => true) held n 46 cs = some y) (hwt : ∀ n ∈ DataW.weights Tryz.prog 46 y.1, n ≤ B) : ∃ r : Bid, cs = encD r ∧ True := by
  obtain ⟨xs, m, _, rfl, hl, hlen, hf⟩ := DataW.trod_struct Tryz.underlying46 h
  rw [show Tryz.prog.cellsOf 46 = 2 by kernel_rfl] at hl
  match xs, hlen, cs, hl with
  | [y0, y1], _, [c0, c1], _ =>
    obtain ⟨a, rfl, _⟩ := trod_i64 (c := c0) Tryz.underlying3 (hf 0 _ rfl)
    obtain ⟨b, rfl, _⟩ := trod_i64 (c := c1) Tryz.underlying2 (hf 1 _ rfl)
    exact ⟨⟨a, b⟩, rfl, trivial⟩
set_option maxRecDepth 20000 in
theorem auc_dec (n : Nat) (cs : List Value) (y : DataW H × List MemPlace) (h : DataW.trod enc Tryz.prog W base (fun _ => true) held n 44 cs = some y) (hwt : ∀ n ∈ DataW.weights Tryz.prog 44 y.1, n ≤ B) : ∃ r : AucC × List Bid, cs = encC r.1 ∧ AuR W r.1 ⟨r.1.h, r.2⟩ := by
  obtain ⟨xs, m, _, hx, hl, hlen, hf⟩ := DataW.trod_struct Tryz.underlying44 h
  subst hx
  rw [show Tryz.prog.cellsOf 44 = 9 by kernel_rfl] at hl
  match xs, hlen, cs, hl with
  | [y0, y1, y2, y3, y4, y5, y6, y7, y8], _, [c0, c1, c2, c3, c4, c5, c6, c7, c8], _ =>
    obtain ⟨a, rfl, _⟩ := trod_i64 (c := c0) Tryz.underlying2 (hf 0 _ rfl)
    obtain ⟨b, rfl, _⟩ := trod_i64 (c := c1) Tryz.underlying3 (hf 1 _ rfl)
    obtain ⟨i, rfl, _⟩ := trod_i64 (c := c2) Tryz.underlying3 (hf 2 _ rfl)
    obtain ⟨s, rfl⟩ := trod_bool1 (c := c3) Tryz.underlying4 (hf 3 _ rfl)
    obtain ⟨q, rfl, _⟩ := trod_i64 (c := c4) Tryz.underlying2 (hf 4 _ rfl)
    obtain ⟨l, rfl, _⟩ := trod_i64 (c := c5) Tryz.underlying2 (hf 5 _ rfl)
    obtain ⟨e, rfl, _⟩ := trod_i64 (c := c6) Tryz.underlying2 (hf 6 _ rfl)
    obtain ⟨f, rfl, _⟩ := trod_i64 (c := c7) Tryz.underlying2 (hf 7 _ rfl)
    have g8 : DataW.trod enc Tryz.prog W base (fun _ => true) held m 42 [c8] = some y8 := hf 8 _ rfl
    obtain ⟨ka, kc, ks, rfl, S8, -⟩ := open_slV encD 2 B (fun _ => True) encD_len (by omega) Tryz.underlying42 (by kernel_rfl) (by kernel_rfl) bid_dec g8 (wt_part Tryz.underlying44 hwt (j := 8) rfl rfl)
    exact ⟨⟨⟨⟨a, b, i, s, q, l, e, f⟩, ka, ks.length, kc⟩, ks⟩, rfl, ⟨rfl, rfl, S8⟩⟩
theorem row_decW (n : Nat) (cs : List Value) (y : DataW H × List MemPlace) (h : DataW.trod enc Tryz.prog W base (fun _ => true) held n 39 cs = some y) (hwt : ∀ n ∈ DataW.weights Tryz.prog 39 y.1, n ≤ B) : ∃ r : Row, cs = encR r ∧ RIn r := row_dec n cs y h
set_option maxRecDepth 20000 in
set_option maxHeartbeats 1000000 in
theorem state_open (hv : Value.okWide Tryz.prog W .any b0 30 v) (h : DataW.Trod enc Tryz.prog W base (fun _ => true) held 30 v d p) (hwt : ∀ n ∈ DataW.weights Tryz.prog 30 d, n ≤ reachBytes) : ∃ s t, v = (.agg (encS s).toArray) ∧ StR W s t ∧ StBg t ∧ StIn t := by
  obtain ⟨⟨cs⟩, rfl, hsz⟩ := okWide_struct Tryz.underlying30 hv
  obtain ⟨fuel, hf⟩ := h
  obtain ⟨xs, m, _, hx, hl, hlen, hfi⟩ := DataW.trod_struct Tryz.underlying30 hf
  rw [show Tryz.prog.cellsOf 30 = 9 by kernel_rfl] at hl
  have hl2 : cs.length = 9 := hl
  have h7 : reachBytes ≤ 140737488355328 := by decide
  have hU := Tryz.underlying30
  match xs, hlen, cs, hl2 with
  | [y0, y1, y2, y3, y4, y5, y6, y7, y8], _, [c0, c1, c2, c3, c4, c5, c6, c7, c8], _ =>
    simp only [Prod.mk.injEq] at hx
    obtain ⟨rfl, -⟩ := hx
    obtain ⟨a, rfl, _⟩ := trod_i64 (c := c0) Tryz.underlying2 (hfi 0 _ rfl)
    obtain ⟨b, rfl, _⟩ := trod_i64 (c := c1) Tryz.underlying2 (hfi 1 _ rfl)
    obtain ⟨o, rfl, ho⟩ := trod_i64 (c := c2) Tryz.underlying2 (hfi 2 _ rfl)
    obtain ⟨u, rfl, _⟩ := trod_i64 (c := c3) Tryz.underlying2 (hfi 3 _ rfl)
    have g4 : DataW.trod enc Tryz.prog W base (fun _ => true) held m 24 [c4] = some y4 := hfi 4 _ rfl
    have g5 : DataW.trod enc Tryz.prog W base (fun _ => true) held m 25 [c5] = some y5 := hfi 5 _ rfl
    have g6 : DataW.trod enc Tryz.prog W base (fun _ => true) held m 26 [c6] = some y6 := hfi 6 _ rfl
    have g7 : DataW.trod enc Tryz.prog W base (fun _ => true) held m 27 [c7] = some y7 := hfi 7 _ rfl
    have g8 : DataW.trod enc Tryz.prog W base (fun _ => true) held m 28 [c8] = some y8 := hfi 8 _ rfl
    obtain ⟨pa, ca, la, rfl, A, qa, ba⟩ := open_slV encA 2 reachBytes (fun x => x.name.size ≤ reachBytes) encA_len (by omega) Tryz.underlying24 (by kernel_rfl) (by kernel_rfl) acc_dec g4 (wt_part hU hwt (j := 4) rfl rfl)
    obtain ⟨pi, ci, li, rfl, I, qi, bi⟩ := open_slV encN 3 reachBytes (fun x => x.name.size ≤ reachBytes ∧ (-9223372036854775808 ≤ x.tick ∧ x.tick ≤ 9223372036854775807)) encN_len (by omega) Tryz.underlying25 (by kernel_rfl) (by kernel_rfl) ins_dec g5 (wt_part hU hwt (j := 5) rfl rfl)
    obtain ⟨pr, cr, lr, rfl, R, qr, br⟩ := open_slV encR 4 reachBytes RIn encR_len (by omega) Tryz.underlying26 (by kernel_rfl) (by kernel_rfl) row_decW g6 (wt_part hU hwt (j := 6) rfl rfl)
    obtain ⟨po, co, lo, rfl, O, qo, bo⟩ := open_slV encO 6 reachBytes (fun r : Ord => (-9223372036854775808 ≤ r.price ∧ r.price ≤ 9223372036854775807) ∧ (-9223372036854775808 ≤ r.left ∧ r.left ≤ 9223372036854775807)) encO_len (by omega) Tryz.underlying27 (by kernel_rfl) (by kernel_rfl) ord_dec g7 (wt_part hU hwt (j := 7) rfl rfl)
    obtain ⟨px, cx, lx, rfl, X, qx, bx⟩ := open_slV (fun x : AucC × List Bid => encC x.1) 9 reachBytes (fun x => AuR W x.1 ⟨x.1.h, x.2⟩) (fun _ => rfl) (by omega) Tryz.underlying28 (by kernel_rfl) (by kernel_rfl) auc_dec g8 (wt_part hU hwt (j := 8) rfl rfl)
    refine ⟨⟨a, b, o, u, pa, _, ca, pi, _, ci, pr, _, cr, po, _, co, px, _, cx⟩, ⟨a, b, o, u, la, li, lr, lo, lx.map fun x => ⟨x.1.h, x.2⟩⟩, rfl, ⟨⟨rfl, rfl, rfl, rfl⟩, rfl, rfl, rfl, rfl, by simp, A, I, R, O, lx.map (·.1), SlR.map_fst _ X, by simp, fun j x c hx hc => ?_⟩, ⟨Nat.le_trans br h7, Nat.le_trans bo h7, fun x hx => Nat.le_trans (qa x hx) h7, fun x hx => Nat.le_trans (qi x hx).1 h7, qr⟩, ⟨fun x hx => Nat.le_trans (qa x hx) h7, fun x hx => ⟨Nat.le_trans (qi x hx).1 h7, (qi x hx).2⟩, qr, qo, ho⟩⟩
    rw [List.getElem?_map, Option.map_eq_some_iff] at hx hc
    obtain ⟨z, hz, rfl⟩ := hx
    obtain ⟨z2, hz2, rfl⟩ := hc
    rw [hz] at hz2; injection hz2 with hz2; subst hz2
    exact qx z (List.mem_of_getElem? hz)
end
end Go.Proofs.YtekomjnjddhfmaaGreat
namespace Go.Proofs.YtekomjnjddhfmaaGreat
open Go.RowKit Go.PlainAid

section
variable {α : Type} {enc : α → List Value} {k nb : Nat} {P : Program} {n : Nat} {l : Fr} {w : World} {d : Option Nat} {ty : TypeId} {pos : String} {af : Array Edge} {g : Option (Nat × Bool)} {x y : Operand} {S T : TypeId} {base N : Nat} {ys : List α} {a : Option Addr} {m c : Nat} {Z : Value → World → Prop}
def Emp (T : TypeId) (base : Nat) (v : Value) (w : World) : Prop := ∃ N, base ≤ N ∧ v = .slice (some ⟨N, 0, none⟩) 0 0 ∧ w.heap[N]? = some (.cells #[] T (0, 0))
theorem Emp.mono {T : TypeId} {base : Nat} {v : Value} {w w' : World} (h : Emp T base v w) (hb : Below w.heap.size w w') : Emp T base v w' := by
  obtain ⟨N, h1, h2, h3⟩ := h
  exact ⟨N, h1, h2, (hb.block N (Array.getElem?_eq_some_iff.1 h3).1).trans h3⟩
theorem act_bs0 (E : ElemT P S T k nb) (hb : base ≤ w.heap.size) (h : ∀ v w', Emp T base v w' → Below w.heap.size w w' → Z v w') : Act1 P n l ⟨d, .buildSlice S 0 #[], ty, pos, af, g⟩ w Z := by
  obtain ⟨i, z, hi, hz, hsz, _, hzs⟩ := E.info
  refine act_ev (w' := w.alloc (.cells #[] T)) (v := .slice (some ⟨w.heap.size, 0, none⟩) 0 0) ⟨fun A hA => ?_⟩ (h _ _ ⟨_, hb, rfl, heap_alloc_new w _⟩ (below_alloc _ _))
  have e0 : Array.range 0 = #[] := Array.eq_empty_of_size_eq_zero (by simp)
  simp [execOp, Instr.buildSlice, run_underlying E.sl, sizeOf, typeInfo, hi, Instr.fill, newRow, e0]
theorem act_app0 (E : ElemT P S T k nb) (hk : ∀ x, (enc x).length = k) (h1c : ∀ x, ∀ v ∈ enc x, v.oneCell' = true) {v : Value} (hx : ev l x = some v) (hv : Emp T base v w) (hy : ev l y = some (.slice a m c)) (hs : SlR enc k w a c ys) (hm : m = ys.length) (hb : base ≤ w.heap.size) (hsz : ys.length * nb ≤ 140737488355328) (hmx : ys.length ≤ maxLen)
    (h : ∀ v' w', Own enc k T base w' v' ys → Below w.heap.size w w' → Z v' w') : Act1 P n l ⟨d, .call ⟨.builtin .append, #[x, y], #[S, S]⟩, ty, pos, af, g⟩ w Z := by
  subst hm
  obtain ⟨N, hN, rfl, hh⟩ := hv
  cases ys with
  | cons u r =>
    have h0 : SlR enc k w (some ⟨N, 0, none⟩) 0 ([] : List α) := ⟨Nat.le_refl _, by omega, (fun h => by cases h), fun ad _ hc => by omega⟩
    obtain ⟨v', w', h1, h2, h3⟩ := app_full E hk h1c ty h0 hs (by simp) (by simpa using hsz) (by simpa using hmx)
    exact act_ev (v := v') (w' := w') ⟨fun A hA => by simp at h1; simp [execOp, resolve, hA.ev hx, hA.ev hy, invoke, builtin, h1]⟩ (h _ _ ((by simpa using h2 : Own enc k T w.heap.size w' v' (u :: r)).weaken hb) (below_none h3))
  | nil =>
    obtain ⟨i, z, hi, hz, hsz2, _, _⟩ := E.info
    have hO : Own enc k T base w (.slice (some ⟨N, 0, none⟩) 0 0) ([] : List α) := ⟨by simp, .inr ⟨N, 0, #[], rfl, hN, hh, Nat.le_refl _, by simp [maxLen], by simp, by simp⟩⟩
    cases a with
    | none =>
      obtain ⟨_, rfl⟩ := hs.ofNone rfl
      have h1 := run_append_owned_none (P := P) w base S ty T i k E.sl hi _ _ _ hO
      exact act_ev (v := .slice (some ⟨N, 0, none⟩) 0 0) (w' := w) ⟨fun A hA => by simp [execOp, resolve, hA.ev hx, hA.ev hy, invoke, builtin, h1]⟩ (h _ _ hO (Below.refl _ _))
    | some ad =>
      have h1 := run_append_room (P := P) w S ty T i E.sl hi N 0 0 #[] hh ad 0 c [] (by simp) (by simp) (by simp) (by simp) (by simp)
      have hh2 : (w.setRow N #[]).heap[N]? = some (.cells #[] T (0, 0)) := setRow_heap w N _ _ T _ hh
      refine act_ev (v := .slice (some ⟨N, 0, none⟩) 0 0) (w' := w.setRow N #[]) ⟨fun A hA => by simp at h1; simp [execOp, resolve, hA.ev hx, hA.ev hy, invoke, builtin, h1]⟩ (h _ _ ⟨by simp, .inr ⟨N, 0, #[], rfl, hN, hh2, Nat.le_refl _, by simp [maxLen], by simp, by simp⟩⟩ ⟨rfl, rfl, rfl, by simp, fun q _ => ?_⟩)
      rcases Nat.decEq q N with hq | hq
      · exact setRow_other w N q _ hq
      · subst hq; rw [hh2, hh]
theorem lw_of_act {ops : Array Oper} {Q : Exit → Act → World → Prop} {os : List Oper} {d : Nat} {op : Op} (hd : Nat.blt d n = true) (h : Act1 P n l ⟨some d, op, ty, pos, af, none⟩ w (fun v w' => LW P n ops Q os ((d, v) :: l) w')) : LW P n ops Q (⟨some d, op, ty, pos, af, none⟩ :: os) l w :=
  ⟨fun a ha => wpList_plain rfl fun K hK => h.out a ha K _ fun v w' hl => hK _ _ (hl.out _ (ha.put hd v))⟩
end
section
variable {α : Type} {enc : α → List Value} {k : Nat} {P : Program} {n : Nat} {l : Fr} {w : World} {d : Option Nat} {ty : TypeId} {pos : String} {af : Array Edge} {gd : Option (Nat × Bool)} {T t : TypeId} {x y : Operand} {base g cap : Nat} {xs : List α} {Z : Value → World → Prop}
theorem act_storeF (hk : ∀ x, (enc x).length = k) (ht : sizeB P t 1 = true) {i f o : Nat} {v : Value} {a u : α} (hx : ev l x = some (.pointer (some ⟨g, o, none⟩))) (ho : o = i * k + f) (hy : ev l y = some v) (h1 : v.oneCell' = true) (hO : Own enc k T base w (.slice (some ⟨g, 0, none⟩) xs.length cap) xs) (ha : xs[i]? = some a) (hu : enc u = (enc a).set f v) (hf : f < k)
    (h : ∀ w', Own enc k T base w' (.slice (some ⟨g, 0, none⟩) xs.length cap) (xs.set i u) → w.grownBy w' (some g) → w'.heap.size = w.heap.size → Z undef w') : Act1 P n l ⟨d, .store t x y, ty, pos, af, gd⟩ w Z := by
  subst ho
  obtain ⟨cur, hb, hg, hle, hmax, hsz, htk⟩ := Own.heap' hO
  have hi : i < xs.length := (List.getElem?_eq_some_iff.1 ha).1
  have hik : i * k + f < xs.length * k := by
    have := Nat.mul_le_mul_right k (show i + 1 ≤ xs.length from hi); rw [Nat.add_mul, Nat.one_mul] at this; omega
  have hck : xs.length * k ≤ cap * k := Nat.mul_le_mul_right k hle
  have hp : PT w g T cur.toList := by unfold PT; simpa using hg
  obtain ⟨w', a1, b1, c1, e1⟩ := sv_store (P := P) (n := n) (l := l) (d := d) (ty := ty) (pos := pos) (af := af) (g := gd) hp ht hx hy h1 (by rw [Array.length_toList, hsz]; omega)
  refine act_sv a1 (h w' ⟨by rw [flat_len enc k hk, List.length_set], Or.inr ⟨g, cap, (cur.toList.set (i * k + f) v).toArray, by rw [List.length_set], hb, b1, by rw [List.length_set]; exact hle, hmax, by simp [hsz], ?_⟩⟩ c1 e1)
  rw [List.length_set, flat_set hk ha hu hf, ← htk]
  simp only [List.take_set]
end
theorem own_sl {α : Type} {enc : α → List Value} {k : Nat} {T : TypeId} {base : Nat} {w : World} {a : Option Addr} {m c : Nat} {xs : List α} (hk : ∀ x, (enc x).length = k) (h : Own enc k T base w (.slice a m c) xs) : xs.length = m ∧ SlR enc k w a c xs := by
  obtain ⟨a', c', hv, hs, -⟩ := Own.slR hk h
  injection hv with e1 e2 e3
  subst e1 e2 e3
  exact ⟨rfl, hs⟩
theorem own_shape {α : Type} {enc : α → List Value} {k : Nat} {T : TypeId} {base : Nat} {w : World} {v : Value} {xs : List α} (hk : ∀ x, (enc x).length = k) (h : Own enc k T base w v xs) : ∃ a c, v = .slice a xs.length c := by
  obtain ⟨a, c, hv, -, -⟩ := Own.slR hk h
  exact ⟨a, c, hv⟩
theorem own_ne_ptN {α : Type} {enc : α → List Value} {k : Nat} {T T' : TypeId} {B N : Nat} {w : World} {v : Value} {xs : List α} {cs : List Value} (h : Own enc k T B w v xs) (hp : PT w N T' cs) (hT : T ≠ T') : v.ownBlock ≠ some N := by
  obtain ⟨_, h2⟩ := h
  rcases h2 with ⟨rfl, _⟩ | ⟨g, cap, cur, rfl, _, hg, _⟩
  · intro e; cases e
  · intro e
    have e : g = N := by simpa [Value.ownBlock] using e
    subst e
    have h1 : PT w g T cur.toList := by unfold PT; simpa using hg
    unfold PT at h1 hp
    rw [h1] at hp
    injection hp with hp; injection hp with _ h2 _
    exact hT h2
theorem own_own_ne {α β : Type} {enc : α → List Value} {enc' : β → List Value} {k k' B B' : Nat} {T T' : TypeId} {w : World} {v v' : Value} {xs : List α} {ys : List β} (h : Own enc k T B w v xs) (h' : Own enc' k' T' B' w v' ys) (hT : T ≠ T') : v.ownBlock = none ∨ v.ownBlock ≠ v'.ownBlock := by
  rcases h.2 with ⟨rfl, _⟩ | ⟨g, cap, cur, rfl, _, hg, _⟩
  · exact Or.inl rfl
  · rcases h'.2 with ⟨rfl, _⟩ | ⟨g', cap', cur', rfl, _, hg', _⟩
    · exact Or.inr (fun e => by cases e)
    · refine Or.inr fun e => ?_
      have e : g = g' := by simpa [Value.ownBlock] using e
      subst e
      rw [hg] at hg'
      injection hg' with hg'; injection hg' with _ h2 _
      exact hT h2
structure OwA (base : Nat) (w : World) (x : AucC) (a : Auc) : Prop where
  h : x.h = a.h
  o : Own encD 2 46 base w (.slice x.ba x.bm x.bc) a.bids
structure OwS (base : Nat) (w : World) (s : SttC) (t : Stt) (xs : List AucC) : Prop where
  n : s.clock = t.clock ∧ s.fee = t.fee ∧ s.nord = t.nord ∧ s.nauc = t.nauc
  A : Own encA 2 34 base w (.slice s.pa s.ma s.ca) t.accs
  I : Own encN 3 37 base w (.slice s.pi s.mi s.ci) t.inss
  R : Own encR 4 39 base w (.slice s.pr s.mr s.cr) t.rows
  O : Own encO 6 41 base w (.slice s.po s.mo s.co) t.ords
  X : Own encC 9 44 base w (.slice s.px s.mx s.cx) xs
  L : xs.length = t.aucs.length
  B : ∀ (j : Nat) x a, xs[j]? = some x → t.aucs[j]? = some a → OwA base w x a
theorem OwS.stR {base : Nat} {w : World} {s : SttC} {t : Stt} {xs : List AucC} (h : OwS base w s t xs) : StR w s t := by
  obtain ⟨a1, a2⟩ := own_sl encA_len h.A
  obtain ⟨i1, i2⟩ := own_sl encN_len h.I
  obtain ⟨r1, r2⟩ := own_sl encR_len h.R
  obtain ⟨o1, o2⟩ := own_sl encO_len h.O
  obtain ⟨x1, x2⟩ := own_sl encC_len h.X
  refine ⟨h.n, a1, i1, r1, o1, h.L.symm.trans x1, a2, i2, r2, o2, xs, x2, h.L, fun j x a hx ha => ?_⟩
  obtain ⟨q1, q2⟩ := h.B j x a hx ha
  obtain ⟨b1, b2⟩ := own_sl encD_len q2
  exact ⟨q1, b1, b2⟩

theorem sumX_len (l : List Auc) : l.length ≤ sumX l := by
  unfold sumX
  induction l with
  | nil => simp
  | cons a l ih => simp only [List.map_cons, List.sum_cons, List.length_cons]; omega
theorem sumX_mem {l : List Auc} {a : Auc} (h : a ∈ l) : 1 + a.bids.length ≤ sumX l := by
  unfold sumX
  induction l with
  | nil => cases h
  | cons b l ih =>
    simp only [List.map_cons, List.sum_cons]
    rcases List.mem_cons.1 h with rfl | h
    · omega
    · have := ih h; omega
theorem own_shapeM {α : Type} {enc : α → List Value} {k : Nat} {T : TypeId} {base : Nat} {w : World} {v : Value} {xs : List α} {m : Nat} (hk : ∀ x, (enc x).length = k) (h : Own enc k T base w v xs) (hm : xs.length = m) : ∃ a c, v = .slice a m c := by
  obtain ⟨a, c, hv⟩ := own_shape hk h
  exact ⟨a, c, by rw [hv, hm]⟩
theorem own_some {α : Type} {enc : α → List Value} {k : Nat} {T : TypeId} {base : Nat} {w : World} {a : Option Addr} {m c : Nat} {xs : List α} (h : Own enc k T base w (.slice a m c) xs) (h0 : 0 < m) : ∃ g, a = some ⟨g, 0, none⟩ := by
  obtain ⟨h1, h2⟩ := h
  rcases h2 with ⟨hv, h3⟩ | ⟨g, cap, cur, hv, _⟩
  · injection hv with _ e2 _; omega
  · injection hv with e1 _ _; exact ⟨g, e1⟩
structure OwI (base N2 N3 : Nat) (w1 : World) (t : Stt) (aA aI aR aO aX : Option Addr) (cA cI cR cO cX : Nat) (k : Nat) (xs : List AucC) (w : World) : Prop where
  b : Below w1.heap.size w1 w
  h2 : ∃ cs, PT w N2 30 cs ∧ cs.length = 9
  h3 : PT w N3 30 [.int .i64 t.clock, .int .i64 t.fee, .int .i64 t.nord, .int .i64 t.nauc, .slice aA t.accs.length cA, .slice aI t.inss.length cI, .slice aR t.rows.length cR, .slice aO t.ords.length cO, .slice aX t.aucs.length cX]
  A : Own encA 2 34 base w (.slice aA t.accs.length cA) t.accs
  I : Own encN 3 37 base w (.slice aI t.inss.length cI) t.inss
  R : Own encR 4 39 base w (.slice aR t.rows.length cR) t.rows
  O : Own encO 6 41 base w (.slice aO t.ords.length cO) t.ords
  X : Own encC 9 44 base w (.slice aX t.aucs.length cX) xs
  L : xs.length = t.aucs.length
  B : ∀ (j : Nat) x a, xs[j]? = some x → t.aucs[j]? = some a → x.h = a.h ∧ (j < k → Own encD 2 46 base w (.slice x.ba x.bm x.bc) a.bids)
set_option maxRecDepth 20000 in
set_option maxHeartbeats 8000000 in
theorem own_c {s : SttC} {t : Stt} {w : World} (hS0 : StR w s t) (hM : StSm t) : Calls Tryz.prog 18 #[(.agg (encS s).toArray)] w fun e w' => (∃ (qa : Option Addr) (da : Nat) (qi : Option Addr) (di : Nat) (qr : Option Addr) (dr : Nat) (qo : Option Addr) (d : Nat) (qx : Option Addr) (dx : Nat) (xs : List AucC), e = .returned (.agg (List.toArray [.int .i64 t.clock, .int .i64 t.fee, .int .i64 t.nord, .int .i64 t.nauc, .slice qa t.accs.length da, .slice qi t.inss.length di, .slice qr t.rows.length dr, .slice qo t.ords.length d, .slice qx t.aucs.length dx])) ∧ OwS w.heap.size w' ⟨t.clock, t.fee, t.nord, t.nauc, qa, t.accs.length, da, qi, t.inss.length, di, qr, t.rows.length, dr, qo, t.ords.length, d, qx, t.aucs.length, dx⟩ t xs) ∧ Below w.heap.size w w' := by
  have hE := Ext.refl w
  have hw := Below.refl w.heap.size w
  obtain ⟨c1, c2, c3, c4, pa, ma, ca, pi, mi, ci, pr, mr, cr, po, mo, co, px, mx, cx⟩ := s; obtain ⟨⟨e1, e2, e3, e4⟩, hma, hmi, hmr, hmo, hmx, HA, HI, HR, HO, HXs⟩ := hS0; simp only at e1 e2 e3 e4 hma hmi hmr hmo hmx HA HI HR HO HXs; subst e1 e2 e3 e4 hma hmi hmr hmo hmx
  obtain ⟨xs, HX9, HAs⟩ := HXs
  have hxn := HAs.1
  have hsx := hM.xs
  have hsl := sumX_len t.aucs
  have hro := hM.ro
  have hal := hM.al
  have hil := hM.il
  refine fn_enter 52 Tryz.func18 rfl rfl rfl ?_
  repeat' (first | (refine is_cw ?_; first | (refine cw_seq ?_) | (refine cw_region ?_)))
  refine lw_boxN rfl rfl (cs := [.int .i64 t.clock, .int .i64 t.fee, .int .i64 t.nord, .int .i64 t.nauc, .slice pa t.accs.length ca, .slice pi t.inss.length ci, .slice pr t.rows.length cr, .slice po t.ords.length co, .slice px t.aucs.length cx]) rfl ?_; intro N1 wn hN1 HX hb; replace hN1 := Nat.le_trans hw.size hN1; replace hw := grow_trans hw hb; clear hb
  replace hE := hE.mono hw; replace HA := HA.mono hw; replace HI := HI.mono hw; replace HR := HR.mono hw; replace HO := HO.mono hw; replace HX9 := HX9.mono hw; replace HAs := HAs.mono hw; clear hw; have hw := Below.refl wn.heap.size wn
  skip
  refine lw_allocN rfl (by first | exact tyv_29 | exact tyv_30 | exact tyv_33 | exact tyv_34 | exact tyv_36 | exact tyv_37 | exact tyv_38 | exact tyv_39 | exact tyv_40 | exact tyv_41 | exact tyv_43 | exact tyv_44 | exact tyv_45 | exact tyv_46 | exact tyv_73 | exact tyv_74 | exact tyv_80 | exact tyv_81 | exact tyv_107 | exact tyv_108 | exact tyv_123 | exact tyv_146 | exact tyv_147 | exact tyv_148 | exact tyv_149) rfl ?_; intro N2 w2 hN2 H2 hb
  replace hw := grow_trans hw hb
  clear hb
  repeat' (first | (refine is_cw ?_; first | (refine cw_seq ?_) | (refine cw_region ?_)) | (refine is_qw ?_; first | (with_reducible refine qw_then ?_)) | (refine lw_nil ?_) | ((refine is_load ?_; first | (refine lw_pure rfl (pv_loada (tA rfl) rfl (by first | exact PT.lda (HX.mono hw)) (by rfl)) ?_))))
  refine lw_varN rfl (by first | exact tyv_29 | exact tyv_30 | exact tyv_33 | exact tyv_34 | exact tyv_36 | exact tyv_37 | exact tyv_38 | exact tyv_39 | exact tyv_40 | exact tyv_41 | exact tyv_43 | exact tyv_44 | exact tyv_45 | exact tyv_46 | exact tyv_73 | exact tyv_74 | exact tyv_80 | exact tyv_81 | exact tyv_107 | exact tyv_108 | exact tyv_123 | exact tyv_146 | exact tyv_147 | exact tyv_148 | exact tyv_149) rfl (tZ rfl) (fun _ => rfl) rfl rfl ?_; intro N3 w3 hN3 H3 hb
  replace H3 : PT w3 N3 30 [.int .i64 t.clock, .int .i64 t.fee, .int .i64 t.nord, .int .i64 t.nauc, .slice pa t.accs.length ca, .slice pi t.inss.length ci, .slice pr t.rows.length cr, .slice po t.ords.length co, .slice px t.aucs.length cx] := H3
  have hl2 := H2.lt
  have hn23 : N2 ≠ N3 := by omega
  replace hN3 := Nat.le_trans hw.size hN3
  replace H2 := H2.mono hb
  replace hw := grow_trans hw hb
  clear hb hl2
  repeat' (first | (refine is_cw ?_; first | (refine cw_seq ?_) | (refine cw_region ?_)) | (refine is_qw ?_; first | (with_reducible refine qw_then ?_)) | (refine lw_nil ?_))
  refine lw_of_act rfl (act_bs0 elemA hw.size ?_); intro vE wE hvE hb
  replace H2 := H2.mono hb
  replace H3 := H3.mono hb
  replace hw := grow_trans hw hb
  clear hb
  repeat' (first | ((refine is_load ?_; first | (refine lw_pure rfl (pv_load (t1 rfl) rfl (by first | exact PT.ld0 (HX.mono hw) rfl | exact PT.ld (HX.mono hw) rfl)) ?_))) | ((refine is_fa ?_; first | (refine lw_pure rfl (pv_fa (tF rfl) rfl) ?_))))
  refine lw_of_act rfl (act_app0 (base := wn.heap.size) elemA encA_len encA_one rfl hvE rfl (HA.mono hw) rfl hw.size (by omega) (by simp [maxLen]; omega) ?_); intro vA wA OA hb
  replace H2 := H2.mono hb
  replace H3 := H3.mono hb
  replace hw := grow_trans hw hb
  clear hb hvE
  obtain ⟨aA, cA, rfl⟩ := own_shapeM (m := t.accs.length) encA_len OA rfl
  repeat' (first | ((refine is_fa ?_; first | (refine lw_pure rfl (pv_fa (tF rfl) rfl) ?_))))
  have H3o := H3
  refine lw_store H3 (tZ rfl) rfl rfl rfl (by simp) ?_; intro wB H3 hg hz
  replace H3 : PT wB N3 30 [.int .i64 t.clock, .int .i64 t.fee, .int .i64 t.nord, .int .i64 t.nauc, .slice aA t.accs.length cA, .slice pi t.inss.length ci, .slice pr t.rows.length cr, .slice po t.ords.length co, .slice px t.aucs.length cx] := H3
  replace H2 := pt_keptN H2 hg hn23
  replace OA := OA.kept hg (Or.inr (own_ne_ptN OA H3o (by decide)))
  replace hw := st_hw hw hg hN3
  clear hg hz H3o
  repeat' (first | (refine is_cw ?_; first | (refine cw_seq ?_) | (refine cw_region ?_)) | (refine is_qw ?_; first | (with_reducible refine qw_then ?_)) | (refine lw_nil ?_))
  refine lw_of_act rfl (act_bs0 elemIn hw.size ?_); intro vE wE hvE hb
  replace H2 := H2.mono hb
  replace H3 := H3.mono hb
  replace OA := OA.mono hb
  replace hw := grow_trans hw hb
  clear hb
  repeat' (first | ((refine is_load ?_; first | (refine lw_pure rfl (pv_load (t1 rfl) rfl (by first | exact PT.ld0 (HX.mono hw) rfl | exact PT.ld (HX.mono hw) rfl)) ?_))) | ((refine is_fa ?_; first | (refine lw_pure rfl (pv_fa (tF rfl) rfl) ?_))))
  refine lw_of_act rfl (act_app0 (base := wn.heap.size) elemIn encN_len encN_one rfl hvE rfl (HI.mono hw) rfl hw.size (by omega) (by simp [maxLen]; omega) ?_); intro vI wA OI hb
  replace H2 := H2.mono hb
  replace H3 := H3.mono hb
  replace OA := OA.mono hb
  replace hw := grow_trans hw hb
  clear hb hvE
  obtain ⟨aI, cI, rfl⟩ := own_shapeM (m := t.inss.length) encN_len OI rfl
  repeat' (first | ((refine is_fa ?_; first | (refine lw_pure rfl (pv_fa (tF rfl) rfl) ?_))))
  have H3o := H3
  refine lw_store H3 (tZ rfl) rfl rfl rfl (by simp) ?_; intro wB H3 hg hz
  replace H3 : PT wB N3 30 [.int .i64 t.clock, .int .i64 t.fee, .int .i64 t.nord, .int .i64 t.nauc, .slice aA t.accs.length cA, .slice aI t.inss.length cI, .slice pr t.rows.length cr, .slice po t.ords.length co, .slice px t.aucs.length cx] := H3
  replace H2 := pt_keptN H2 hg hn23
  replace OA := OA.kept hg (Or.inr (own_ne_ptN OA H3o (by decide)))
  replace OI := OI.kept hg (Or.inr (own_ne_ptN OI H3o (by decide)))
  replace hw := st_hw hw hg hN3
  clear hg hz H3o
  repeat' (first | (refine is_cw ?_; first | (refine cw_seq ?_) | (refine cw_region ?_)) | (refine is_qw ?_; first | (with_reducible refine qw_then ?_)) | (refine lw_nil ?_))
  refine lw_of_act rfl (act_bs0 elemR hw.size ?_); intro vE wE hvE hb
  replace H2 := H2.mono hb
  replace H3 := H3.mono hb
  replace OA := OA.mono hb
  replace OI := OI.mono hb
  replace hw := grow_trans hw hb
  clear hb
  repeat' (first | ((refine is_load ?_; first | (refine lw_pure rfl (pv_load (t1 rfl) rfl (by first | exact PT.ld0 (HX.mono hw) rfl | exact PT.ld (HX.mono hw) rfl)) ?_))) | ((refine is_fa ?_; first | (refine lw_pure rfl (pv_fa (tF rfl) rfl) ?_))))
  refine lw_of_act rfl (act_app0 (base := wn.heap.size) elemR encR_len encR_one rfl hvE rfl (HR.mono hw) rfl hw.size (by omega) (by simp [maxLen]; omega) ?_); intro vR wA OR hb
  replace H2 := H2.mono hb
  replace H3 := H3.mono hb
  replace OA := OA.mono hb
  replace OI := OI.mono hb
  replace hw := grow_trans hw hb
  clear hb hvE
  obtain ⟨aR, cR, rfl⟩ := own_shapeM (m := t.rows.length) encR_len OR rfl
  repeat' (first | ((refine is_fa ?_; first | (refine lw_pure rfl (pv_fa (tF rfl) rfl) ?_))))
  have H3o := H3
  refine lw_store H3 (tZ rfl) rfl rfl rfl (by simp) ?_; intro wB H3 hg hz
  replace H3 : PT wB N3 30 [.int .i64 t.clock, .int .i64 t.fee, .int .i64 t.nord, .int .i64 t.nauc, .slice aA t.accs.length cA, .slice aI t.inss.length cI, .slice aR t.rows.length cR, .slice po t.ords.length co, .slice px t.aucs.length cx] := H3
  replace H2 := pt_keptN H2 hg hn23
  replace OA := OA.kept hg (Or.inr (own_ne_ptN OA H3o (by decide)))
  replace OI := OI.kept hg (Or.inr (own_ne_ptN OI H3o (by decide)))
  replace OR := OR.kept hg (Or.inr (own_ne_ptN OR H3o (by decide)))
  replace hw := st_hw hw hg hN3
  clear hg hz H3o
  repeat' (first | (refine is_cw ?_; first | (refine cw_seq ?_) | (refine cw_region ?_)) | (refine is_qw ?_; first | (with_reducible refine qw_then ?_)) | (refine lw_nil ?_))
  refine lw_of_act rfl (act_bs0 elemO hw.size ?_); intro vE wE hvE hb
  replace H2 := H2.mono hb
  replace H3 := H3.mono hb
  replace OA := OA.mono hb
  replace OI := OI.mono hb
  replace OR := OR.mono hb
  replace hw := grow_trans hw hb
  clear hb
  repeat' (first | ((refine is_load ?_; first | (refine lw_pure rfl (pv_load (t1 rfl) rfl (by first | exact PT.ld0 (HX.mono hw) rfl | exact PT.ld (HX.mono hw) rfl)) ?_))) | ((refine is_fa ?_; first | (refine lw_pure rfl (pv_fa (tF rfl) rfl) ?_))))
  refine lw_of_act rfl (act_app0 (base := wn.heap.size) elemO encO_len encO_one rfl hvE rfl (HO.mono hw) rfl hw.size (by omega) (by simp [maxLen]; omega) ?_); intro vO wA OO hb
  replace H2 := H2.mono hb
  replace H3 := H3.mono hb
  replace OA := OA.mono hb
  replace OI := OI.mono hb
  replace OR := OR.mono hb
  replace hw := grow_trans hw hb
  clear hb hvE
  obtain ⟨aO, cO, rfl⟩ := own_shapeM (m := t.ords.length) encO_len OO rfl
  repeat' (first | ((refine is_fa ?_; first | (refine lw_pure rfl (pv_fa (tF rfl) rfl) ?_))))
  have H3o := H3
  refine lw_store H3 (tZ rfl) rfl rfl rfl (by simp) ?_; intro wB H3 hg hz
  replace H3 : PT wB N3 30 [.int .i64 t.clock, .int .i64 t.fee, .int .i64 t.nord, .int .i64 t.nauc, .slice aA t.accs.length cA, .slice aI t.inss.length cI, .slice aR t.rows.length cR, .slice aO t.ords.length cO, .slice px t.aucs.length cx] := H3
  replace H2 := pt_keptN H2 hg hn23
  replace OA := OA.kept hg (Or.inr (own_ne_ptN OA H3o (by decide)))
  replace OI := OI.kept hg (Or.inr (own_ne_ptN OI H3o (by decide)))
  replace OR := OR.kept hg (Or.inr (own_ne_ptN OR H3o (by decide)))
  replace OO := OO.kept hg (Or.inr (own_ne_ptN OO H3o (by decide)))
  replace hw := st_hw hw hg hN3
  clear hg hz H3o
  repeat' (first | (refine is_cw ?_; first | (refine cw_seq ?_) | (refine cw_region ?_)) | (refine is_qw ?_; first | (with_reducible refine qw_then ?_)) | (refine lw_nil ?_))
  refine lw_of_act rfl (act_bs0 elemC hw.size ?_); intro vE wE hvE hb
  replace H2 := H2.mono hb
  replace H3 := H3.mono hb
  replace OA := OA.mono hb
  replace OI := OI.mono hb
  replace OR := OR.mono hb
  replace OO := OO.mono hb
  replace hw := grow_trans hw hb
  clear hb
  repeat' (first | ((refine is_load ?_; first | (refine lw_pure rfl (pv_load (t1 rfl) rfl (by first | exact PT.ld0 (HX.mono hw) rfl | exact PT.ld (HX.mono hw) rfl)) ?_))) | ((refine is_fa ?_; first | (refine lw_pure rfl (pv_fa (tF rfl) rfl) ?_))))
  refine lw_of_act rfl (act_app0 (base := wn.heap.size) elemC encC_len encC_one rfl hvE rfl (HX9.mono hw) hxn.symm hw.size (by omega) (by simp [maxLen]; omega) ?_); intro vX wA OX hb
  replace H2 := H2.mono hb
  replace H3 := H3.mono hb
  replace OA := OA.mono hb
  replace OI := OI.mono hb
  replace OR := OR.mono hb
  replace OO := OO.mono hb
  replace hw := grow_trans hw hb
  clear hb hvE
  obtain ⟨aX, cX, rfl⟩ := own_shapeM (m := t.aucs.length) encC_len OX hxn
  repeat' (first | ((refine is_fa ?_; first | (refine lw_pure rfl (pv_fa (tF rfl) rfl) ?_))))
  have H3o := H3
  refine lw_store H3 (tZ rfl) rfl rfl rfl (by simp) ?_; intro wB H3 hg hz
  replace H3 : PT wB N3 30 [.int .i64 t.clock, .int .i64 t.fee, .int .i64 t.nord, .int .i64 t.nauc, .slice aA t.accs.length cA, .slice aI t.inss.length cI, .slice aR t.rows.length cR, .slice aO t.ords.length cO, .slice aX t.aucs.length cX] := H3
  replace H2 := pt_keptN H2 hg hn23
  replace OA := OA.kept hg (Or.inr (own_ne_ptN OA H3o (by decide)))
  replace OI := OI.kept hg (Or.inr (own_ne_ptN OI H3o (by decide)))
  replace OR := OR.kept hg (Or.inr (own_ne_ptN OR H3o (by decide)))
  replace OO := OO.kept hg (Or.inr (own_ne_ptN OO H3o (by decide)))
  replace OX := OX.kept hg (Or.inr (own_ne_ptN OX H3o (by decide)))
  replace hw := st_hw hw hg hN3
  clear hg hz H3o
  repeat' (first | (refine lw_pure rfl (pv_assign rfl) ?_) | (refine is_cw ?_; first | (refine cw_seq ?_) | (refine cw_region ?_) | (refine cw_block ?_)) | (refine is_qw ?_; first | (with_reducible refine qw_then ?_)) | (refine lw_nil ?_))
  refine cw_loop (σ := Nat × List AucC) (fun q => [(1, .pointer (some ⟨N1, 0, none⟩)), (2, .pointer (some ⟨N2, 0, none⟩)), (3, .pointer (some ⟨N3, 0, none⟩)), (4, .int .i64 (q.1 : Nat))]) (fun q wr => q.1 ≤ t.aucs.length ∧ OwI wn.heap.size N2 N3 wn t aA aI aR aO aX cA cI cR cO cX q.1 q.2 wr) (fun q => t.aucs.length - q.1) (0, xs) (by repeat' (first | exact trivial | refine ⟨rfl, ?_⟩)) ⟨Nat.zero_le _, hw, ⟨_, H2, rfl⟩, H3, OA, OI, OR, OO, OX, hxn, fun j x a hx ha => ⟨(HAs.2 j x a hx ha).h, fun h => absurd h (Nat.not_lt_zero _)⟩⟩ ?_
  clear hw H2 H3 OA OI OR OO OX
  rintro ⟨k, ys⟩ wr ⟨hk, hI⟩
  dsimp only at hk hI
  change CW _ _ _ _ [(1, .pointer (some ⟨N1, 0, none⟩)), (2, .pointer (some ⟨N2, 0, none⟩)), (3, .pointer (some ⟨N3, 0, none⟩)), (4, .int .i64 (k : Nat))] wr
  have hzr := hI.b.size
  have hw := Below.refl wr.heap.size wr
  have H3 := hI.h3
  by_cases hlt : k < t.aucs.length
  · have hak : t.aucs[k]? = some (t.aucs[k]'(by omega)) := List.getElem?_eq_getElem _
    generalize t.aucs[k]'(by omega) = a at hak
    obtain ⟨x, hxk, hR⟩ := HAs.at hak
    have hbl := sumX_mem (List.mem_of_getElem? hak)
    have hyk : ys[k]? = some (ys[k]'(by rw [hI.L]; omega)) := List.getElem?_eq_getElem _
    generalize ys[k]'_ = y at hyk
    have hyh := (hI.B k y a hyk hak).1
    obtain ⟨ab, ao, rfl, -, -⟩ := HX9.at (by intro h; rw [h] at hxn; simp at hxn; omega)
    obtain ⟨g, rfl⟩ := own_some hI.X (by omega)
    obtain ⟨xh, ba, bm, bc⟩ := x
    obtain ⟨hh, hm, HB0⟩ := hR
    simp only at hh hm HB0
    subst hh hm
    have HXr := HX.mono hI.b
    have HX9r := HX9.mono hI.b
    have HB := HB0.mono hI.b
    have OXr := hI.X
    rw [← hI.L] at OXr
    obtain ⟨-, hgb, -⟩ := Own.heap' OXr
    repeat' (first | (refine lw_pure rfl (pv_move rfl) ?_) | (refine is_cw ?_; first | (refine cw_seq ?_) | (refine cw_region ?_) | (refine is_cd ?_; refine cw_true rfl (by first | assumption | exact decide_eq_true (by omega) | exact dec_notT (by omega)) ?_) | (refine cw_skip ?_) | (refine cw_block ?_)) | (refine is_qw ?_; first | (with_reducible refine qw_then ?_)) | (refine lw_nil ?_) | ((refine is_bin ?_; first | (refine lw_pure rfl (pv_lss rfl rfl) ?_))) | ((refine is_load ?_; first | (refine lw_pure rfl (pv_load (t1 rfl) rfl (by first | exact PT.ld0 (H3.mono hw) rfl | exact PT.ld (H3.mono hw) rfl)) ?_))) | ((refine is_fa ?_; first | (refine lw_pure rfl (pv_fa (tF rfl) rfl) ?_))) | ((refine is_bi ?_; first | (refine lw_pure rfl (pv_lenl (tS rfl) rfl) ?_))))
    refine cw_drawnF 13 (fun w' => Below wr.heap.size wr w' ∧ True) (by kernel_rfl) (by repeat (first | exact NoPanic.body | with_reducible refine NoPanic.then ?_ | with_reducible refine NoPanic.inBlock ?_)) (fun hNP => ?_)
    have hU := And.intro hw.drew trivial
    first | (refine fw_take 0 rfl (by kernel_rfl) rfl rfl (by kernel_rfl) (by kernel_rfl) (by kernel_rfl) hNP hU rfl (fun w' hq => pv_fa (tF rfl) rfl) ?_)
    first | (refine fw_take 1 rfl (by kernel_rfl) rfl rfl (by kernel_rfl) (by kernel_rfl) (by kernel_rfl) hNP hU rfl (fun w' hq => pv_load (t1 rfl) rfl (by first | exact PT.ld0 hq.2 rfl | exact PT.ld hq.2 rfl)) ?_) | (refine fw_take 1 rfl (by kernel_rfl) rfl rfl (by kernel_rfl) (by kernel_rfl) (by kernel_rfl) hNP hU rfl (fun w' hq => pv_loada (tA rfl) rfl (by first | exact PT.lda hq.2) (by rfl)) ?_) | (refine fw_take 1 rfl (by kernel_rfl) rfl rfl (by kernel_rfl) (by kernel_rfl) (by kernel_rfl) hNP hU rfl (fun w' hq => pv_load (t1 rfl) rfl (by first | exact PT.ld0 (H3.mono hq.1) rfl | exact PT.ld (H3.mono hq.1) rfl | exact PT.ld0 (HXr.mono hq.1) rfl | exact PT.ld (HXr.mono hq.1) rfl | exact SlR.ld (HX9r.mono hq.1) hxk rfl | exact SlR.ld1 (HX9r.mono hq.1) hxk rfl)) ?_) | (refine fw_take 1 rfl (by kernel_rfl) rfl rfl (by kernel_rfl) (by kernel_rfl) (by kernel_rfl) hNP hU rfl (fun w' hq => pv_loada (tA rfl) rfl (by first | exact PT.lda (H3.mono hq.1) | exact PT.lda (HXr.mono hq.1) | exact SlR.lda (HX9r.mono hq.1) hxk) (by rfl)) ?_)
    first | (refine fw_take 2 rfl (by kernel_rfl) rfl rfl (by kernel_rfl) (by kernel_rfl) (by kernel_rfl) hNP hU rfl (fun w' hq => pv_move rfl) ?_)
    first | (refine fw_take 4 rfl (by kernel_rfl) rfl rfl (by kernel_rfl) (by kernel_rfl) (by kernel_rfl) hNP hU rfl (fun w' hq => pv_fa (tF rfl) rfl) ?_)
    first | (refine fw_take 5 rfl (by kernel_rfl) rfl rfl (by kernel_rfl) (by kernel_rfl) (by kernel_rfl) hNP hU rfl (fun w' hq => pv_load (t1 rfl) rfl (by first | exact PT.ld0 hq.2 rfl | exact PT.ld hq.2 rfl)) ?_) | (refine fw_take 5 rfl (by kernel_rfl) rfl rfl (by kernel_rfl) (by kernel_rfl) (by kernel_rfl) hNP hU rfl (fun w' hq => pv_loada (tA rfl) rfl (by first | exact PT.lda hq.2) (by rfl)) ?_) | (refine fw_take 5 rfl (by kernel_rfl) rfl rfl (by kernel_rfl) (by kernel_rfl) (by kernel_rfl) hNP hU rfl (fun w' hq => pv_load (t1 rfl) rfl (by first | exact PT.ld0 (H3.mono hq.1) rfl | exact PT.ld (H3.mono hq.1) rfl | exact PT.ld0 (HXr.mono hq.1) rfl | exact PT.ld (HXr.mono hq.1) rfl | exact SlR.ld (HX9r.mono hq.1) hxk rfl | exact SlR.ld1 (HX9r.mono hq.1) hxk rfl)) ?_) | (refine fw_take 5 rfl (by kernel_rfl) rfl rfl (by kernel_rfl) (by kernel_rfl) (by kernel_rfl) hNP hU rfl (fun w' hq => pv_loada (tA rfl) rfl (by first | exact PT.lda (H3.mono hq.1) | exact PT.lda (HXr.mono hq.1) | exact SlR.lda (HX9r.mono hq.1) hxk) (by rfl)) ?_)
    first | (refine fw_take 6 rfl (by kernel_rfl) rfl rfl (by kernel_rfl) (by kernel_rfl) (by kernel_rfl) hNP hU rfl (fun w' hq => pv_move rfl) ?_)
    first | (refine fw_take 7 rfl (by kernel_rfl) rfl rfl (by kernel_rfl) (by kernel_rfl) (by kernel_rfl) hNP hU rfl (fun w' hq => pv_ian (tS rfl) rfl rfl (by omega)) ?_) | (refine fw_take 7 rfl (by kernel_rfl) rfl rfl (by kernel_rfl) (by kernel_rfl) (by kernel_rfl) hNP hU rfl (fun w' hq => pv_ia (tS rfl) rfl rfl (by omega)) ?_)
    first | (refine fw_take 8 rfl (by kernel_rfl) rfl rfl (by kernel_rfl) (by kernel_rfl) (by kernel_rfl) hNP hU rfl (fun w' hq => pv_fa (tF rfl) rfl) ?_)
    first | (refine fw_take 9 rfl (by kernel_rfl) rfl rfl (by kernel_rfl) (by kernel_rfl) (by kernel_rfl) hNP hU rfl (fun w' hq => pv_load (t1 rfl) rfl (by first | exact PT.ld0 hq.2 rfl | exact PT.ld hq.2 rfl)) ?_) | (refine fw_take 9 rfl (by kernel_rfl) rfl rfl (by kernel_rfl) (by kernel_rfl) (by kernel_rfl) hNP hU rfl (fun w' hq => pv_loada (tA rfl) rfl (by first | exact PT.lda hq.2) (by rfl)) ?_) | (refine fw_take 9 rfl (by kernel_rfl) rfl rfl (by kernel_rfl) (by kernel_rfl) (by kernel_rfl) hNP hU rfl (fun w' hq => pv_load (t1 rfl) rfl (by first | exact PT.ld0 (H3.mono hq.1) rfl | exact PT.ld (H3.mono hq.1) rfl | exact PT.ld0 (HXr.mono hq.1) rfl | exact PT.ld (HXr.mono hq.1) rfl | exact SlR.ld (HX9r.mono hq.1) hxk rfl | exact SlR.ld1 (HX9r.mono hq.1) hxk rfl)) ?_) | (refine fw_take 9 rfl (by kernel_rfl) rfl rfl (by kernel_rfl) (by kernel_rfl) (by kernel_rfl) hNP hU rfl (fun w' hq => pv_loada (tA rfl) rfl (by first | exact PT.lda (H3.mono hq.1) | exact PT.lda (HXr.mono hq.1) | exact SlR.lda (HX9r.mono hq.1) hxk) (by rfl)) ?_)
    refine fw_act 3 (by kernel_rfl) rfl rfl rfl ?_
    refine act_bs0 (base := wn.heap.size) elemD (Nat.le_trans hzr hU.1.size) ?_; intro vE wb hvE hbb; refine ⟨⟨grow_trans hU.1 hbb, trivial⟩, fun hU => ?_⟩
    refine fw_act 10 (by kernel_rfl) rfl rfl rfl ?_
    refine act_app0 (base := wn.heap.size) elemD encD_len encD_one rfl hvE rfl (HB.mono hU.1) rfl (Nat.le_trans hzr hU.1.size) (by omega) (by simp [maxLen]; omega) ?_; intro vb wb hOb hbb; refine ⟨⟨grow_trans hU.1 hbb, trivial⟩, fun hU => ?_⟩
    first | (refine fw_act 11 (by kernel_rfl) rfl rfl rfl ?_; refine act_pv (pv_ian (tS rfl) rfl rfl (by omega)) ?_; refine ⟨hU, fun hU => ?_⟩) | (refine fw_act 11 (by kernel_rfl) rfl rfl rfl ?_; refine act_pv (pv_ia (tS rfl) rfl rfl (by omega)) ?_; refine ⟨hU, fun hU => ?_⟩)
    first | (refine fw_take 12 rfl (by kernel_rfl) rfl rfl (by kernel_rfl) (by kernel_rfl) (by kernel_rfl) hNP hU rfl (fun w' hq => pv_fa (tF rfl) rfl) ?_)
    refine fw_last (by kernel_rfl) rfl rfl rfl rfl (by kernel_rfl) ?_
    obtain ⟨hw, -⟩ := hU; clear hNP
    obtain ⟨bA, bC, rfl⟩ := own_shape encD_len hOb; refine act_storeF (i := k) (f := 8) (a := y) (u := ⟨y.h, bA, a.bids.length, bC⟩) encC_len (tZ rfl) rfl (by omega) rfl rfl (OXr.mono hw) hyk rfl (by omega) ?_; intro wz OX2 hg hz
    repeat' (first | (refine lw_pure rfl (pv_move rfl) ?_) | (refine lw_pure rfl (pv_assign rfl) ?_) | (refine is_cw ?_; first | (refine cw_region ?_)) | (refine is_qw ?_; first | (with_reducible refine qw_then ?_) | (with_reducible refine qw_in ?_)) | (refine lw_nil ?_) | ((refine is_bin ?_; first | (refine lw_pure rfl (pv_inc rfl rfl (by omega)) ?_))))
    have hbz : Below wn.heap.size wn wz := st_hw (grow_trans hI.b hw) hg hgb
    obtain ⟨c2, h2r, h2l⟩ := hI.h2
    have n3 : N3 ≠ g := fun e => own_ne_ptN OXr hI.h3 (by decide) (by rw [e]; rfl)
    have n2 : N2 ≠ g := fun e => own_ne_ptN OXr h2r (by decide) (by rw [e]; rfl)
    have hx : ∀ {α : Type} {enc : α → List Value} {kk : Nat} {T : TypeId} {v : Value} {l : List α}, Own enc kk T wn.heap.size wr v l → T ≠ 44 → Own enc kk T wn.heap.size wz v l := fun h hT => (h.mono hw).kept hg (own_own_ne h OXr hT)
    refine qw_round (k + 1, ys.set k ⟨y.h, bA, a.bids.length, bC⟩) (by repeat' (first | exact trivial | refine ⟨rfl, ?_⟩)) ⟨by show k + 1 ≤ _; omega, hbz, ⟨c2, pt_keptN (h2r.mono hw) hg n2, h2l⟩, pt_keptN (hI.h3.mono hw) hg n3, hx hI.A (by decide), hx hI.I (by decide), hx hI.R (by decide), hx hI.O (by decide), ?_, ?_, ?_⟩ (by show _ - (k + 1) < _ - k; omega)
    · dsimp only; rw [← hI.L]; exact OX2
    · simp [hI.L]
    · intro j x b hx1 hb1
      dsimp only at hx1 ⊢
      rcases Nat.decEq j k with hjk | hjk
      · rw [List.getElem?_set_ne (Ne.symm hjk)] at hx1
        obtain ⟨q1, q2⟩ := hI.B j x b hx1 hb1
        exact ⟨q1, fun hj => hx (q2 (by omega)) (by decide)⟩
      · subst hjk
        rw [hak] at hb1; injection hb1 with hb1; subst hb1
        rw [List.getElem?_set_self (List.getElem?_eq_some_iff.1 hyk).1] at hx1; injection hx1 with hx1; subst hx1
        exact ⟨hyh, fun _ => hOb.kept hg (own_own_ne hOb (OXr.mono hw) (by decide))⟩
  · have hke : k = t.aucs.length := by omega
    subst hke
    repeat' (first | (refine lw_pure rfl (pv_move rfl) ?_) | (refine is_cw ?_; first | (refine cw_seq ?_) | (refine cw_region ?_) | (refine is_cd ?_; refine cw_false rfl (by first | assumption | exact decide_eq_false (by omega) | exact dec_notF (by omega)) ?_) | (refine cw_exit ?_)) | (refine is_qw ?_; first | (with_reducible refine qw_then ?_) | (with_reducible refine qw_in_hit ?_) | (with_reducible refine qw_then_exit ?_)) | (refine lw_nil ?_) | ((refine is_bin ?_; first | (refine lw_pure rfl (pv_lss rfl rfl) ?_))) | ((refine is_load ?_; first | (refine lw_pure rfl (pv_load (t1 rfl) rfl (by first | exact PT.ld0 (H3.mono hw) rfl | exact PT.ld (H3.mono hw) rfl)) ?_) | (refine lw_pure rfl (pv_loada (tA rfl) rfl (by first | exact PT.lda (H3.mono hw)) (by rfl)) ?_))) | ((refine is_fa ?_; first | (refine lw_pure rfl (pv_fa (tF rfl) rfl) ?_))) | ((refine is_bi ?_; first | (refine lw_pure rfl (pv_lenl (tS rfl) rfl) ?_))))
    obtain ⟨c2, h2r, h2l⟩ := hI.h2
    refine lw_storea (vs := [.int .i64 t.clock, .int .i64 t.fee, .int .i64 t.nord, .int .i64 t.nauc, .slice aA t.accs.length cA, .slice aI t.inss.length cI, .slice aR t.rows.length cR, .slice aO t.ords.length cO, .slice aX t.aucs.length cX]) (h2r.mono hw) (tZ rfl) rfl rfl rfl h2l (by simp [Value.oneCell']) ?_; intro wz HZ hg hz
    repeat' (first | (refine is_cw ?_; first | (refine cw_ret ?_)) | (refine is_qw ?_; first | (with_reducible refine qw_then ?_)) | (refine lw_nil ?_))
    have hq : ∀ {α : Type} {enc : α → List Value} {kk : Nat} {T : TypeId} {v : Value} {l : List α}, Own enc kk T wn.heap.size wr v l → T ≠ 30 → Own enc kk T w.heap.size wz v l := fun h hT => ((h.mono hw).kept hg (Or.inr (own_ne_ptN (h.mono hw) (h2r.mono hw) hT))).weaken hE.le
    refine qw_retc rfl rfl (agg_ld (tA rfl) rfl HZ.lda) ⟨⟨aA, cA, aI, cI, aR, cR, aO, cO, aX, cX, ys, rfl, ⟨⟨rfl, rfl, rfl, rfl⟩, hq hI.A (by decide), hq hI.I (by decide), hq hI.R (by decide), hq hI.O (by decide), hq hI.X (by decide), hI.L, fun j x a hx ha => ?_⟩⟩, grow_trans hE.b (st_hw (grow_trans hI.b hw) hg hN2)⟩
    have hj : j < t.aucs.length := (List.getElem?_eq_some_iff.1 ha).1
    obtain ⟨q1, q2⟩ := hI.B j x a hx ha
    exact ⟨q1, hq (q2 hj) (by decide)⟩

theorem check_all {t : Stt} (h : checkF t = ByteArray.empty) : numsB t = true ∧ accsB t.accs = true ∧ inssB t.inss = true ∧ rowsB t = true ∧ ordsB t = true ∧ aucsB t = true ∧ heldB t = true := by
  unfold checkF at h
  have e1 : wNums ≠ ByteArray.empty := by decide
  have e2 : wAccs ≠ ByteArray.empty := by decide
  have e3 : wInss ≠ ByteArray.empty := by decide
  have e4 : wRows ≠ ByteArray.empty := by decide
  have e5 : wOrds ≠ ByteArray.empty := by decide
  have e6 : wAucs ≠ ByteArray.empty := by decide
  have e7 : wHeld ≠ ByteArray.empty := by decide
  split at h
  · exact absurd h e1
  split at h
  · exact absurd h e2
  split at h
  · exact absurd h e3
  split at h
  · exact absurd h e4
  split at h
  · exact absurd h e5
  split at h
  · exact absurd h e6
  split at h
  · exact absurd h e7
  simp_all
theorem check_rows {t : Stt} (h : checkF t = ByteArray.empty) : MayR t.rows := by
  have := (check_all h).2.2.2.1
  unfold rowsB at this
  rw [Bool.and_eq_true] at this
  exact mayR_iff.1 this.1
theorem check_few {t : Stt} (h : checkF t = ByteArray.empty) : (partsP t.ords t.aucs).length ≤ 8000 := by
  obtain ⟨_, _, _, _, h5, h6, _⟩ := check_all h
  unfold ordsB at h5
  unfold aucsB at h6
  rw [Bool.and_eq_true] at h5 h6
  exact parts_few h5.1 h6.1
theorem check_insts {t : Stt} (h : checkF t = ByteArray.empty) : t.inss.length ≤ 16 := by
  obtain ⟨_, _, h3, _⟩ := check_all h
  unfold inssB at h3
  simp only [Bool.and_eq_true, decide_eq_true_eq] at h3
  exact h3.2.1
theorem check_held {t : Stt} (h : checkF t = ByteArray.empty) {r : Row} (hr : r ∈ t.rows) : heldP t r.acct r.asset = r.held := by
  obtain ⟨_, _, _, _, _, _, h7⟩ := check_all h
  unfold heldB at h7
  rw [Bool.and_eq_true] at h7
  simpa using List.all_eq_true.1 h7.1 r hr
theorem check_sum {t : Stt} (h : checkF t = ByteArray.empty) {a : Nat} (ha : a ≤ 16) : sumR t.rows a = 0 := by
  have := (check_rows h).2.2 a (by simp; omega)
  unfold sumR; rw [this]; rfl
theorem sumA_set {r u : Row} : ∀ {l : List Row} {k : Nat}, l[k]? = some r → u.asset = r.asset → sumA (l.set k u) r.asset = sumA l r.asset + (u.free + u.held) - (r.free + r.held)
  | [], k, h, _ => by simp at h
  | x :: l, 0, h, ha => by
    simp at h; subst h
    simp [sumA, List.filter_cons, ha]; omega
  | x :: l, k + 1, h, ha => by
    have ih := sumA_set (l := l) (k := k) (by simpa using h) ha
    unfold sumA at *
    rw [List.set_cons_succ]
    by_cases hx : x.asset = r.asset
    · simp [List.filter_cons, hx] at *; omega
    · simp [List.filter_cons, hx] at *; omega
theorem may_other {t : Stt} (h : checkF t = ByteArray.empty) {k : Nat} {r u : Row} (hk : t.rows[k]? = some r) (ha : u.asset = r.asset) (hd : u.free + u.held ≠ r.free + r.held) : checkF { t with rows := t.rows.set k u } ≠ ByteArray.empty := by
  intro h2
  have h3 := check_rows h2
  have h4 := check_rows h
  have h5 := (there_iff.1 (h4.1 r (List.mem_of_getElem? hk)).1)
  have h6 := h4.2.2 r.asset.toNat (by rw [List.mem_range]; omega)
  have h7 := h3.2.2 r.asset.toNat (by rw [List.mem_range]; omega)
  have h8 : ((r.asset.toNat : Nat) : Int) = r.asset := Int.toNat_of_nonneg (by omega)
  rw [h8] at h6 h7
  dsimp only at h7
  rw [sumA_set hk ha, h6] at h7
  omega
theorem StSm.ok {t : Stt} (h : StSm t) (hr : In64R t.rows) : StOk t := ⟨fun x hx => Nat.le_trans (Nat.le_of_lt (h.an x hx)) (by omega), fun x hx => Nat.le_trans (Nat.le_of_lt (h.im x hx)) (by omega), by have := h.al; omega, by have := h.il; omega, hr⟩
theorem OwA.mono {base : Nat} {w w' : World} {x : AucC} {a : Auc} (h : OwA base w x a) (hb : Below w.heap.size w w') : OwA base w' x a := ⟨h.h, h.o.mono hb⟩
theorem OwS.mono {base : Nat} {w w' : World} {s : SttC} {t : Stt} {xs : List AucC} (h : OwS base w s t xs) (hb : Below w.heap.size w w') : OwS base w' s t xs := ⟨h.n, h.A.mono hb, h.I.mono hb, h.R.mono hb, h.O.mono hb, h.X.mono hb, h.L, fun j x a hx ha => (h.B j x a hx ha).mono hb⟩
theorem OwS.weaken {base B : Nat} {w : World} {s : SttC} {t : Stt} {xs : List AucC} (h : OwS base w s t xs) (hB : B ≤ base) : OwS B w s t xs := ⟨h.n, h.A.weaken hB, h.I.weaken hB, h.R.weaken hB, h.O.weaken hB, h.X.weaken hB, h.L, fun j x a hx ha => ⟨(h.B j x a hx ha).h, (h.B j x a hx ha).o.weaken hB⟩⟩
theorem OwS.setR {base g : Nat} {w w' : World} {s : SttC} {t : Stt} {xs : List AucC} {rs : List Row} (h : OwS base w s t xs) (hr : Own encR 4 39 base w' (.slice s.pr s.mr s.cr) rs) (hg : w.grownBy w' (some g)) (hs : s.pr = some ⟨g, 0, none⟩) : OwS base w' s { t with rows := rs } xs := by
  have hn : (Value.slice s.pr s.mr s.cr).ownBlock = some g := by rw [hs]; rfl
  have hk : ∀ {α : Type} {enc : α → List Value} {kk : Nat} {T : TypeId} {v : Value} {l : List α}, Own enc kk T base w v l → T ≠ 39 → Own enc kk T base w' v l := fun h1 hT => h1.kept hg (by rw [← hn]; exact own_own_ne h1 h.R hT)
  exact ⟨h.n, hk h.A (by decide), hk h.I (by decide), hr, hk h.O (by decide), hk h.X (by decide), h.L, fun j x a hx ha => ⟨(h.B j x a hx ha).h, hk (h.B j x a hx ha).o (by decide)⟩⟩
theorem set_in {l : List Row} {k : Nat} {u : Row} (h : In64R l) (hu : (-9223372036854775808 ≤ u.free ∧ u.free ≤ 9223372036854775807) ∧ (-9223372036854775808 ≤ u.held ∧ u.held ≤ 9223372036854775807)) : In64R (l.set k u) := by
  intro r hr
  rcases List.mem_or_eq_of_mem_set hr with h1 | rfl
  · exact h r h1
  · exact hu
theorem wrap_ne {a n : Int} (ha : -9223372036854775808 ≤ a ∧ a ≤ 9223372036854775807) (hn : -9223372036854775808 ≤ n ∧ n ≤ 9223372036854775807) (h0 : n ≠ 0) : IntKind.i64.wrap (a + n) ≠ a ∧ -9223372036854775808 ≤ IntKind.i64.wrap (a + n) ∧ IntKind.i64.wrap (a + n) ≤ 9223372036854775807 := by
  rw [IntKind.wrap_i64]; omega
section
variable {P : Program} {n : Nat} {l : Fr} {w : World} {d : Option Nat} {ty : TypeId} {pos : String} {af : Array Edge} {g : Option (Nat × Bool)} {t t' : TypeId} {x y : Operand} {a b : Int} {k : IntKind}
theorem pv_convm (ht : cvB P t t' .u64 = true) (hx : ev l x = some (.int k a)) : Pv P n l ⟨d, .convert t t' x, ty, pos, af, g⟩ (.int .u64 (a % 18446744073709551616)) w := by
  have := pv_conv_w (P := P) (n := n) (w := w) (d := d) (ty := ty) (pos := pos) (af := af) (g := g) ht hx
  rwa [IntKind.wrap_u64] at this
theorem pv_remu (hx : ev l x = some (.int .u64 a)) (hy : ev l y = some (.int .u64 b)) (h : 0 ≤ a ∧ 0 < b) : Pv P n l ⟨d, .binOp .rem t x y t', ty, pos, af, g⟩ (.int .u64 (a % b)) w := ⟨fun A hA => by
  have hb : b ≠ 0 := by omega
  rw [← Int.tmod_eq_emod_of_nonneg h.1]
  simp [execOp, hA.ev hx, hA.ev hy, eqGuard, binOp, Op.intDiv, hb]⟩
end
set_option maxRecDepth 20000 in
set_option maxHeartbeats 8000000 in
theorem rowslaw_c {s : SttC} {t : Stt} {k n : Int} {w : World} (hS0 : StR w s t) (hB : StBg t) (hn : -9223372036854775808 ≤ n ∧ n ≤ 9223372036854775807) : Calls Tryz.prog 4 #[(.agg (encS s).toArray), .int .i64 k, .int .i64 n] w fun e w' => e = .returned (.bool true) ∧ Below w.heap.size w w' := by
  have hE := Ext.refl w
  have hw := Below.refl w.heap.size w
  have hS := hS0
  obtain ⟨c1, c2, c3, c4, pa, ma, ca, pi, mi, ci, pr, mr, cr, po, mo, co, px, mx, cx⟩ := s; obtain ⟨⟨e1, e2, e3, e4⟩, hma, hmi, hmr, hmo, hmx, HA, HI, HR, HO, HXs⟩ := hS0; simp only at e1 e2 e3 e4 hma hmi hmr hmo hmx HA HI HR HO HXs; subst e1 e2 e3 e4 hma hmi hmr hmo hmx
  have hil := HI.le
  have him := HI.max
  have hrl := HR.le
  have hrm := HR.max
  refine fn_enter 137 Tryz.func4 rfl rfl rfl ?_
  repeat' (first | (refine is_cw ?_; first | (refine cw_seq ?_) | (refine cw_region ?_)))
  refine lw_boxN rfl rfl (cs := [.int .i64 t.clock, .int .i64 t.fee, .int .i64 t.nord, .int .i64 t.nauc, .slice pa t.accs.length ca, .slice pi t.inss.length ci, .slice pr t.rows.length cr, .slice po t.ords.length co, .slice px t.aucs.length cx]) rfl ?_; intro N3 wn hN3 HX hb; replace hN3 := Nat.le_trans hw.size hN3; replace hw := grow_trans hw hb; clear hb
  replace hE := hE.mono hw; replace hS := hS.mono hw; replace HI := HI.mono hw; replace HR := HR.mono hw; clear hw; have hw := Below.refl wn.heap.size wn
  repeat' (first | (refine lw_pure rfl (pv_assign rfl) ?_) | (refine is_cw ?_; first | (refine cw_seq ?_) | (refine cw_region ?_)) | (refine is_qw ?_; first | (with_reducible refine qw_then ?_)) | (refine lw_nil ?_))
  refine lw_call (f := 8) (by kernel_rfl) rfl rfl (works_c _) ?_; rintro e w1 ⟨rfl, hb⟩; refine ⟨_, rfl, ?_⟩; replace hw := grow_trans hw hb; clear hb
  repeat' (first | (refine lw_pure rfl (pv_move rfl) ?_) | (refine is_guarded ?_; first | (refine lw_on rfl rfl rfl ?_)) | ((refine is_load ?_; first | (refine lw_pure rfl (pv_loada (tA rfl) rfl (by first | exact PT.lda (HX.mono hw)) (by rfl)) ?_))) | ((refine is_un ?_; first | (refine lw_pure rfl (pv_not rfl) ?_))))
  have hcp := weigh_c (hS.mono hw) hB; dsimp only [encS] at hcp; refine lw_call (f := 16) (by kernel_rfl) rfl rfl hcp ?_; clear hcp; rintro e w1 ⟨⟨q, rfl, hQ⟩, hb⟩; refine ⟨_, rfl, ?_⟩; replace hw := grow_trans hw hb; clear hb
  by_cases hq : 1500 ≤ q
  · repeat' (first | (refine is_cw ?_; first | (refine cw_seq ?_) | (refine cw_region ?_) | (refine is_cd ?_; refine cw_true rfl (by first | assumption | exact decide_eq_true (by omega) | exact dec_notT (by omega)) ?_)) | (refine is_qw ?_; first | (with_reducible refine qw_then ?_)) | (refine lw_nil ?_) | (refine is_guarded ?_; first | (refine lw_on rfl rfl rfl ?_)) | ((refine is_bin ?_; first | (refine lw_pure rfl (pv_geq rfl rfl) ?_))) | (refine is_pk ?_; refine lw_pure rfl (pv_pick_f rfl rfl rfl) ?_))
    refine lw_call (f := 8) (by kernel_rfl) rfl rfl (works_c _) ?_; rintro e w1 ⟨rfl, hb⟩; refine ⟨_, rfl, ?_⟩; replace hw := grow_trans hw hb; clear hb
    repeat' (first | (refine lw_pure rfl (pv_assign rfl) ?_) | (refine is_cw ?_; first | (refine cw_ret ?_)) | (refine is_qw ?_; first | (with_reducible refine qw_then ?_) | (with_reducible refine qw_then_ret ?_)) | (refine lw_nil ?_))
    exact qw_ret1 rfl rfl ⟨rfl, (hE.mono hw).b⟩
  have hM := hQ (by omega)
  have hok := hM.ok hB.r
  by_cases hc : checkF t = ByteArray.empty
  rotate_left
  · repeat' (first | (refine is_cw ?_; first | (refine cw_seq ?_) | (refine cw_region ?_) | (refine is_cd ?_; refine cw_false rfl (by first | assumption | exact decide_eq_false (by omega) | exact dec_notF (by omega)) ?_) | (refine cw_skip ?_)) | (refine is_qw ?_; first | (with_reducible refine qw_then ?_)) | (refine lw_nil ?_) | (refine is_guarded ?_; first | (refine lw_on rfl rfl rfl ?_)) | ((refine is_bin ?_; first | (refine lw_pure rfl (pv_geq rfl rfl) ?_))) | ((refine is_load ?_; first | (refine lw_pure rfl (pv_loada (tA rfl) rfl (by first | exact PT.lda (HX.mono hw)) (by rfl)) ?_))) | (refine is_pk ?_; refine lw_pure rfl (pv_pick_f rfl rfl rfl) ?_))
    have hcp := may_f hc (hS.mono hw) hok; dsimp only [encS] at hcp; refine lw_call (f := 11) (by kernel_rfl) rfl rfl hcp ?_; clear hcp; rintro e w1 ⟨rfl, hb⟩; refine ⟨_, rfl, ?_⟩; replace hw := grow_trans hw hb; clear hb
    repeat' (first | (refine is_cw ?_; first | (refine cw_seq ?_) | (refine cw_region ?_) | (refine cw_true rfl rfl ?_)) | (refine is_qw ?_; first | (with_reducible refine qw_then ?_)) | (refine lw_nil ?_) | ((refine is_load ?_; first | (refine lw_pure rfl (pv_loada (tA rfl) rfl (by first | exact PT.lda (HX.mono hw)) (by rfl)) ?_))) | ((refine is_un ?_; first | (refine lw_pure rfl (pv_not rfl) ?_))))
    have hcp := check_c (hS.mono hw) hok; dsimp only [encS] at hcp; refine lw_call (f := 9) (by kernel_rfl) rfl rfl hcp ?_; clear hcp; rintro e w1 ⟨rfl, hb⟩; refine ⟨_, rfl, ?_⟩; replace hw := grow_trans hw hb; clear hb
    repeat' (first | (refine lw_pure rfl (pv_assign rfl) ?_) | (refine is_cw ?_; first | (refine cw_ret ?_)) | (refine is_qw ?_; first | (with_reducible refine qw_then ?_) | (with_reducible refine qw_then_ret ?_)) | (refine lw_nil ?_) | ((refine is_bin ?_; first | (refine lw_pure rfl (pv_sneqD rfl rfl) ?_))))
    exact qw_ret1 rfl rfl ⟨by rw [show ByteArray.mk #[] = ByteArray.empty from rfl, decide_eq_false hc]; rfl, (hE.mono hw).b⟩
  repeat' (first | (refine is_cw ?_; first | (refine cw_seq ?_) | (refine cw_region ?_) | (refine is_cd ?_; refine cw_false rfl (by first | assumption | exact decide_eq_false (by omega) | exact dec_notF (by omega)) ?_) | (refine cw_skip ?_)) | (refine is_qw ?_; first | (with_reducible refine qw_then ?_)) | (refine lw_nil ?_) | (refine is_guarded ?_; first | (refine lw_on rfl rfl rfl ?_)) | ((refine is_bin ?_; first | (refine lw_pure rfl (pv_geq rfl rfl) ?_))) | ((refine is_load ?_; first | (refine lw_pure rfl (pv_loada (tA rfl) rfl (by first | exact PT.lda (HX.mono hw)) (by rfl)) ?_))) | (refine is_pk ?_; refine lw_pure rfl (pv_pick_f rfl rfl rfl) ?_))
  have hcp := may_t hc (hS.mono hw) hok; dsimp only [encS] at hcp; refine lw_call (f := 11) (by kernel_rfl) rfl rfl hcp ?_; clear hcp; rintro e w1 ⟨rfl, hb⟩; refine ⟨_, rfl, ?_⟩; replace hw := grow_trans hw hb; clear hb
  repeat' (first | (refine lw_pure rfl (pv_assign rfl) ?_) | (refine is_cw ?_; first | (refine cw_seq ?_) | (refine cw_region ?_) | (refine cw_false rfl rfl ?_) | (refine cw_skip ?_) | (refine cw_block ?_)) | (refine is_qw ?_; first | (with_reducible refine qw_then ?_)) | (refine lw_nil ?_) | ((refine is_un ?_; first | (refine lw_pure rfl (pv_not rfl) ?_))))
  have hi16 := check_insts hc
  have hfew := check_few hc
  have hrow := check_rows hc
  have hro := hM.ro
  have hG := Ext.mk hw
  replace hE := hE.mono hw; replace hS := hS.mono hw; replace HI := HI.mono hw; replace HR := HR.mono hw; replace HX := HX.mono hw; clear hw; have hw := Below.refl w1.heap.size w1
  refine cw_loop (σ := Nat) (fun j => [(1, .int .i64 k), (2, .int .i64 n), (3, .pointer (some ⟨N3, 0, none⟩)), (7, .int .i64 (j : Nat))]) (fun j wr => Below w1.heap.size w1 wr) (fun j => t.inss.length + 1 - j) 0 (by repeat' (first | exact trivial | refine ⟨rfl, ?_⟩)) hw ?_
  clear hw
  rintro j wr hw
  by_cases hjl : j ≤ t.inss.length
  · repeat' (first | (refine lw_pure rfl (pv_move rfl) ?_) | (refine is_cw ?_; first | (refine cw_seq ?_) | (refine cw_region ?_) | (refine is_cd ?_; refine cw_true rfl (by first | assumption | exact decide_eq_true (by omega) | exact dec_notT (by omega)) ?_) | (refine cw_skip ?_) | (refine cw_block ?_)) | (refine is_qw ?_; first | (with_reducible refine qw_then ?_)) | (refine lw_nil ?_) | ((refine is_bin ?_; first | (refine lw_pure rfl (pv_leq rfl rfl) ?_))) | ((refine is_load ?_; first | (refine lw_pure rfl (pv_load (t1 rfl) rfl (by first | exact PT.ld0 (HX.mono hw) rfl | exact PT.ld (HX.mono hw) rfl)) ?_))) | ((refine is_fa ?_; first | (refine lw_pure rfl (pv_fa (tF rfl) rfl) ?_))) | ((refine is_bi ?_; first | (refine lw_pure rfl (pv_lenl (tS rfl) rfl) ?_))))
    have hcs := suml_c (j : Int) rfl (HR.mono hw) (by omega) hB.r
    rw [check_sum hc (by omega)] at hcs
    refine lw_call (f := 17) (by kernel_rfl) rfl rfl (hcs) ?_; rintro e w1 ⟨rfl, hb⟩; refine ⟨_, rfl, ?_⟩; replace hw := grow_trans hw hb; clear hb
    repeat' (first | (refine lw_pure rfl (pv_move rfl) ?_) | (refine lw_pure rfl (pv_assign rfl) ?_) | (refine is_cw ?_; first | (refine cw_region ?_) | (refine cw_false rfl rfl ?_) | (refine cw_skip ?_)) | (refine is_qw ?_; first | (with_reducible refine qw_then ?_) | (with_reducible refine qw_in ?_)) | (refine lw_nil ?_) | ((refine is_bin ?_; first | (refine lw_pure rfl (pv_neq rfl rfl) ?_) | (refine lw_pure rfl (pv_inc rfl rfl (by omega)) ?_))))
    refine qw_round (j + 1) (by repeat' (first | exact trivial | refine ⟨rfl, ?_⟩)) hw (by show _ - (j + 1) < _ - j; omega)
  repeat' (first | (refine lw_pure rfl (pv_move rfl) ?_) | (refine lw_pure rfl (pv_assign rfl) ?_) | (refine is_cw ?_; first | (refine cw_seq ?_) | (refine cw_region ?_) | (refine is_cd ?_; refine cw_false rfl (by first | assumption | exact decide_eq_false (by omega) | exact dec_notF (by omega)) ?_) | (refine cw_block ?_) | (refine cw_exit ?_)) | (refine is_qw ?_; first | (with_reducible refine qw_then ?_) | (with_reducible refine qw_in_hit ?_) | (with_reducible refine qw_then_exit ?_)) | (refine lw_nil ?_) | ((refine is_bin ?_; first | (refine lw_pure rfl (pv_leq rfl rfl) ?_))) | ((refine is_load ?_; first | (refine lw_pure rfl (pv_load (t1 rfl) rfl (by first | exact PT.ld0 (HX.mono hw) rfl | exact PT.ld (HX.mono hw) rfl)) ?_))) | ((refine is_fa ?_; first | (refine lw_pure rfl (pv_fa (tF rfl) rfl) ?_))) | ((refine is_bi ?_; first | (refine lw_pure rfl (pv_lenl (tS rfl) rfl) ?_))))
  replace hG := hG.mono hw
  replace hE := hE.mono hw; replace hS := hS.mono hw; replace HI := HI.mono hw; replace HR := HR.mono hw; replace HX := HX.mono hw; clear hw; have hw := Below.refl wr.heap.size wr
  refine cw_loop (σ := Nat) (fun j => [(1, .int .i64 k), (2, .int .i64 n), (3, .pointer (some ⟨N3, 0, none⟩)), (8, .int .i64 (j : Nat))]) (fun j w2 => j ≤ t.rows.length ∧ Below wr.heap.size wr w2) (fun j => t.rows.length - j) 0 (by repeat' (first | exact trivial | refine ⟨rfl, ?_⟩)) ⟨Nat.zero_le _, hw⟩ ?_
  clear hw hjl j
  rintro j w2 ⟨hj, hw⟩
  by_cases hlt : j < t.rows.length
  · have hrj : t.rows[j]? = some (t.rows[j]'(by omega)) := List.getElem?_eq_getElem _
    generalize t.rows[j]'(by omega) = r at hrj
    have hmem := List.mem_of_getElem? hrj
    obtain ⟨ab, ao, rfl, -, -⟩ := HR.at (by intro h; rw [h] at hlt; simp at hlt)
    have hO := hrow.1 r hmem
    have hHe := check_held hc hmem
    obtain ⟨hth, hz0, ha0, han⟩ := hO
    have hth2 := there_iff.1 hth
    repeat' (first | (refine lw_pure rfl (pv_move rfl) ?_) | (refine is_cw ?_; first | (refine cw_seq ?_) | (refine cw_region ?_) | (refine is_cd ?_; refine cw_true rfl (by first | assumption | exact decide_eq_true (by omega) | exact dec_notT (by omega)) ?_) | (refine cw_skip ?_) | (refine cw_block ?_)) | (refine is_qw ?_; first | (with_reducible refine qw_then ?_)) | (refine lw_nil ?_) | ((refine is_bin ?_; first | (refine lw_pure rfl (pv_lss rfl rfl) ?_))) | ((refine is_load ?_; first | (refine lw_pure rfl (pv_load (t1 rfl) rfl (by first | exact PT.ld0 (HX.mono hw) rfl | exact PT.ld (HX.mono hw) rfl | exact SlR.ld (HR.mono hw) hrj rfl | exact SlR.ld1 (HR.mono hw) hrj rfl)) ?_) | (refine lw_pure rfl (pv_loada (tA rfl) rfl (by first | exact PT.lda (HX.mono hw) | exact SlR.lda (HR.mono hw) hrj) (by rfl)) ?_))) | ((refine is_fa ?_; first | (refine lw_pure rfl (pv_fa (tF rfl) rfl) ?_))) | ((refine is_ia ?_; first | (refine lw_pure rfl (pv_ian (tS rfl) rfl rfl (by omega)) ?_))) | ((refine is_bi ?_; first | (refine lw_pure rfl (pv_lenl (tS rfl) rfl) ?_))))
    refine lw_varN rfl (by first | exact tyv_29 | exact tyv_30 | exact tyv_33 | exact tyv_34 | exact tyv_36 | exact tyv_37 | exact tyv_38 | exact tyv_39 | exact tyv_40 | exact tyv_41 | exact tyv_43 | exact tyv_44 | exact tyv_45 | exact tyv_46 | exact tyv_73 | exact tyv_74 | exact tyv_80 | exact tyv_81 | exact tyv_107 | exact tyv_108 | exact tyv_123 | exact tyv_146 | exact tyv_147 | exact tyv_148 | exact tyv_149) rfl (tZ rfl) (fun _ => rfl) rfl rfl ?_; intro N9 w3 hN9 H9 hb
    replace H9 : PT w3 N9 39 (encR r) := H9
    have hG2 := Ext.mk (grow_trans hw hb)
    clear hw hb
    have hS3 := hS.mono hG2.b
    have HX3 := HX.mono hG2.b
    have hw := Below.refl w3.heap.size w3
    repeat' (first | (refine is_cw ?_; first | (refine cw_seq ?_)) | (refine is_qw ?_; first | (with_reducible refine qw_then ?_)) | (refine lw_nil ?_))
    have hch := fun (w' : World) (hS' : Below w3.heap.size w3 w') => R.held_c (a := r.acct) (i := r.asset) (hS3.mono hS') hfew
    rw [hHe] at hch
    dsimp only [encS] at hch
    by_cases hpos : 0 < r.acct
    · obtain ⟨hp1, hp2, hp3⟩ := han (by omega)
      replace hp3 : r.free + r.held ≤ 1125899906842624 := hp3
      have hadd : -9223372036854775808 ≤ r.free + r.held ∧ r.free + r.held ≤ 9223372036854775807 := by omega
      refine cw_drawn (fun w' => Below w3.heap.size w3 w') (by kernel_rfl) (by repeat (first | exact NoPanic.body | with_reducible refine NoPanic.then ?_ | with_reducible refine NoPanic.inBlock ?_)) (fun hNP => ?_)
      have hS := hw.drew
      all_goals (refine at0 0 rfl (fun w' hq => pv_fa (tF rfl) rfl) ?_)
      all_goals (refine at0 1 rfl (fun w' hq => pv_load (t1 rfl) rfl (by first | exact PT.ld0 (HX3.mono hq) rfl | exact PT.ld (HX3.mono hq) rfl | exact PT.ld0 (H9.mono hq) rfl | exact PT.ld (H9.mono hq) rfl)) ?_)
      all_goals (refine at0 2 rfl (fun w' hq => pv_loada (tA rfl) rfl (by first | exact PT.lda (HX3.mono hq) | exact PT.lda (H9.mono hq)) (by rfl)) ?_)
      all_goals (refine at0 3 rfl (fun w' hq => pv_fa (tF rfl) rfl) ?_)
      all_goals (refine at0 4 rfl (fun w' hq => pv_load (t1 rfl) rfl (by first | exact PT.ld0 (HX3.mono hq) rfl | exact PT.ld (HX3.mono hq) rfl | exact PT.ld0 (H9.mono hq) rfl | exact PT.ld (H9.mono hq) rfl)) ?_)
      all_goals (refine at0 5 rfl (fun w' hq => pv_fa (tF rfl) rfl) ?_)
      all_goals (refine at0 6 rfl (fun w' hq => pv_load (t1 rfl) rfl (by first | exact PT.ld0 (HX3.mono hq) rfl | exact PT.ld (HX3.mono hq) rfl | exact PT.ld0 (H9.mono hq) rfl | exact PT.ld (H9.mono hq) rfl)) ?_)
      all_goals (refine aw_act 7 (by kernel_rfl) rfl rfl rfl ?_; refine act_call (f := 15) (by kernel_rfl) rfl (hch _ hS) ?_; rintro e w1 ⟨rfl, hb⟩; refine ⟨_, rfl, grow_trans hS hb, fun hS => ?_⟩)
      all_goals (refine at0 8 rfl (fun w' hq => pv_neq rfl rfl) ?_)
      all_goals (refine at0 9 rfl (fun w' hq => pv_move rfl) ?_)
      all_goals (refine at2 10 rfl rfl rfl (fun w' hq => pv_fa (tF rfl) rfl) ?_)
      all_goals (refine at2 11 rfl rfl rfl (fun w' hq => pv_load (t1 rfl) rfl (by first | exact PT.ld0 (HX3.mono hq) rfl | exact PT.ld (HX3.mono hq) rfl | exact PT.ld0 (H9.mono hq) rfl | exact PT.ld (H9.mono hq) rfl)) ?_)
      all_goals (refine at2 12 rfl rfl rfl (fun w' hq => pv_gtr rfl rfl) ?_)
      all_goals (refine at2 13 rfl rfl rfl (fun w' hq => pv_move rfl) ?_)
      all_goals (refine at2 14 rfl rfl rfl (fun w' hq => pv_fa (tF rfl) rfl) ?_)
      all_goals (refine at2 15 rfl rfl rfl (fun w' hq => pv_load (t1 rfl) rfl (by first | exact PT.ld0 (HX3.mono hq) rfl | exact PT.ld (HX3.mono hq) rfl | exact PT.ld0 (H9.mono hq) rfl | exact PT.ld (H9.mono hq) rfl)) ?_)
      all_goals (refine at2 16 rfl rfl rfl (fun w' hq => pv_lss rfl rfl) ?_)
      all_goals (refine at2 17 rfl rfl rfl (fun w' hq => pv_move rfl) ?_)
      all_goals (refine at2 18 rfl rfl rfl (fun w' hq => pv_fa (tF rfl) rfl) ?_)
      all_goals (refine at2 19 rfl rfl rfl (fun w' hq => pv_load (t1 rfl) rfl (by first | exact PT.ld0 (HX3.mono hq) rfl | exact PT.ld (HX3.mono hq) rfl | exact PT.ld0 (H9.mono hq) rfl | exact PT.ld (H9.mono hq) rfl)) ?_)
      all_goals (refine at2 20 rfl rfl rfl (fun w' hq => pv_lss rfl rfl) ?_)
      all_goals (refine at2 21 rfl rfl rfl (fun w' hq => pv_pick_f rfl (by first | assumption | exact decide_eq_false (by omega) | exact dec_notF (by omega)) rfl) ?_)
      all_goals (refine at2 22 rfl rfl rfl (fun w' hq => pv_move rfl) ?_)
      all_goals (refine at2 23 rfl rfl rfl (fun w' hq => pv_fa (tF rfl) rfl) ?_)
      all_goals (refine at2 24 rfl rfl rfl (fun w' hq => pv_load (t1 rfl) rfl (by first | exact PT.ld0 (HX3.mono hq) rfl | exact PT.ld (HX3.mono hq) rfl | exact PT.ld0 (H9.mono hq) rfl | exact PT.ld (H9.mono hq) rfl)) ?_)
      all_goals (refine at2 25 rfl rfl rfl (fun w' hq => pv_fa (tF rfl) rfl) ?_)
      all_goals (refine at2 26 rfl rfl rfl (fun w' hq => pv_load (t1 rfl) rfl (by first | exact PT.ld0 (HX3.mono hq) rfl | exact PT.ld (HX3.mono hq) rfl | exact PT.ld0 (H9.mono hq) rfl | exact PT.ld (H9.mono hq) rfl)) ?_)
      all_goals (refine at2 27 rfl rfl rfl (fun w' hq => pv_add rfl rfl hadd) ?_)
      all_goals (refine at2 28 rfl rfl rfl (fun w' hq => pv_gtr rfl rfl) ?_)
      all_goals (refine at2 29 rfl rfl rfl (fun w' hq => pv_pick_f rfl (by first | assumption | exact decide_eq_false (by omega) | exact dec_notF (by omega)) rfl) ?_)
      all_goals (refine at2 30 rfl rfl rfl (fun w' hq => pv_pick_t rfl (by first | assumption | exact decide_eq_true (by omega) | exact dec_notT (by omega)) rfl) ?_)
      all_goals (refine at0 31 rfl (fun w' hq => pv_pick_f rfl (by first | assumption | exact decide_eq_false (by omega) | exact dec_notF (by omega)) rfl) ?_)
      all_goals (refine aw_done (by kernel_rfl) ?_; replace hw := hS; clear hS hNP)
      repeat' (first | (refine lw_pure rfl (pv_move rfl) ?_) | (refine lw_pure rfl (pv_assign rfl) ?_) | (refine is_cw ?_; first | (refine cw_region ?_) | (refine is_cd ?_; refine cw_false rfl (by first | assumption | exact decide_eq_false (by omega) | exact dec_notF (by omega)) ?_) | (refine cw_skip ?_)) | (refine is_qw ?_; first | (with_reducible refine qw_then ?_) | (with_reducible refine qw_in ?_)) | (refine lw_nil ?_) | ((refine is_bin ?_; first | (refine lw_pure rfl (pv_inc rfl rfl (by omega)) ?_))))
      exact qw_round (j + 1) (by repeat' (first | exact trivial | refine ⟨rfl, ?_⟩)) ⟨by omega, (hG2.mono hw).b⟩ (by show _ - (j + 1) < _ - j; omega)
    · skip
      refine cw_drawn (fun w' => Below w3.heap.size w3 w') (by kernel_rfl) (by repeat (first | exact NoPanic.body | with_reducible refine NoPanic.then ?_ | with_reducible refine NoPanic.inBlock ?_)) (fun hNP => ?_)
      have hS := hw.drew
      all_goals (refine at0 0 rfl (fun w' hq => pv_fa (tF rfl) rfl) ?_)
      all_goals (refine at0 1 rfl (fun w' hq => pv_load (t1 rfl) rfl (by first | exact PT.ld0 (HX3.mono hq) rfl | exact PT.ld (HX3.mono hq) rfl | exact PT.ld0 (H9.mono hq) rfl | exact PT.ld (H9.mono hq) rfl)) ?_)
      all_goals (refine at0 2 rfl (fun w' hq => pv_loada (tA rfl) rfl (by first | exact PT.lda (HX3.mono hq) | exact PT.lda (H9.mono hq)) (by rfl)) ?_)
      all_goals (refine at0 3 rfl (fun w' hq => pv_fa (tF rfl) rfl) ?_)
      all_goals (refine at0 4 rfl (fun w' hq => pv_load (t1 rfl) rfl (by first | exact PT.ld0 (HX3.mono hq) rfl | exact PT.ld (HX3.mono hq) rfl | exact PT.ld0 (H9.mono hq) rfl | exact PT.ld (H9.mono hq) rfl)) ?_)
      all_goals (refine at0 5 rfl (fun w' hq => pv_fa (tF rfl) rfl) ?_)
      all_goals (refine at0 6 rfl (fun w' hq => pv_load (t1 rfl) rfl (by first | exact PT.ld0 (HX3.mono hq) rfl | exact PT.ld (HX3.mono hq) rfl | exact PT.ld0 (H9.mono hq) rfl | exact PT.ld (H9.mono hq) rfl)) ?_)
      all_goals (refine aw_act 7 (by kernel_rfl) rfl rfl rfl ?_; refine act_call (f := 15) (by kernel_rfl) rfl (hch _ hS) ?_; rintro e w1 ⟨rfl, hb⟩; refine ⟨_, rfl, grow_trans hS hb, fun hS => ?_⟩)
      all_goals (refine at0 8 rfl (fun w' hq => pv_neq rfl rfl) ?_)
      all_goals (refine at0 9 rfl (fun w' hq => pv_move rfl) ?_)
      all_goals (refine at2 10 rfl rfl rfl (fun w' hq => pv_fa (tF rfl) rfl) ?_)
      all_goals (refine at2 11 rfl rfl rfl (fun w' hq => pv_load (t1 rfl) rfl (by first | exact PT.ld0 (HX3.mono hq) rfl | exact PT.ld (HX3.mono hq) rfl | exact PT.ld0 (H9.mono hq) rfl | exact PT.ld (H9.mono hq) rfl)) ?_)
      all_goals (refine at2 12 rfl rfl rfl (fun w' hq => pv_gtr rfl rfl) ?_)
      all_goals (refine at2 13 rfl rfl rfl (fun w' hq => pv_move rfl) ?_)
      all_goals (refine an2 14 rfl rfl rfl ?_)
      all_goals (refine an2 15 rfl rfl rfl ?_)
      all_goals (refine an2 16 rfl rfl rfl ?_)
      all_goals (refine an2 17 rfl rfl rfl ?_)
      all_goals (refine an0 18 rfl rfl rfl ?_)
      all_goals (refine an0 19 rfl rfl rfl ?_)
      all_goals (refine an0 20 rfl rfl rfl ?_)
      all_goals (refine an2 21 rfl rfl rfl ?_)
      all_goals (refine an2 22 rfl rfl rfl ?_)
      all_goals (refine an0 23 rfl rfl rfl ?_)
      all_goals (refine an0 24 rfl rfl rfl ?_)
      all_goals (refine an0 25 rfl rfl rfl ?_)
      all_goals (refine an0 26 rfl rfl rfl ?_)
      all_goals (refine an0 27 rfl rfl rfl ?_)
      all_goals (refine an0 28 rfl rfl rfl ?_)
      all_goals (refine an2 29 rfl rfl rfl ?_)
      all_goals (refine at2 30 rfl rfl rfl (fun w' hq => pv_pick_f rfl (by first | assumption | exact decide_eq_false (by omega) | exact dec_notF (by omega)) rfl) ?_)
      all_goals (refine at0 31 rfl (fun w' hq => pv_pick_f rfl (by first | assumption | exact decide_eq_false (by omega) | exact dec_notF (by omega)) rfl) ?_)
      all_goals (refine aw_done (by kernel_rfl) ?_; replace hw := hS; clear hS hNP)
      repeat' (first | (refine lw_pure rfl (pv_move rfl) ?_) | (refine lw_pure rfl (pv_assign rfl) ?_) | (refine is_cw ?_; first | (refine cw_region ?_) | (refine cw_false rfl rfl ?_) | (refine cw_skip ?_)) | (refine is_qw ?_; first | (with_reducible refine qw_then ?_) | (with_reducible refine qw_in ?_)) | (refine lw_nil ?_) | ((refine is_bin ?_; first | (refine lw_pure rfl (pv_inc rfl rfl (by omega)) ?_))))
      exact qw_round (j + 1) (by repeat' (first | exact trivial | refine ⟨rfl, ?_⟩)) ⟨by omega, (hG2.mono hw).b⟩ (by show _ - (j + 1) < _ - j; omega)
  replace hG := hG.mono hw
  have hGE := hE.mono hw
  have HX3 := HX.mono hw
  have hS3 := hS.mono hw
  have HR3 := HR.mono hw
  clear hw hS HI HR HX hE
  have hw := Below.refl w2.heap.size w2
  by_cases hr0 : t.rows.length = 0
  · repeat' (first | (refine lw_pure rfl (pv_move rfl) ?_) | (refine lw_pure rfl (pv_assign rfl) ?_) | (refine is_cw ?_; first | (refine cw_seq ?_) | (refine cw_region ?_) | (refine cw_true rfl rfl ?_) | (refine is_cd ?_; refine cw_false rfl (by first | assumption | exact decide_eq_false (by omega) | exact dec_notF (by omega)) ?_) | (refine cw_exit ?_) | (refine cw_ret ?_)) | (refine is_qw ?_; first | (with_reducible refine qw_then ?_) | (with_reducible refine qw_in_hit ?_) | (with_reducible refine qw_then_exit ?_) | (with_reducible refine qw_then_ret ?_)) | (refine lw_nil ?_) | (refine is_guarded ?_; first | (refine lw_not rfl rfl rfl (by first | assumption | exact decide_eq_true (by omega) | exact decide_eq_false (by omega) | exact dec_notT (by omega) | exact dec_notF (by omega)) ?_)) | ((refine is_bin ?_; first | (refine lw_pure rfl (pv_lss rfl rfl) ?_) | (refine lw_pure rfl (pv_eql rfl rfl) ?_))) | ((refine is_load ?_; first | (refine lw_pure rfl (pv_load (t1 rfl) rfl (by first | exact PT.ld0 (HX3.mono hw) rfl | exact PT.ld (HX3.mono hw) rfl)) ?_))) | ((refine is_fa ?_; first | (refine lw_pure rfl (pv_fa (tF rfl) rfl) ?_))) | ((refine is_bi ?_; first | (refine lw_pure rfl (pv_lenl (tS rfl) rfl) ?_))) | (refine is_pk ?_; refine lw_pure rfl (pv_pick_t rfl (by first | assumption | exact decide_eq_true (by omega) | exact dec_notT (by omega)) rfl) ?_))
    exact qw_ret1 rfl rfl ⟨rfl, (hGE.mono hw).b⟩
  by_cases hn0 : n = 0
  · repeat' (first | (refine lw_pure rfl (pv_move rfl) ?_) | (refine lw_pure rfl (pv_assign rfl) ?_) | (refine is_cw ?_; first | (refine cw_seq ?_) | (refine cw_region ?_) | (refine is_cd ?_; refine cw_true rfl (by first | assumption | exact decide_eq_true (by omega) | exact dec_notT (by omega)) ?_) | (refine is_cd ?_; refine cw_false rfl (by first | assumption | exact decide_eq_false (by omega) | exact dec_notF (by omega)) ?_) | (refine cw_exit ?_) | (refine cw_ret ?_)) | (refine is_qw ?_; first | (with_reducible refine qw_then ?_) | (with_reducible refine qw_in_hit ?_) | (with_reducible refine qw_then_exit ?_) | (with_reducible refine qw_then_ret ?_)) | (refine lw_nil ?_) | (refine is_guarded ?_; first | (refine lw_on rfl rfl (by first | assumption | exact decide_eq_true (by omega) | exact decide_eq_false (by omega) | exact dec_notT (by omega) | exact dec_notF (by omega)) ?_)) | ((refine is_bin ?_; first | (refine lw_pure rfl (pv_lss rfl rfl) ?_) | (refine lw_pure rfl (pv_eql rfl rfl) ?_))) | ((refine is_load ?_; first | (refine lw_pure rfl (pv_load (t1 rfl) rfl (by first | exact PT.ld0 (HX3.mono hw) rfl | exact PT.ld (HX3.mono hw) rfl)) ?_))) | ((refine is_fa ?_; first | (refine lw_pure rfl (pv_fa (tF rfl) rfl) ?_))) | ((refine is_bi ?_; first | (refine lw_pure rfl (pv_lenl (tS rfl) rfl) ?_))) | (refine is_pk ?_; refine lw_pure rfl (pv_pick_f rfl (by first | assumption | exact decide_eq_false (by omega) | exact dec_notF (by omega)) rfl) ?_))
    exact qw_ret1 rfl rfl ⟨rfl, (hGE.mono hw).b⟩
  have hlm : ((t.rows.length : Nat) : Int) % 18446744073709551616 = ((t.rows.length : Nat) : Int) := Int.emod_eq_of_lt (by omega) (by omega)
  have hmod : 0 ≤ k % 18446744073709551616 % (((t.rows.length : Nat) : Int) % 18446744073709551616) ∧ k % 18446744073709551616 % (((t.rows.length : Nat) : Int) % 18446744073709551616) < ((t.rows.length : Nat) : Int) := by
    rw [hlm]; exact ⟨Int.emod_nonneg _ (by omega), Int.emod_lt_of_pos _ (by omega)⟩
  have hconv : -9223372036854775808 ≤ k % 18446744073709551616 % (((t.rows.length : Nat) : Int) % 18446744073709551616) ∧ k % 18446744073709551616 % (((t.rows.length : Nat) : Int) % 18446744073709551616) ≤ 9223372036854775807 := ⟨by have := hmod.1; omega, Int.le_trans (Int.le_of_lt hmod.2) (by omega)⟩
  repeat' (first | (refine lw_pure rfl (pv_move rfl) ?_) | (refine lw_pure rfl (pv_assign rfl) ?_) | (refine is_cw ?_; first | (refine cw_seq ?_) | (refine cw_region ?_) | (refine is_cd ?_; refine cw_false rfl (by first | assumption | exact decide_eq_false (by omega) | exact dec_notF (by omega)) ?_) | (refine cw_skip ?_) | (refine cw_exit ?_)) | (refine is_qw ?_; first | (with_reducible refine qw_then ?_) | (with_reducible refine qw_in_hit ?_) | (with_reducible refine qw_then_exit ?_)) | (refine lw_nil ?_) | (refine is_guarded ?_; first | (refine lw_on rfl rfl (by first | assumption | exact decide_eq_true (by omega) | exact decide_eq_false (by omega) | exact dec_notT (by omega) | exact dec_notF (by omega)) ?_)) | ((refine is_bin ?_; first | (refine lw_pure rfl (pv_remu rfl rfl (by omega)) ?_) | (refine lw_pure rfl (pv_lss rfl rfl) ?_) | (refine lw_pure rfl (pv_eql rfl rfl) ?_))) | ((refine is_load ?_; first | (refine lw_pure rfl (pv_load (t1 rfl) rfl (by first | exact PT.ld0 (HX3.mono hw) rfl | exact PT.ld (HX3.mono hw) rfl)) ?_) | (refine lw_pure rfl (pv_loada (tA rfl) rfl (by first | exact PT.lda (HX3.mono hw)) (by rfl)) ?_))) | ((refine is_fa ?_; first | (refine lw_pure rfl (pv_fa (tF rfl) rfl) ?_))) | ((refine is_bi ?_; first | (refine lw_pure rfl (pv_lenl (tS rfl) rfl) ?_))) | (refine is_cv ?_; refine lw_pure rfl (pv_conv (tCv rfl rfl) rfl hconv) ?_) | (refine is_cv ?_; refine lw_pure rfl (pv_convm (tCv rfl rfl) rfl) ?_) | (refine is_pk ?_; refine lw_pure rfl (pv_pick_f rfl (by first | assumption | exact decide_eq_false (by omega) | exact dec_notF (by omega)) rfl) ?_))
  clear hconv
  generalize k % 18446744073709551616 % (((t.rows.length : Nat) : Int) % 18446744073709551616) = z at hmod
  obtain ⟨j, rfl⟩ : ∃ j : Nat, z = (j : Int) := ⟨z.toNat, by omega⟩
  have hrj : t.rows[j]? = some (t.rows[j]'(by omega)) := List.getElem?_eq_getElem _
  generalize t.rows[j]'(by omega) = r at hrj
  have hmem := List.mem_of_getElem? hrj
  obtain ⟨ab, ao, rfl, -, -⟩ := HR3.at (by intro h; rw [h] at hrj; simp at hrj)
  have hri := hB.r r hmem
  have hjl : j < t.rows.length := (List.getElem?_eq_some_iff.1 hrj).1
  obtain ⟨f1, f2, f3⟩ := wrap_ne hri.1 hn hn0
  obtain ⟨h1, h2, h3⟩ := wrap_ne hri.2 hn hn0
  have hcp := own_c (hS3.mono hw) hM; dsimp only [encS] at hcp; refine lw_call (f := 18) (by kernel_rfl) rfl rfl hcp ?_; clear hcp; rintro e wo ⟨⟨xpa, xca, xpi, xci, xpr, xcr, xpo, xco, xpx, xcx, xs1, rfl, hO1⟩, hb⟩; refine ⟨_, rfl, ?_⟩
  have hbz := hw.size
  replace hO1 := hO1.weaken hbz
  replace hw := grow_trans hw hb
  clear hb
  skip
  refine lw_varN rfl (by first | exact tyv_29 | exact tyv_30 | exact tyv_33 | exact tyv_34 | exact tyv_36 | exact tyv_37 | exact tyv_38 | exact tyv_39 | exact tyv_40 | exact tyv_41 | exact tyv_43 | exact tyv_44 | exact tyv_45 | exact tyv_46 | exact tyv_73 | exact tyv_74 | exact tyv_80 | exact tyv_81 | exact tyv_107 | exact tyv_108 | exact tyv_123 | exact tyv_146 | exact tyv_147 | exact tyv_148 | exact tyv_149) rfl (tZ rfl) (fun _ => rfl) rfl rfl ?_; intro N1 w4 hN1 H1 hb
  replace H1 : PT w4 N1 30 [.int .i64 t.clock, .int .i64 t.fee, .int .i64 t.nord, .int .i64 t.nauc, .slice xpa t.accs.length xca, .slice xpi t.inss.length xci, .slice xpr t.rows.length xcr, .slice xpo t.ords.length xco, .slice xpx t.aucs.length xcx] := H1
  replace hO1 := hO1.mono hb
  replace hw := grow_trans hw hb
  clear hb
  have hW := hw
  clear hw
  have hw := Below.refl w4.heap.size w4
  have HX4 := HX3.mono hW
  have HR4 := HR3.mono hW
  have hO1R := hO1.R
  dsimp only at hO1R
  obtain ⟨g, rfl⟩ := own_some hO1R (by omega)
  obtain ⟨-, hgb, -⟩ := Own.heap' hO1R
  repeat' (first | (refine is_cw ?_; first | (refine cw_seq ?_)) | (refine is_qw ?_; first | (with_reducible refine qw_then ?_)) | (refine lw_nil ?_))
  refine cw_drawnF 13 (fun w' => Below w4.heap.size w4 w' ∧ True) (by kernel_rfl) (by repeat (first | exact NoPanic.body | with_reducible refine NoPanic.then ?_ | with_reducible refine NoPanic.inBlock ?_)) (fun hNP => ?_)
  have hU := And.intro hw.drew trivial
  first | (refine fw_take 0 rfl (by kernel_rfl) rfl rfl (by kernel_rfl) (by kernel_rfl) (by kernel_rfl) hNP hU rfl (fun w' hq => pv_fa (tF rfl) rfl) ?_)
  first | (refine fw_take 1 rfl (by kernel_rfl) rfl rfl (by kernel_rfl) (by kernel_rfl) (by kernel_rfl) hNP hU rfl (fun w' hq => pv_load (t1 rfl) rfl (by first | exact PT.ld0 hq.2 rfl | exact PT.ld hq.2 rfl)) ?_) | (refine fw_take 1 rfl (by kernel_rfl) rfl rfl (by kernel_rfl) (by kernel_rfl) (by kernel_rfl) hNP hU rfl (fun w' hq => pv_loada (tA rfl) rfl (by first | exact PT.lda hq.2) (by rfl)) ?_) | (refine fw_take 1 rfl (by kernel_rfl) rfl rfl (by kernel_rfl) (by kernel_rfl) (by kernel_rfl) hNP hU rfl (fun w' hq => pv_load (t1 rfl) rfl (by first | exact PT.ld0 (H1.mono hq.1) rfl | exact PT.ld (H1.mono hq.1) rfl | exact PT.ld0 (HX4.mono hq.1) rfl | exact PT.ld (HX4.mono hq.1) rfl | exact SlR.ld (HR4.mono hq.1) hrj rfl | exact SlR.ld1 (HR4.mono hq.1) hrj rfl)) ?_) | (refine fw_take 1 rfl (by kernel_rfl) rfl rfl (by kernel_rfl) (by kernel_rfl) (by kernel_rfl) hNP hU rfl (fun w' hq => pv_loada (tA rfl) rfl (by first | exact PT.lda (H1.mono hq.1) | exact PT.lda (HX4.mono hq.1) | exact SlR.lda (HR4.mono hq.1) hrj) (by rfl)) ?_)
  first | (refine fw_take 2 rfl (by kernel_rfl) rfl rfl (by kernel_rfl) (by kernel_rfl) (by kernel_rfl) hNP hU rfl (fun w' hq => pv_move rfl) ?_)
  first | (refine fw_take 3 rfl (by kernel_rfl) rfl rfl (by kernel_rfl) (by kernel_rfl) (by kernel_rfl) hNP hU rfl (fun w' hq => pv_fa (tF rfl) rfl) ?_)
  first | (refine fw_take 4 rfl (by kernel_rfl) rfl rfl (by kernel_rfl) (by kernel_rfl) (by kernel_rfl) hNP hU rfl (fun w' hq => pv_load (t1 rfl) rfl (by first | exact PT.ld0 hq.2 rfl | exact PT.ld hq.2 rfl)) ?_) | (refine fw_take 4 rfl (by kernel_rfl) rfl rfl (by kernel_rfl) (by kernel_rfl) (by kernel_rfl) hNP hU rfl (fun w' hq => pv_loada (tA rfl) rfl (by first | exact PT.lda hq.2) (by rfl)) ?_) | (refine fw_take 4 rfl (by kernel_rfl) rfl rfl (by kernel_rfl) (by kernel_rfl) (by kernel_rfl) hNP hU rfl (fun w' hq => pv_load (t1 rfl) rfl (by first | exact PT.ld0 (H1.mono hq.1) rfl | exact PT.ld (H1.mono hq.1) rfl | exact PT.ld0 (HX4.mono hq.1) rfl | exact PT.ld (HX4.mono hq.1) rfl | exact SlR.ld (HR4.mono hq.1) hrj rfl | exact SlR.ld1 (HR4.mono hq.1) hrj rfl)) ?_) | (refine fw_take 4 rfl (by kernel_rfl) rfl rfl (by kernel_rfl) (by kernel_rfl) (by kernel_rfl) hNP hU rfl (fun w' hq => pv_loada (tA rfl) rfl (by first | exact PT.lda (H1.mono hq.1) | exact PT.lda (HX4.mono hq.1) | exact SlR.lda (HR4.mono hq.1) hrj) (by rfl)) ?_)
  first | (refine fw_take 5 rfl (by kernel_rfl) rfl rfl (by kernel_rfl) (by kernel_rfl) (by kernel_rfl) hNP hU rfl (fun w' hq => pv_move rfl) ?_)
  first | (refine fw_take 6 rfl (by kernel_rfl) rfl rfl (by kernel_rfl) (by kernel_rfl) (by kernel_rfl) hNP hU rfl (fun w' hq => pv_ian (tS rfl) rfl rfl (by omega)) ?_) | (refine fw_take 6 rfl (by kernel_rfl) rfl rfl (by kernel_rfl) (by kernel_rfl) (by kernel_rfl) hNP hU rfl (fun w' hq => pv_ia (tS rfl) rfl rfl (by omega)) ?_)
  first | (refine fw_take 7 rfl (by kernel_rfl) rfl rfl (by kernel_rfl) (by kernel_rfl) (by kernel_rfl) hNP hU rfl (fun w' hq => pv_fa (tF rfl) rfl) ?_)
  first | (refine fw_take 8 rfl (by kernel_rfl) rfl rfl (by kernel_rfl) (by kernel_rfl) (by kernel_rfl) hNP hU rfl (fun w' hq => pv_load (t1 rfl) rfl (by first | exact PT.ld0 hq.2 rfl | exact PT.ld hq.2 rfl)) ?_) | (refine fw_take 8 rfl (by kernel_rfl) rfl rfl (by kernel_rfl) (by kernel_rfl) (by kernel_rfl) hNP hU rfl (fun w' hq => pv_loada (tA rfl) rfl (by first | exact PT.lda hq.2) (by rfl)) ?_) | (refine fw_take 8 rfl (by kernel_rfl) rfl rfl (by kernel_rfl) (by kernel_rfl) (by kernel_rfl) hNP hU rfl (fun w' hq => pv_load (t1 rfl) rfl (by first | exact PT.ld0 (H1.mono hq.1) rfl | exact PT.ld (H1.mono hq.1) rfl | exact PT.ld0 (HX4.mono hq.1) rfl | exact PT.ld (HX4.mono hq.1) rfl | exact SlR.ld (HR4.mono hq.1) hrj rfl | exact SlR.ld1 (HR4.mono hq.1) hrj rfl)) ?_) | (refine fw_take 8 rfl (by kernel_rfl) rfl rfl (by kernel_rfl) (by kernel_rfl) (by kernel_rfl) hNP hU rfl (fun w' hq => pv_loada (tA rfl) rfl (by first | exact PT.lda (H1.mono hq.1) | exact PT.lda (HX4.mono hq.1) | exact SlR.lda (HR4.mono hq.1) hrj) (by rfl)) ?_)
  first | (refine fw_take 9 rfl (by kernel_rfl) rfl rfl (by kernel_rfl) (by kernel_rfl) (by kernel_rfl) hNP hU rfl (fun w' hq => pv_move rfl) ?_)
  first | (refine fw_take 10 rfl (by kernel_rfl) rfl rfl (by kernel_rfl) (by kernel_rfl) (by kernel_rfl) hNP hU rfl (fun w' hq => pv_add_w rfl rfl) ?_) | (refine fw_take 10 rfl (by kernel_rfl) rfl rfl (by kernel_rfl) (by kernel_rfl) (by kernel_rfl) hNP hU rfl (fun w' hq => pv_lss rfl rfl) ?_) | (refine fw_take 10 rfl (by kernel_rfl) rfl rfl (by kernel_rfl) (by kernel_rfl) (by kernel_rfl) hNP hU rfl (fun w' hq => pv_eql rfl rfl) ?_) | (refine fw_take 10 rfl (by kernel_rfl) rfl rfl (by kernel_rfl) (by kernel_rfl) (by kernel_rfl) hNP hU rfl (fun w' hq => pv_neq rfl rfl) ?_) | (refine fw_take 10 rfl (by kernel_rfl) rfl rfl (by kernel_rfl) (by kernel_rfl) (by kernel_rfl) hNP hU rfl (fun w' hq => pv_leq rfl rfl) ?_) | (refine fw_take 10 rfl (by kernel_rfl) rfl rfl (by kernel_rfl) (by kernel_rfl) (by kernel_rfl) hNP hU rfl (fun w' hq => pv_gtr rfl rfl) ?_) | (refine fw_take 10 rfl (by kernel_rfl) rfl rfl (by kernel_rfl) (by kernel_rfl) (by kernel_rfl) hNP hU rfl (fun w' hq => pv_geq rfl rfl) ?_) | (refine fw_take 10 rfl (by kernel_rfl) rfl rfl (by kernel_rfl) (by kernel_rfl) (by kernel_rfl) hNP hU rfl (fun w' hq => pv_inc rfl rfl (by omega)) ?_) | (refine fw_take 10 rfl (by kernel_rfl) rfl rfl (by kernel_rfl) (by kernel_rfl) (by kernel_rfl) hNP hU rfl (fun w' hq => pv_add rfl rfl (by omega)) ?_) | (refine fw_take 10 rfl (by kernel_rfl) rfl rfl (by kernel_rfl) (by kernel_rfl) (by kernel_rfl) hNP hU rfl (fun w' hq => pv_seqlD rfl rfl) ?_) | (refine fw_take 10 rfl (by kernel_rfl) rfl rfl (by kernel_rfl) (by kernel_rfl) (by kernel_rfl) hNP hU rfl (fun w' hq => pv_sneqD rfl rfl) ?_)
  first | (refine fw_act 11 (by kernel_rfl) rfl rfl rfl ?_; refine act_pv (pv_ian (tS rfl) rfl rfl (by omega)) ?_; refine ⟨hU, fun hU => ?_⟩) | (refine fw_act 11 (by kernel_rfl) rfl rfl rfl ?_; refine act_pv (pv_ia (tS rfl) rfl rfl (by omega)) ?_; refine ⟨hU, fun hU => ?_⟩)
  first | (refine fw_take 12 rfl (by kernel_rfl) rfl rfl (by kernel_rfl) (by kernel_rfl) (by kernel_rfl) hNP hU rfl (fun w' hq => pv_fa (tF rfl) rfl) ?_)
  refine fw_last (by kernel_rfl) rfl rfl rfl rfl (by kernel_rfl) ?_
  obtain ⟨hw, -⟩ := hU; clear hNP
  refine act_storeF (i := j) (f := 2) (a := r) (u := ⟨r.acct, r.asset, IntKind.i64.wrap (r.free + n), r.held⟩) encR_len (tZ rfl) rfl (by omega) rfl rfl (hO1R.mono hw) hrj rfl (by omega) ?_; intro wz OZ hg hz
  have hT : Below w2.heap.size w2 wz := st_hw (grow_trans hW hw) hg hgb
  have n1 : N1 ≠ g := fun e => own_ne_ptN hO1R H1 (by decide) (by rw [e]; rfl)
  have HB1 := pt_keptN (H1.mono hw) hg n1
  have hR1 := (OwS.setR (hO1.mono hw) OZ hg rfl).stR
  have hk1 := may_other (u := ⟨r.acct, r.asset, IntKind.i64.wrap (r.free + n), r.held⟩) hc hrj rfl (by dsimp only; omega)
  have hok1 : StOk { t with rows := t.rows.set j ⟨r.acct, r.asset, IntKind.i64.wrap (r.free + n), r.held⟩ } := ⟨hok.a, hok.i, hok.al, hok.il, set_in hB.r ⟨⟨f2, f3⟩, hri.2⟩⟩
  have hS5 := hS3.mono hT
  have HX5 := HX3.mono hT
  have HR5 := HR3.mono hT
  have hE5 := hGE.mono hT
  clear hT hw OZ hg hz H1 hO1 hO1R HX4 HR4 hW hgb n1 hS3 HX3 HR3 hGE hmod
  have hw := Below.refl wz.heap.size wz
  repeat' (first | (refine is_cw ?_; first | (refine cw_seq ?_) | (refine cw_region ?_)) | (refine is_qw ?_; first | (with_reducible refine qw_then ?_)) | ((refine is_load ?_; first | (refine lw_pure rfl (pv_loada (tA rfl) rfl (by first | exact PT.lda (HX5.mono hw)) (by rfl)) ?_))))
  have hcp := own_c (hS5.mono hw) hM; dsimp only [encS] at hcp; refine lw_call (f := 18) (by kernel_rfl) rfl rfl hcp ?_; clear hcp; rintro e wo ⟨⟨ypa, yca, ypi, yci, ypr, ycr, ypo, yco, ypx, ycx, ys1, rfl, hO2⟩, hb⟩; refine ⟨_, rfl, ?_⟩
  have hbz := hw.size
  replace hO2 := hO2.weaken hbz
  replace hw := grow_trans hw hb
  clear hb hbz
  skip
  refine lw_varN rfl (by first | exact tyv_29 | exact tyv_30 | exact tyv_33 | exact tyv_34 | exact tyv_36 | exact tyv_37 | exact tyv_38 | exact tyv_39 | exact tyv_40 | exact tyv_41 | exact tyv_43 | exact tyv_44 | exact tyv_45 | exact tyv_46 | exact tyv_73 | exact tyv_74 | exact tyv_80 | exact tyv_81 | exact tyv_107 | exact tyv_108 | exact tyv_123 | exact tyv_146 | exact tyv_147 | exact tyv_148 | exact tyv_149) rfl (tZ rfl) (fun _ => rfl) rfl rfl ?_; intro N2 w5 hN2 H2 hb
  replace H2 : PT w5 N2 30 [.int .i64 t.clock, .int .i64 t.fee, .int .i64 t.nord, .int .i64 t.nauc, .slice ypa t.accs.length yca, .slice ypi t.inss.length yci, .slice ypr t.rows.length ycr, .slice ypo t.ords.length yco, .slice ypx t.aucs.length ycx] := H2
  replace hO2 := hO2.mono hb
  replace hw := grow_trans hw hb
  clear hb
  have hW := hw
  clear hw
  have hw := Below.refl w5.heap.size w5
  have HX6 := HX5.mono hW
  have HR6 := HR5.mono hW
  have hO2R := hO2.R
  dsimp only at hO2R
  obtain ⟨g2, rfl⟩ := own_some hO2R (by omega)
  obtain ⟨-, hgb, -⟩ := Own.heap' hO2R
  repeat' (first | (refine is_cw ?_; first | (refine cw_seq ?_)) | (refine is_qw ?_; first | (with_reducible refine qw_then ?_)) | (refine lw_nil ?_))
  refine cw_drawnF 13 (fun w' => Below w5.heap.size w5 w' ∧ True) (by kernel_rfl) (by repeat (first | exact NoPanic.body | with_reducible refine NoPanic.then ?_ | with_reducible refine NoPanic.inBlock ?_)) (fun hNP => ?_)
  have hU := And.intro hw.drew trivial
  first | (refine fw_take 0 rfl (by kernel_rfl) rfl rfl (by kernel_rfl) (by kernel_rfl) (by kernel_rfl) hNP hU rfl (fun w' hq => pv_fa (tF rfl) rfl) ?_)
  first | (refine fw_take 1 rfl (by kernel_rfl) rfl rfl (by kernel_rfl) (by kernel_rfl) (by kernel_rfl) hNP hU rfl (fun w' hq => pv_load (t1 rfl) rfl (by first | exact PT.ld0 hq.2 rfl | exact PT.ld hq.2 rfl)) ?_) | (refine fw_take 1 rfl (by kernel_rfl) rfl rfl (by kernel_rfl) (by kernel_rfl) (by kernel_rfl) hNP hU rfl (fun w' hq => pv_loada (tA rfl) rfl (by first | exact PT.lda hq.2) (by rfl)) ?_) | (refine fw_take 1 rfl (by kernel_rfl) rfl rfl (by kernel_rfl) (by kernel_rfl) (by kernel_rfl) hNP hU rfl (fun w' hq => pv_load (t1 rfl) rfl (by first | exact PT.ld0 (H2.mono hq.1) rfl | exact PT.ld (H2.mono hq.1) rfl | exact PT.ld0 (HX6.mono hq.1) rfl | exact PT.ld (HX6.mono hq.1) rfl | exact SlR.ld (HR6.mono hq.1) hrj rfl | exact SlR.ld1 (HR6.mono hq.1) hrj rfl)) ?_) | (refine fw_take 1 rfl (by kernel_rfl) rfl rfl (by kernel_rfl) (by kernel_rfl) (by kernel_rfl) hNP hU rfl (fun w' hq => pv_loada (tA rfl) rfl (by first | exact PT.lda (H2.mono hq.1) | exact PT.lda (HX6.mono hq.1) | exact SlR.lda (HR6.mono hq.1) hrj) (by rfl)) ?_)
  first | (refine fw_take 2 rfl (by kernel_rfl) rfl rfl (by kernel_rfl) (by kernel_rfl) (by kernel_rfl) hNP hU rfl (fun w' hq => pv_move rfl) ?_)
  first | (refine fw_take 3 rfl (by kernel_rfl) rfl rfl (by kernel_rfl) (by kernel_rfl) (by kernel_rfl) hNP hU rfl (fun w' hq => pv_fa (tF rfl) rfl) ?_)
  first | (refine fw_take 4 rfl (by kernel_rfl) rfl rfl (by kernel_rfl) (by kernel_rfl) (by kernel_rfl) hNP hU rfl (fun w' hq => pv_load (t1 rfl) rfl (by first | exact PT.ld0 hq.2 rfl | exact PT.ld hq.2 rfl)) ?_) | (refine fw_take 4 rfl (by kernel_rfl) rfl rfl (by kernel_rfl) (by kernel_rfl) (by kernel_rfl) hNP hU rfl (fun w' hq => pv_loada (tA rfl) rfl (by first | exact PT.lda hq.2) (by rfl)) ?_) | (refine fw_take 4 rfl (by kernel_rfl) rfl rfl (by kernel_rfl) (by kernel_rfl) (by kernel_rfl) hNP hU rfl (fun w' hq => pv_load (t1 rfl) rfl (by first | exact PT.ld0 (H2.mono hq.1) rfl | exact PT.ld (H2.mono hq.1) rfl | exact PT.ld0 (HX6.mono hq.1) rfl | exact PT.ld (HX6.mono hq.1) rfl | exact SlR.ld (HR6.mono hq.1) hrj rfl | exact SlR.ld1 (HR6.mono hq.1) hrj rfl)) ?_) | (refine fw_take 4 rfl (by kernel_rfl) rfl rfl (by kernel_rfl) (by kernel_rfl) (by kernel_rfl) hNP hU rfl (fun w' hq => pv_loada (tA rfl) rfl (by first | exact PT.lda (H2.mono hq.1) | exact PT.lda (HX6.mono hq.1) | exact SlR.lda (HR6.mono hq.1) hrj) (by rfl)) ?_)
  first | (refine fw_take 5 rfl (by kernel_rfl) rfl rfl (by kernel_rfl) (by kernel_rfl) (by kernel_rfl) hNP hU rfl (fun w' hq => pv_move rfl) ?_)
  first | (refine fw_take 6 rfl (by kernel_rfl) rfl rfl (by kernel_rfl) (by kernel_rfl) (by kernel_rfl) hNP hU rfl (fun w' hq => pv_ian (tS rfl) rfl rfl (by omega)) ?_) | (refine fw_take 6 rfl (by kernel_rfl) rfl rfl (by kernel_rfl) (by kernel_rfl) (by kernel_rfl) hNP hU rfl (fun w' hq => pv_ia (tS rfl) rfl rfl (by omega)) ?_)
  first | (refine fw_take 7 rfl (by kernel_rfl) rfl rfl (by kernel_rfl) (by kernel_rfl) (by kernel_rfl) hNP hU rfl (fun w' hq => pv_fa (tF rfl) rfl) ?_)
  first | (refine fw_take 8 rfl (by kernel_rfl) rfl rfl (by kernel_rfl) (by kernel_rfl) (by kernel_rfl) hNP hU rfl (fun w' hq => pv_load (t1 rfl) rfl (by first | exact PT.ld0 hq.2 rfl | exact PT.ld hq.2 rfl)) ?_) | (refine fw_take 8 rfl (by kernel_rfl) rfl rfl (by kernel_rfl) (by kernel_rfl) (by kernel_rfl) hNP hU rfl (fun w' hq => pv_loada (tA rfl) rfl (by first | exact PT.lda hq.2) (by rfl)) ?_) | (refine fw_take 8 rfl (by kernel_rfl) rfl rfl (by kernel_rfl) (by kernel_rfl) (by kernel_rfl) hNP hU rfl (fun w' hq => pv_load (t1 rfl) rfl (by first | exact PT.ld0 (H2.mono hq.1) rfl | exact PT.ld (H2.mono hq.1) rfl | exact PT.ld0 (HX6.mono hq.1) rfl | exact PT.ld (HX6.mono hq.1) rfl | exact SlR.ld (HR6.mono hq.1) hrj rfl | exact SlR.ld1 (HR6.mono hq.1) hrj rfl)) ?_) | (refine fw_take 8 rfl (by kernel_rfl) rfl rfl (by kernel_rfl) (by kernel_rfl) (by kernel_rfl) hNP hU rfl (fun w' hq => pv_loada (tA rfl) rfl (by first | exact PT.lda (H2.mono hq.1) | exact PT.lda (HX6.mono hq.1) | exact SlR.lda (HR6.mono hq.1) hrj) (by rfl)) ?_)
  first | (refine fw_take 9 rfl (by kernel_rfl) rfl rfl (by kernel_rfl) (by kernel_rfl) (by kernel_rfl) hNP hU rfl (fun w' hq => pv_move rfl) ?_)
  first | (refine fw_take 10 rfl (by kernel_rfl) rfl rfl (by kernel_rfl) (by kernel_rfl) (by kernel_rfl) hNP hU rfl (fun w' hq => pv_add_w rfl rfl) ?_) | (refine fw_take 10 rfl (by kernel_rfl) rfl rfl (by kernel_rfl) (by kernel_rfl) (by kernel_rfl) hNP hU rfl (fun w' hq => pv_lss rfl rfl) ?_) | (refine fw_take 10 rfl (by kernel_rfl) rfl rfl (by kernel_rfl) (by kernel_rfl) (by kernel_rfl) hNP hU rfl (fun w' hq => pv_eql rfl rfl) ?_) | (refine fw_take 10 rfl (by kernel_rfl) rfl rfl (by kernel_rfl) (by kernel_rfl) (by kernel_rfl) hNP hU rfl (fun w' hq => pv_neq rfl rfl) ?_) | (refine fw_take 10 rfl (by kernel_rfl) rfl rfl (by kernel_rfl) (by kernel_rfl) (by kernel_rfl) hNP hU rfl (fun w' hq => pv_leq rfl rfl) ?_) | (refine fw_take 10 rfl (by kernel_rfl) rfl rfl (by kernel_rfl) (by kernel_rfl) (by kernel_rfl) hNP hU rfl (fun w' hq => pv_gtr rfl rfl) ?_) | (refine fw_take 10 rfl (by kernel_rfl) rfl rfl (by kernel_rfl) (by kernel_rfl) (by kernel_rfl) hNP hU rfl (fun w' hq => pv_geq rfl rfl) ?_) | (refine fw_take 10 rfl (by kernel_rfl) rfl rfl (by kernel_rfl) (by kernel_rfl) (by kernel_rfl) hNP hU rfl (fun w' hq => pv_inc rfl rfl (by omega)) ?_) | (refine fw_take 10 rfl (by kernel_rfl) rfl rfl (by kernel_rfl) (by kernel_rfl) (by kernel_rfl) hNP hU rfl (fun w' hq => pv_add rfl rfl (by omega)) ?_) | (refine fw_take 10 rfl (by kernel_rfl) rfl rfl (by kernel_rfl) (by kernel_rfl) (by kernel_rfl) hNP hU rfl (fun w' hq => pv_seqlD rfl rfl) ?_) | (refine fw_take 10 rfl (by kernel_rfl) rfl rfl (by kernel_rfl) (by kernel_rfl) (by kernel_rfl) hNP hU rfl (fun w' hq => pv_sneqD rfl rfl) ?_)
  first | (refine fw_act 11 (by kernel_rfl) rfl rfl rfl ?_; refine act_pv (pv_ian (tS rfl) rfl rfl (by omega)) ?_; refine ⟨hU, fun hU => ?_⟩) | (refine fw_act 11 (by kernel_rfl) rfl rfl rfl ?_; refine act_pv (pv_ia (tS rfl) rfl rfl (by omega)) ?_; refine ⟨hU, fun hU => ?_⟩)
  first | (refine fw_take 12 rfl (by kernel_rfl) rfl rfl (by kernel_rfl) (by kernel_rfl) (by kernel_rfl) hNP hU rfl (fun w' hq => pv_fa (tF rfl) rfl) ?_)
  refine fw_last (by kernel_rfl) rfl rfl rfl rfl (by kernel_rfl) ?_
  obtain ⟨hw, -⟩ := hU; clear hNP
  refine act_storeF (i := j) (f := 3) (a := r) (u := ⟨r.acct, r.asset, r.free, IntKind.i64.wrap (r.held + n)⟩) encR_len (tZ rfl) rfl (by omega) rfl rfl (hO2R.mono hw) hrj rfl (by omega) ?_; intro wy OZ hg hz
  have hT : Below wz.heap.size wz wy := st_hw (grow_trans hW hw) hg hgb
  have n2 : N2 ≠ g2 := fun e => own_ne_ptN hO2R H2 (by decide) (by rw [e]; rfl)
  have HB2 := pt_keptN (H2.mono hw) hg n2
  have hR2 := (OwS.setR (hO2.mono hw) OZ hg rfl).stR
  have hk2 := may_other (u := ⟨r.acct, r.asset, r.free, IntKind.i64.wrap (r.held + n)⟩) hc hrj rfl (by dsimp only; omega)
  have hok2 : StOk { t with rows := t.rows.set j ⟨r.acct, r.asset, r.free, IntKind.i64.wrap (r.held + n)⟩ } := ⟨hok.a, hok.i, hok.al, hok.il, set_in hB.r ⟨hri.1, ⟨h2, h3⟩⟩⟩
  replace HB1 := HB1.mono hT
  replace hR1 := hR1.mono hT
  replace hE5 := hE5.mono hT
  clear hT hw OZ hg hz H2 hO2 hO2R HX5 HR5 hW hgb n2 hS5 HX6 HR6
  have hw := Below.refl wy.heap.size wy
  repeat' (first | (refine is_cw ?_; first | (refine cw_seq ?_) | (refine cw_region ?_)) | (refine is_qw ?_; first | (with_reducible refine qw_then ?_)) | ((refine is_load ?_; first | (refine lw_pure rfl (pv_loada (tA rfl) rfl (by first | exact PT.lda (HB1.mono hw)) (by rfl)) ?_))))
  have hcp := may_f hk1 (hR1.mono hw) hok1; dsimp only [encS] at hcp; refine lw_call (f := 11) (by kernel_rfl) rfl rfl hcp ?_; clear hcp; rintro e w1 ⟨rfl, hb⟩; refine ⟨_, rfl, ?_⟩; replace hw := grow_trans hw hb; clear hb
  repeat' (first | (refine lw_pure rfl (pv_move rfl) ?_) | (refine is_guarded ?_; first | (refine lw_on rfl rfl rfl ?_)) | ((refine is_load ?_; first | (refine lw_pure rfl (pv_loada (tA rfl) rfl (by first | exact PT.lda (HB2.mono hw)) (by rfl)) ?_))) | ((refine is_un ?_; first | (refine lw_pure rfl (pv_not rfl) ?_))))
  have hcp := may_f hk2 (hR2.mono hw) hok2; dsimp only [encS] at hcp; refine lw_call (f := 11) (by kernel_rfl) rfl rfl hcp ?_; clear hcp; rintro e w1 ⟨rfl, hb⟩; refine ⟨_, rfl, ?_⟩; replace hw := grow_trans hw hb; clear hb
  repeat' (first | (refine lw_pure rfl (pv_assign rfl) ?_) | (refine is_cw ?_; first | (refine cw_ret ?_)) | (refine is_qw ?_; first | (with_reducible refine qw_then ?_)) | (refine lw_nil ?_) | (refine is_guarded ?_; first | (refine lw_on rfl rfl rfl ?_)) | ((refine is_un ?_; first | (refine lw_pure rfl (pv_not rfl) ?_))) | (refine is_pk ?_; refine lw_pure rfl (pv_pick_t rfl rfl rfl) ?_))
  exact qw_ret1 rfl rfl ⟨rfl, (hE5.mono hw).b⟩
end Go.Proofs.YtekomjnjddhfmaaGreat
namespace Go.Proofs.YtekomjnjddhfmaaGreat
open Go.ChangeShapes Go.WideShapes Go.ChangeAt Go.RowKit

set_option maxRecDepth 100000 in
theorem stateRows_lifted (os : Os) (started : os.Started) (H : Type) (enc : TypeId × Value → H) :
    ReturnsInHanded {} Tryz.checked os 4 .any (Rows.stateRowsSpec.pre6 enc Tryz.prog Tryz.f4 Rows.stateRowsRow.domain false) (Rows.stateRowsSpec.post enc Tryz.prog Tryz.f4 false true false false) := by
  refine returnsInHanded_of_change_sized (C := Tryz.checked) seatOwn started (by kernel_rfl) Tryz.func4
    (ChangeSpec.witness6 (enc := enc) (C := Tryz.checked) false ⟨#[], #[.agg #[.int .i64 0, .int .i64 0, .int .i64 0, .int .i64 0, .slice none 0 0, .slice none 0 0, .slice none 0 0, .slice none 0 0, .slice none 0 0], .int .i64 0, .int .i64 0], []⟩ 8 (by kernel_rfl) (by kernel_rfl) (by kernel_rfl) (by kernel_rfl)) ?_
  intro W base args ds gs before hval0 hW _ hZ _
  have hval : ∀ (j : Nat) t v, Tryz.f4.params[j]? = some t → args[j]? = some v → Value.okWide Tryz.prog W .any base t v := hval0
  have hW' := hW
  obtain ⟨p, q, hA0, hV, hpq, hfz, hnd⟩ := hW
  have hA : DataW.TrodAll enc Tryz.prog W 0 (fun _ => true) true Tryz.f4.params.toList args.toList ds p := hA0
  rw [Tryz.params4] at hA hval
  obtain ⟨args⟩ := args
  have hA1 : DataW.TrodAll enc Tryz.prog W 0 (fun _ => true) true _ args ds p := hA
  clear hA
  obtain ⟨v0, vs0, d0, ds0, p0, q0, hv0, hd0, hp0, h0, hr0⟩ := trodAll_cons hA1
  obtain ⟨v1, vs1, d1, ds1, p1, q1, hv1, hd1, hp1, h1, hr1⟩ := trodAll_cons hr0
  obtain ⟨v2, vs2, d2, ds2, p2, q2, hv2, hd2, hp2, h2, hr2⟩ := trodAll_cons hr1
  obtain ⟨hvn, hdn, hpn⟩ := trodAll_nil hr2
  subst hvn hdn hpn
  subst hv2 hd2 hp2
  subst hv1 hd1 hp1
  subst hv0 hd0 hp0
  obtain ⟨rfl, rfl⟩ := trodVars_none hV
  obtain ⟨ts, tt, rfl, tr, tb, ti⟩ := state_open (hval 0 _ v0 rfl rfl) h0 (wt_of hZ (j := 0) (by kernel_rfl) rfl)
  obtain ⟨k, rfl, kl, ku⟩ := i64_open Tryz.underlying3 (hval 1 _ v1 rfl rfl) h1
  obtain ⟨n, rfl, nl, nu⟩ := i64_open Tryz.underlying2 (hval 2 _ v2 rfl rfl) h2
  subst hpq
  refine (rowslaw_c tr tb ⟨nl, nu⟩).mono fun e W' ⟨he, hw⟩ => ?_
  subst he
  have hB := below_trodAll hw (by decide +kernel) hA1
  rw [← Tryz.params4] at hB
  exact ⟨_, rfl, _, _, _, [], _, [], hW', trodAll_mk1 (shut_bool Tryz.underlying4 true), hB, rfl, hw.frame _, fun h => by cases h⟩
theorem stateRows_holds : Rows.StateRowsSaid :=
  OpenClaim.holds_of_wide 4 Tryz.f4 rfl rfl rfl rfl rfl rfl rfl ⟨rfl, rfl, rfl, rfl, rfl⟩ rfl rfl rfl rfl rfl (by kernel_rfl) Tryz.func4 (by kernel_rfl)
    (of_decide_eq_true (by kernel_rfl)) (by unfold Func.isWrapper; first | (rw [if_pos (by decide +kernel)]; kernel_rfl) | (rw [if_neg (by decide +kernel)]; exact ⟨rfl, rfl⟩))
    (fun os started H enc _ => stateRows_lifted os started H enc)
#print axioms stateRows_holds
end Go.Proofs.YtekomjnjddhfmaaGreat
