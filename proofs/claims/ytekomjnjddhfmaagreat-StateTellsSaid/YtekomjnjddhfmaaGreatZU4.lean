/-
  Part 4 of the texts of: StateTells: its row: whatever the input: true; the input reads as it did. Conditions: none.
-/
import Derived.Test.YtekomjnjddhfmaaGreatZU3
import Derived.SizedLaws
namespace Go.Proofs.YtekomjnjddhfmaaGreat
open Go.RowKit Go.PlainAid

structure StBg (t : Stt) : Prop where
  rl : t.rows.length ≤ 140737488355328
  ol : t.ords.length ≤ 140737488355328
  an : ∀ x ∈ t.accs, x.name.size ≤ 140737488355328
  im : ∀ x ∈ t.inss, x.name.size ≤ 140737488355328
  r : In64R t.rows
def sumX (l : List Auc) : Nat := (l.map fun a => 1 + a.bids.length).sum
theorem sumX_snoc {l : List Auc} {k : Nat} {a : Auc} (h : l[k]? = some a) : sumX (l.take (k + 1)) = sumX (l.take k) + (1 + a.bids.length) := by
  unfold sumX; rw [List.take_add_one, h]; simp
structure Wg (t : Stt) (ka ki kx n : Nat) : Prop where
  z : t.rows.length + t.ords.length ≤ n
  f : n < 3000 → t.rows.length + t.ords.length + ka + ki ≤ n ∧ (∀ (j : Nat) x, j < ka → t.accs[j]? = some x → x.name.size ≤ n) ∧ (∀ (j : Nat) x, j < ki → t.inss[j]? = some x → x.name.size ≤ n) ∧ sumX (t.aucs.take kx) ≤ n
structure StSm (t : Stt) : Prop where
  ro : t.rows.length + t.ords.length < 1500
  al : t.accs.length < 1500
  il : t.inss.length < 1500
  an : ∀ x ∈ t.accs, x.name.size < 1500
  im : ∀ x ∈ t.inss, x.name.size < 1500
  xs : sumX t.aucs < 1500
theorem pv_minK {P : Program} {n : Nat} {l : Fr} {w : World} {d : Option Nat} {g : Option (Nat × Bool)} {ty : TypeId} {pos : String} {af : Array Edge} {x y : Operand} {ts : Array TypeId} {m : Nat} (hx : ev l x = some (.int .i64 3000)) (hy : ev l y = some (.int .i64 (m : Int))) : Pv P n l ⟨d, .call ⟨.builtin .min, #[x, y], ts⟩, ty, pos, af, g⟩ (.int .i64 ((min 3000 m : Nat) : Int)) w := by
  have h := pv_min (P := P) (n := n) (w := w) (d := d) (g := g) (ty := ty) (pos := pos) (af := af) (ts := ts) hx hy
  rwa [show (if (m : Int) < 3000 then (m : Int) else 3000) = ((min 3000 m : Nat) : Int) by split <;> omega] at h
theorem pv_minL {P : Program} {n : Nat} {l : Fr} {w : World} {d : Option Nat} {g : Option (Nat × Bool)} {ty : TypeId} {pos : String} {af : Array Edge} {x y : Operand} {ts : Array TypeId} {m : Nat} (hx : ev l x = some (.int .i64 (m : Int))) (hy : ev l y = some (.int .i64 3000)) : Pv P n l ⟨d, .call ⟨.builtin .min, #[x, y], ts⟩, ty, pos, af, g⟩ (.int .i64 ((min 3000 m : Nat) : Int)) w := by
  have h := pv_min (P := P) (n := n) (w := w) (d := d) (g := g) (ty := ty) (pos := pos) (af := af) (ts := ts) hx hy
  rwa [show (if (3000 : Int) < (m : Int) then (3000 : Int) else (m : Int)) = ((min 3000 m : Nat) : Int) by split <;> omega] at h
theorem pv_addN {P : Program} {n : Nat} {l : Fr} {w : World} {d : Option Nat} {g : Option (Nat × Bool)} {t t' ty : TypeId} {pos : String} {af : Array Edge} {x y : Operand} {a b : Nat} (hx : ev l x = some (.int .i64 (a : Int))) (hy : ev l y = some (.int .i64 (b : Int))) (h : a + b ≤ 9223372036854775807) : Pv P n l ⟨d, .binOp .add t x y t', ty, pos, af, g⟩ (.int .i64 ((a + b : Nat) : Int)) w := by
  have h2 := pv_add (P := P) (n := n) (w := w) (d := d) (g := g) (t := t) (t' := t') (ty := ty) (pos := pos) (af := af) hx hy (by omega)
  rwa [show (a : Int) + (b : Int) = ((a + b : Nat) : Int) by omega] at h2
set_option maxRecDepth 20000 in
set_option maxHeartbeats 4000000 in
theorem weigh_c {s : SttC} {t : Stt} {w : World} (hS0 : StR w s t) (hB : StBg t) : Calls Tryz.prog 16 #[(.agg (encS s).toArray)] w fun e w' => (∃ n : Nat, e = .returned (.int .i64 (n : Int)) ∧ (n < 1500 → StSm t)) ∧ Below w.heap.size w w' := by
  have hE := Ext.refl w
  have hw := Below.refl w.heap.size w
  obtain ⟨c1, c2, c3, c4, pa, ma, ca, pi, mi, ci, pr, mr, cr, po, mo, co, px, mx, cx⟩ := s; obtain ⟨⟨e1, e2, e3, e4⟩, hma, hmi, hmr, hmo, hmx, HA, HI, HR, HO, HXs⟩ := hS0; simp only at e1 e2 e3 e4 hma hmi hmr hmo hmx HA HI HR HO HXs; subst e1 e2 e3 e4 hma hmi hmr hmo hmx
  have hal := HA.le
  have ham := HA.max
  have hil := HI.le
  have him := HI.max
  have hB1 := hB.rl
  have hB2 := hB.ol
  obtain ⟨xs, HX9, HAs⟩ := HXs
  have hxl := HX9.le
  have hxm := HX9.max
  have hxn := HAs.1
  refine fn_enter 82 Tryz.func16 rfl rfl rfl ?_
  repeat' (first | (refine is_cw ?_; first | (refine cw_seq ?_) | (refine cw_region ?_)))
  refine lw_boxN rfl rfl (cs := [.int .i64 t.clock, .int .i64 t.fee, .int .i64 t.nord, .int .i64 t.nauc, .slice pa t.accs.length ca, .slice pi t.inss.length ci, .slice pr t.rows.length cr, .slice po t.ords.length co, .slice px t.aucs.length cx]) rfl ?_; intro N2 wn hN2 HX hb; replace hN2 := Nat.le_trans hw.size hN2; replace hw := grow_trans hw hb; clear hb
  replace hE := hE.mono hw; replace HA := HA.mono hw; replace HI := HI.mono hw; replace HX9 := HX9.mono hw; replace HAs := HAs.mono hw; clear hw; have hw := Below.refl wn.heap.size wn
  repeat' ((fail_if_success (refine is_seqb ?_)); (fail_if_success (refine is_blk ?_)); first | (refine lw_pure rfl (pv_assign rfl) ?_) | (refine is_cw ?_; first | (refine cw_seq ?_) | (refine cw_region ?_)) | (refine is_qw ?_; first | (with_reducible refine qw_then ?_)) | (refine lw_nil ?_) | ((refine is_bin ?_; first | (refine lw_pure rfl (pv_add rfl rfl (by omega)) ?_))) | ((refine is_load ?_; first | (refine lw_pure rfl (pv_load (t1 rfl) rfl (by first | exact PT.ld0 (HX.mono hw) rfl | exact PT.ld (HX.mono hw) rfl)) ?_))) | ((refine is_fa ?_; first | (refine lw_pure rfl (pv_fa (tF rfl) rfl) ?_))) | ((refine is_bi ?_; first | (refine lw_pure rfl (pv_lenl (tS rfl) rfl) ?_))))
  refine cw_cutq (σ := Nat) (fun n => [(1, .pointer (some ⟨N2, 0, none⟩)), (3, .int .i64 (n : Int))]) (fun n wr => Below wn.heap.size wn wr ∧ Wg t t.accs.length 0 0 n ∧ n ≤ 281474976720000) ?_ ?_
  · repeat' (first | (refine is_cw ?_; first | (refine cw_block ?_)))
    refine cw_loop (σ := Nat × Nat) (fun q => [(1, .pointer (some ⟨N2, 0, none⟩)), (3, .int .i64 (q.2 : Int)), (4, .int .i64 (q.1 : Nat))]) (fun q wr => q.1 ≤ t.accs.length ∧ Below wn.heap.size wn wr ∧ Wg t q.1 0 0 q.2 ∧ q.2 ≤ 281474976720000) (fun q => t.accs.length - q.1) (0, t.rows.length + t.ords.length) (by repeat' (first | exact trivial | refine ⟨rfl, ?_⟩)) ⟨Nat.zero_le _, hw, ⟨Nat.le_refl _, fun _ => ⟨by omega, fun j x hj => by omega, fun j x hj => by omega, by simp [sumX]⟩⟩, by omega⟩ ?_
    clear hw
    rintro ⟨k, n⟩ wr ⟨hk, hw, hG, hn⟩
    dsimp only at hk hG hn
    change CW _ _ _ _ [(1, .pointer (some ⟨N2, 0, none⟩)), (3, .int .i64 (n : Int)), (4, .int .i64 (k : Nat))] wr
    by_cases hlt : k < t.accs.length ∧ n < 3000
    · obtain ⟨hlt, hn3⟩ := hlt
      have hxk : t.accs[k]? = some (t.accs[k]'(by omega)) := List.getElem?_eq_getElem _
      obtain ⟨ab, ao, rfl, -, -⟩ := HA.at (by intro h; rw [h] at hlt; simp at hlt)
      generalize t.accs[k]'(by omega) = x at hxk
      repeat' (first | (refine lw_pure rfl (pv_move rfl) ?_) | (refine lw_pure rfl (pv_assign rfl) ?_) | (refine is_cw ?_; first | (refine cw_seq ?_) | (refine cw_region ?_) | (refine is_cd ?_; refine cw_true rfl (by first | assumption | exact decide_eq_true (by omega) | exact dec_notT (by omega)) ?_) | (refine cw_skip ?_) | (refine cw_block ?_)) | (refine is_qw ?_; first | (with_reducible refine qw_then ?_) | (with_reducible refine qw_in ?_)) | (refine lw_nil ?_) | (refine is_guarded ?_; first | (refine lw_on rfl rfl (by first | assumption | exact decide_eq_true (by omega) | exact decide_eq_false (by omega) | exact dec_notT (by omega) | exact dec_notF (by omega)) ?_)) | ((refine is_bin ?_; first | (refine lw_pure rfl (pv_lss rfl rfl) ?_) | (refine lw_pure rfl (pv_inc rfl rfl (by omega)) ?_) | (refine lw_pure rfl (pv_add rfl rfl (by omega)) ?_))) | ((refine is_load ?_; first | (refine lw_pure rfl (pv_load (t1 rfl) rfl (by first | exact PT.ld0 (HX.mono hw) rfl | exact PT.ld (HX.mono hw) rfl | exact SlR.ld (HA.mono hw) hxk rfl | exact SlR.ld1 (HA.mono hw) hxk rfl)) ?_))) | ((refine is_fa ?_; first | (refine lw_pure rfl (pv_fa (tF rfl) rfl) ?_))) | ((refine is_ia ?_; first | (refine lw_pure rfl (pv_ian (tS rfl) rfl rfl (by omega)) ?_))) | ((refine is_bi ?_; first | (refine lw_pure rfl (pv_minK rfl rfl) ?_) | (refine lw_pure rfl (pv_lenl (tS rfl) rfl) ?_) | (refine lw_pure rfl (pv_lens (tStr rfl) rfl) ?_))) | (refine is_pk ?_; refine lw_pure rfl (pv_pick_t rfl (by first | assumption | exact decide_eq_true (by omega) | exact dec_notT (by omega)) rfl) ?_))
      obtain ⟨f1, f2, f3, f4⟩ := hG.f hn3
      refine qw_round (k + 1, n + 1 + min 3000 x.name.size) (by repeat' (first | exact trivial | refine ⟨rfl, ?_⟩)) ⟨by show k + 1 ≤ _; omega, hw, ⟨by have := hG.z; omega, fun hn9 => ⟨by omega, fun j u hj hu => ?_, fun j u hj hu => by omega, by simp [sumX]⟩⟩, by show n + 1 + _ ≤ _; omega⟩ (by show t.accs.length - (k + 1) < t.accs.length - k; omega)
      by_cases hjk : j = k
      · subst hjk; rw [hxk] at hu; injection hu with hu; subst hu; omega
      · have := f2 j u (by omega) hu; omega
    · have hA : Wg t t.accs.length 0 0 n := by
        refine ⟨hG.z, fun hn9 => ?_⟩
        have hkl : k = t.accs.length := by omega
        have := hG.f hn9
        rw [hkl] at this; exact this
      repeat' (first | (refine lw_pure rfl (pv_move rfl) ?_) | (refine is_cw ?_; first | (refine cw_seq ?_) | (refine cw_region ?_) | (refine cw_false rfl rfl ?_) | (refine is_cd ?_; refine cw_false rfl (by first | assumption | exact decide_eq_false (by omega) | exact dec_notF (by omega)) ?_) | (refine cw_exit ?_)) | (refine is_qw ?_; first | (with_reducible refine qw_then ?_) | (with_reducible refine qw_in_hit ?_) | (with_reducible refine qw_then_exit ?_)) | (refine lw_nil ?_) | (refine is_guarded ?_; first | (refine lw_on rfl rfl (by first | assumption | exact decide_eq_true (by omega) | exact decide_eq_false (by omega) | exact dec_notT (by omega) | exact dec_notF (by omega)) ?_) | (refine lw_not rfl rfl rfl (by first | assumption | exact decide_eq_true (by omega) | exact decide_eq_false (by omega) | exact dec_notT (by omega) | exact dec_notF (by omega)) ?_) | (refine lw_gs_t rfl rfl rfl (fun hc => ?_) (fun hc => ?_) <;> (first | replace hc := of_decide_eq_true hc | replace hc := of_decide_eq_false hc | replace hc := dec_nT hc | replace hc := dec_nF hc | skip) <;> (try (exfalso; omega)))) | ((refine is_bin ?_; first | (refine lw_pure rfl (pv_lss rfl rfl) ?_))) | ((refine is_load ?_; first | (refine lw_pure rfl (pv_load (t1 rfl) rfl (by first | exact PT.ld0 (HX.mono hw) rfl | exact PT.ld (HX.mono hw) rfl)) ?_))) | ((refine is_fa ?_; first | (refine lw_pure rfl (pv_fa (tF rfl) rfl) ?_))) | ((refine is_bi ?_; first | (refine lw_pure rfl (pv_lenl (tS rfl) rfl) ?_))) | (refine is_pk ?_; refine lw_pure rfl (pv_pick_t rfl (by first | assumption | exact decide_eq_true (by omega) | exact dec_notT (by omega)) rfl) ?_) | (refine is_pk ?_; refine lw_pure rfl (pv_pick_f rfl (by first | assumption | exact decide_eq_false (by omega) | exact dec_notF (by omega)) rfl) ?_))
      all_goals exact qw_join n (by repeat' (first | exact trivial | refine ⟨rfl, ?_⟩)) ⟨hw, hA, hn⟩
  clear hw
  rintro n wr ⟨hw, hG, hn⟩
  repeat' ((fail_if_success (refine is_seqb ?_)); (fail_if_success (refine is_blk ?_)); first | (refine lw_pure rfl (pv_assign rfl) ?_) | (refine is_cw ?_; first | (refine cw_seq ?_) | (refine cw_region ?_)) | (refine is_qw ?_; first | (with_reducible refine qw_then ?_)) | (refine lw_nil ?_))
  refine cw_cutq (σ := Nat) (fun n => [(1, .pointer (some ⟨N2, 0, none⟩)), (3, .int .i64 (n : Int))]) (fun n wr => Below wn.heap.size wn wr ∧ Wg t t.accs.length t.inss.length 0 n ∧ n ≤ 281474976730000) ?_ ?_
  · repeat' (first | (refine is_cw ?_; first | (refine cw_block ?_)))
    refine cw_loop (σ := Nat × Nat) (fun q => [(1, .pointer (some ⟨N2, 0, none⟩)), (3, .int .i64 (q.2 : Int)), (5, .int .i64 (q.1 : Nat))]) (fun q wr => q.1 ≤ t.inss.length ∧ Below wn.heap.size wn wr ∧ Wg t t.accs.length q.1 0 q.2 ∧ q.2 ≤ 281474976730000) (fun q => t.inss.length - q.1) (0, n) (by repeat' (first | exact trivial | refine ⟨rfl, ?_⟩)) ⟨Nat.zero_le _, hw, hG, by omega⟩ ?_
    clear hw
    rintro ⟨k, n⟩ wr ⟨hk, hw, hG, hn⟩
    dsimp only at hk hG hn
    change CW _ _ _ _ [(1, .pointer (some ⟨N2, 0, none⟩)), (3, .int .i64 (n : Int)), (5, .int .i64 (k : Nat))] wr
    by_cases hlt : k < t.inss.length ∧ n < 3000
    · obtain ⟨hlt, hn3⟩ := hlt
      have hxk : t.inss[k]? = some (t.inss[k]'(by omega)) := List.getElem?_eq_getElem _
      obtain ⟨ab, ao, rfl, -, -⟩ := HI.at (by intro h; rw [h] at hlt; simp at hlt)
      generalize t.inss[k]'(by omega) = x at hxk
      repeat' (first | (refine lw_pure rfl (pv_move rfl) ?_) | (refine lw_pure rfl (pv_assign rfl) ?_) | (refine is_cw ?_; first | (refine cw_seq ?_) | (refine cw_region ?_) | (refine is_cd ?_; refine cw_true rfl (by first | assumption | exact decide_eq_true (by omega) | exact dec_notT (by omega)) ?_) | (refine cw_skip ?_) | (refine cw_block ?_)) | (refine is_qw ?_; first | (with_reducible refine qw_then ?_) | (with_reducible refine qw_in ?_)) | (refine lw_nil ?_) | (refine is_guarded ?_; first | (refine lw_on rfl rfl (by first | assumption | exact decide_eq_true (by omega) | exact decide_eq_false (by omega) | exact dec_notT (by omega) | exact dec_notF (by omega)) ?_)) | ((refine is_bin ?_; first | (refine lw_pure rfl (pv_lss rfl rfl) ?_) | (refine lw_pure rfl (pv_inc rfl rfl (by omega)) ?_) | (refine lw_pure rfl (pv_add rfl rfl (by omega)) ?_))) | ((refine is_load ?_; first | (refine lw_pure rfl (pv_load (t1 rfl) rfl (by first | exact PT.ld0 (HX.mono hw) rfl | exact PT.ld (HX.mono hw) rfl | exact SlR.ld (HI.mono hw) hxk rfl | exact SlR.ld1 (HI.mono hw) hxk rfl)) ?_))) | ((refine is_fa ?_; first | (refine lw_pure rfl (pv_fa (tF rfl) rfl) ?_))) | ((refine is_ia ?_; first | (refine lw_pure rfl (pv_ian (tS rfl) rfl rfl (by omega)) ?_))) | ((refine is_bi ?_; first | (refine lw_pure rfl (pv_minK rfl rfl) ?_) | (refine lw_pure rfl (pv_lenl (tS rfl) rfl) ?_) | (refine lw_pure rfl (pv_lens (tStr rfl) rfl) ?_))) | (refine is_pk ?_; refine lw_pure rfl (pv_pick_t rfl (by first | assumption | exact decide_eq_true (by omega) | exact dec_notT (by omega)) rfl) ?_))
      obtain ⟨f1, f2, f3, f4⟩ := hG.f hn3
      refine qw_round (k + 1, n + 1 + min 3000 x.name.size) (by repeat' (first | exact trivial | refine ⟨rfl, ?_⟩)) ⟨by show k + 1 ≤ _; omega, hw, ⟨by have := hG.z; omega, fun hn9 => ⟨by omega, fun j u hj hu => by have := f2 j u hj hu; omega, fun j u hj hu => ?_, by simp [sumX]⟩⟩, by show n + 1 + _ ≤ _; omega⟩ (by show t.inss.length - (k + 1) < t.inss.length - k; omega)
      by_cases hjk : j = k
      · subst hjk; rw [hxk] at hu; injection hu with hu; subst hu; omega
      · have := f3 j u (by omega) hu; omega
    · have hA : Wg t t.accs.length t.inss.length 0 n := by
        refine ⟨hG.z, fun hn9 => ?_⟩
        have hkl : k = t.inss.length := by omega
        have := hG.f hn9
        rw [hkl] at this; exact this
      repeat' (first | (refine lw_pure rfl (pv_move rfl) ?_) | (refine is_cw ?_; first | (refine cw_seq ?_) | (refine cw_region ?_) | (refine cw_false rfl rfl ?_) | (refine is_cd ?_; refine cw_false rfl (by first | assumption | exact decide_eq_false (by omega) | exact dec_notF (by omega)) ?_) | (refine cw_exit ?_)) | (refine is_qw ?_; first | (with_reducible refine qw_then ?_) | (with_reducible refine qw_in_hit ?_) | (with_reducible refine qw_then_exit ?_)) | (refine lw_nil ?_) | (refine is_guarded ?_; first | (refine lw_on rfl rfl (by first | assumption | exact decide_eq_true (by omega) | exact decide_eq_false (by omega) | exact dec_notT (by omega) | exact dec_notF (by omega)) ?_) | (refine lw_not rfl rfl rfl (by first | assumption | exact decide_eq_true (by omega) | exact decide_eq_false (by omega) | exact dec_notT (by omega) | exact dec_notF (by omega)) ?_) | (refine lw_gs_t rfl rfl rfl (fun hc => ?_) (fun hc => ?_) <;> (first | replace hc := of_decide_eq_true hc | replace hc := of_decide_eq_false hc | replace hc := dec_nT hc | replace hc := dec_nF hc | skip) <;> (try (exfalso; omega)))) | ((refine is_bin ?_; first | (refine lw_pure rfl (pv_lss rfl rfl) ?_))) | ((refine is_load ?_; first | (refine lw_pure rfl (pv_load (t1 rfl) rfl (by first | exact PT.ld0 (HX.mono hw) rfl | exact PT.ld (HX.mono hw) rfl)) ?_))) | ((refine is_fa ?_; first | (refine lw_pure rfl (pv_fa (tF rfl) rfl) ?_))) | ((refine is_bi ?_; first | (refine lw_pure rfl (pv_lenl (tS rfl) rfl) ?_))) | (refine is_pk ?_; refine lw_pure rfl (pv_pick_t rfl (by first | assumption | exact decide_eq_true (by omega) | exact dec_notT (by omega)) rfl) ?_) | (refine is_pk ?_; refine lw_pure rfl (pv_pick_f rfl (by first | assumption | exact decide_eq_false (by omega) | exact dec_notF (by omega)) rfl) ?_))
      all_goals exact qw_join n (by repeat' (first | exact trivial | refine ⟨rfl, ?_⟩)) ⟨hw, hA, hn⟩
  clear hw
  rintro n wr ⟨hw, hG, hn⟩
  repeat' ((fail_if_success (refine is_seqb ?_)); (fail_if_success (refine is_blk ?_)); first | (refine lw_pure rfl (pv_assign rfl) ?_) | (refine is_cw ?_; first | (refine cw_seq ?_) | (refine cw_region ?_)) | (refine is_qw ?_; first | (with_reducible refine qw_then ?_)) | (refine lw_nil ?_))
  refine cw_cutq (σ := Nat) (fun n => [(1, .pointer (some ⟨N2, 0, none⟩)), (3, .int .i64 (n : Int))]) (fun n wr => Below wn.heap.size wn wr ∧ Wg t t.accs.length t.inss.length t.aucs.length n ∧ n ≤ 281474976740000) ?_ ?_
  · repeat' (first | (refine is_cw ?_; first | (refine cw_block ?_)))
    refine cw_loop (σ := Nat × Nat) (fun q => [(1, .pointer (some ⟨N2, 0, none⟩)), (3, .int .i64 (q.2 : Int)), (6, .int .i64 (q.1 : Nat))]) (fun q wr => q.1 ≤ t.aucs.length ∧ Below wn.heap.size wn wr ∧ Wg t t.accs.length t.inss.length q.1 q.2 ∧ q.2 ≤ 281474976740000) (fun q => t.aucs.length - q.1) (0, n) (by repeat' (first | exact trivial | refine ⟨rfl, ?_⟩)) ⟨Nat.zero_le _, hw, hG, by omega⟩ ?_
    clear hw
    rintro ⟨k, n⟩ wr ⟨hk, hw, hG, hn⟩
    dsimp only at hk hG hn
    change CW _ _ _ _ [(1, .pointer (some ⟨N2, 0, none⟩)), (3, .int .i64 (n : Int)), (6, .int .i64 (k : Nat))] wr
    by_cases hlt : k < t.aucs.length ∧ n < 3000
    · obtain ⟨hlt, hn3⟩ := hlt
      have hak : t.aucs[k]? = some (t.aucs[k]'(by omega)) := List.getElem?_eq_getElem _
      obtain ⟨ab, ao, rfl, -, -⟩ := HX9.at (by intro h; rw [h] at hxn; simp at hxn; omega)
      generalize t.aucs[k]'(by omega) = a at hak
      obtain ⟨x, hxk, hR⟩ := HAs.at hak
      obtain ⟨xh, ba, bm, bc⟩ := x
      obtain ⟨hh, hm, HB⟩ := hR
      simp only at hh hm HB
      subst hh hm
      repeat' (first | (refine lw_pure rfl (pv_move rfl) ?_) | (refine lw_pure rfl (pv_assign rfl) ?_) | (refine is_cw ?_; first | (refine cw_seq ?_) | (refine cw_region ?_) | (refine is_cd ?_; refine cw_true rfl (by first | assumption | exact decide_eq_true (by omega) | exact dec_notT (by omega)) ?_) | (refine cw_skip ?_) | (refine cw_block ?_)) | (refine is_qw ?_; first | (with_reducible refine qw_then ?_) | (with_reducible refine qw_in ?_)) | (refine lw_nil ?_) | (refine is_guarded ?_; first | (refine lw_on rfl rfl (by first | assumption | exact decide_eq_true (by omega) | exact decide_eq_false (by omega) | exact dec_notT (by omega) | exact dec_notF (by omega)) ?_)) | ((refine is_bin ?_; first | (refine lw_pure rfl (pv_lss rfl rfl) ?_) | (refine lw_pure rfl (pv_inc rfl rfl (by omega)) ?_) | (refine lw_pure rfl (pv_add rfl rfl (by omega)) ?_))) | ((refine is_load ?_; first | (refine lw_pure rfl (pv_load (t1 rfl) rfl (by first | exact PT.ld0 (HX.mono hw) rfl | exact PT.ld (HX.mono hw) rfl | exact SlR.ld (HX9.mono hw) hxk rfl | exact SlR.ld1 (HX9.mono hw) hxk rfl)) ?_))) | ((refine is_fa ?_; first | (refine lw_pure rfl (pv_fa (tF rfl) rfl) ?_))) | ((refine is_ia ?_; first | (refine lw_pure rfl (pv_ian (tS rfl) rfl rfl (by omega)) ?_))) | ((refine is_bi ?_; first | (refine lw_pure rfl (pv_minK rfl rfl) ?_) | (refine lw_pure rfl (pv_lenl (tS rfl) rfl) ?_))) | (refine is_pk ?_; refine lw_pure rfl (pv_pick_t rfl (by first | assumption | exact decide_eq_true (by omega) | exact dec_notT (by omega)) rfl) ?_))
      obtain ⟨f1, f2, f3, f4⟩ := hG.f hn3
      have hsn := sumX_snoc hak
      exact qw_round (k + 1, n + 1 + min 3000 a.bids.length) (by repeat' (first | exact trivial | refine ⟨rfl, ?_⟩)) ⟨by show k + 1 ≤ _; omega, hw, ⟨by have := hG.z; omega, fun hn9 => ⟨by omega, fun j u hj hu => by have := f2 j u hj hu; omega, fun j u hj hu => by have := f3 j u hj hu; omega, by show sumX (t.aucs.take (k + 1)) ≤ n + 1 + min 3000 a.bids.length; omega⟩⟩, by show n + 1 + _ ≤ _; omega⟩ (by show t.aucs.length - (k + 1) < t.aucs.length - k; omega)
    · have hA : Wg t t.accs.length t.inss.length t.aucs.length n := by
        refine ⟨hG.z, fun hn9 => ?_⟩
        have hkl : k = t.aucs.length := by omega
        have := hG.f hn9
        rw [hkl] at this; exact this
      repeat' (first | (refine lw_pure rfl (pv_move rfl) ?_) | (refine is_cw ?_; first | (refine cw_seq ?_) | (refine cw_region ?_) | (refine cw_false rfl rfl ?_) | (refine is_cd ?_; refine cw_false rfl (by first | assumption | exact decide_eq_false (by omega) | exact dec_notF (by omega)) ?_) | (refine cw_exit ?_)) | (refine is_qw ?_; first | (with_reducible refine qw_then ?_) | (with_reducible refine qw_in_hit ?_) | (with_reducible refine qw_then_exit ?_)) | (refine lw_nil ?_) | (refine is_guarded ?_; first | (refine lw_on rfl rfl (by first | assumption | exact decide_eq_true (by omega) | exact decide_eq_false (by omega) | exact dec_notT (by omega) | exact dec_notF (by omega)) ?_) | (refine lw_not rfl rfl rfl (by first | assumption | exact decide_eq_true (by omega) | exact decide_eq_false (by omega) | exact dec_notT (by omega) | exact dec_notF (by omega)) ?_) | (refine lw_gs_t rfl rfl rfl (fun hc => ?_) (fun hc => ?_) <;> (first | replace hc := of_decide_eq_true hc | replace hc := of_decide_eq_false hc | replace hc := dec_nT hc | replace hc := dec_nF hc | skip) <;> (try (exfalso; omega)))) | ((refine is_bin ?_; first | (refine lw_pure rfl (pv_lss rfl rfl) ?_))) | ((refine is_load ?_; first | (refine lw_pure rfl (pv_load (t1 rfl) rfl (by first | exact PT.ld0 (HX.mono hw) rfl | exact PT.ld (HX.mono hw) rfl)) ?_))) | ((refine is_fa ?_; first | (refine lw_pure rfl (pv_fa (tF rfl) rfl) ?_))) | ((refine is_bi ?_; first | (refine lw_pure rfl (pv_lenl (tS rfl) rfl) ?_))) | (refine is_pk ?_; refine lw_pure rfl (pv_pick_t rfl (by first | assumption | exact decide_eq_true (by omega) | exact dec_notT (by omega)) rfl) ?_) | (refine is_pk ?_; refine lw_pure rfl (pv_pick_f rfl (by first | assumption | exact decide_eq_false (by omega) | exact dec_notF (by omega)) rfl) ?_))
      all_goals exact qw_join n (by repeat' (first | exact trivial | refine ⟨rfl, ?_⟩)) ⟨hw, hA, hn⟩
  clear hw
  rintro n wr ⟨hw, hG, hn⟩
  repeat' (first | (refine lw_pure rfl (pv_move rfl) ?_) | (refine lw_pure rfl (pv_assign rfl) ?_) | (refine is_cw ?_; first | (refine cw_seq ?_) | (refine cw_region ?_) | (refine cw_ret ?_)) | (refine is_qw ?_; first | (with_reducible refine qw_then ?_)) | (refine lw_nil ?_) | ((refine is_bi ?_; first | (refine lw_pure rfl (pv_minL rfl rfl) ?_))))
  refine qw_ret1 rfl rfl ⟨⟨min 3000 n, rfl, fun h => ?_⟩, (hE.mono hw).b⟩
  obtain ⟨f1, f2, f3, f4⟩ := hG.f (by omega)
  rw [List.take_of_length_le (Nat.le_refl _)] at f4
  exact ⟨by omega, by omega, by omega, all_get fun j x hj => by have := f2 j x (List.getElem?_eq_some_iff.1 hj).1 hj; omega, all_get fun j x hj => by have := f3 j x (List.getElem?_eq_some_iff.1 hj).1 hj; omega, by omega⟩
end Go.Proofs.YtekomjnjddhfmaaGreat
namespace Go.Proofs.YtekomjnjddhfmaaGreat
open Go.ChangeShapes Go.WideShapes Go.ChangeAt Go.RowKit Go.Deep Go.WideElems Go.Joins
section
variable {H : Type} {enc : TypeId × Value → H} {P : Program} {w : World} {base : Nat} {held : Bool}
theorem mem_weightsAll {e : TypeId} {n : Nat} {y : DataW H} (hn : n ∈ DataW.weights P e y) : ∀ {ds : List (DataW H)}, y ∈ ds → n ∈ DataW.weightsAll P e ds
  | [], h => by cases h
  | d :: r, h => by
    rw [DataW.weightsAll]
    rcases List.mem_cons.1 h with rfl | h
    · exact List.mem_append_left _ hn
    · exact List.mem_append_right _ (mem_weightsAll hn h)
theorem cell_in {a : Addr} {v : Value} (h : w.cell? a = some v) : a.spot = none ∧ a.block < w.heap.size := by
  unfold World.cell? at h
  cases hb : w.heap[a.block]? with
  | none => rw [hb] at h; cases h
  | some o =>
    refine ⟨?_, (Array.getElem?_eq_some_iff.1 hb).1⟩
    rw [hb] at h
    cases o <;> first | (cases h; done) | (cases hs : a.spot with | none => rfl | some s => rw [hs] at h; simp at h)
theorem open_slV {α : Type} (encE : α → List Value) (k B : Nat) (Pr : α → Prop) {t e : TypeId} {fuel : Nat} {c : Value} {x : DataW H × List MemPlace} (hk : ∀ x, (encE x).length = k) (hk0 : 0 < k) (ht : P.underlying t = some (.slice e)) (hC : P.cellsOf e = k) (hby : Nat.ble 1 (P.bytesOf e) = true)
    (hdec : ∀ n cs y, DataW.trod enc P w base (fun _ => true) held n e cs = some y → (∀ n ∈ DataW.weights P e y.1, n ≤ B) → ∃ x : α, cs = encE x ∧ Pr x)
    (h : DataW.trod enc P w base (fun _ => true) held fuel t [c] = some x) (hwt : ∀ n ∈ DataW.weights P t x.1, n ≤ B) : ∃ a cap, ∃ xs : List α, c = .slice a xs.length cap ∧ SlR encE k w a cap xs ∧ (∀ z ∈ xs, Pr z) ∧ xs.length ≤ B := by
  rcases open_slice ht h with ⟨h0, _⟩ | ⟨a, len, cap, m, n, D, Pl, hcs, hb, hl, hm, hmm, hx, hi⟩
  · simp only [List.cons.injEq, and_true] at h0
    exact ⟨none, 0, [], h0, SlR.nil w, by simp, Nat.zero_le _⟩
  · simp only [List.cons.injEq, and_true] at hcs
    subst hcs
    simp only [if_true] at hmm
    subst hmm
    subst hx
    rw [DataW.weights, ht] at hwt
    have hlen0 : len ≤ B := by
      have h1 := hwt _ List.mem_cons_self
      simp only [List.length_map, List.length_range] at h1
      have h2 : len * 1 ≤ (len + (m - len)) * P.bytesOf e := Nat.mul_le_mul (by omega) (Nat.le_of_ble_eq_true hby)
      omega
    have hE : ∀ i, i < len → ∃ x : α, w.cells? base (a.add (i * P.cellsOf e)) (P.cellsOf e) = some (encE x) ∧ Pr x := fun i h => by
      obtain ⟨cs', h1, h2⟩ := hi i (by omega)
      obtain ⟨x, rfl, hp⟩ := hdec _ _ _ h2 fun q hq => hwt q (List.mem_cons_of_mem _ (List.mem_append_left _ (mem_weightsAll hq (List.mem_map.2 ⟨i, List.mem_range.2 h, rfl⟩))))
      exact ⟨x, h1, hp⟩
    have hL : ∀ m, m ≤ len → ∃ xs : List α, xs.length = m ∧ (∀ j x, xs[j]? = some x → w.cells? base (a.add (j * P.cellsOf e)) (P.cellsOf e) = some (encE x)) ∧ ∀ x ∈ xs, Pr x := by
      intro m hm
      induction m with
      | zero => exact ⟨[], rfl, fun j x hx => by simp at hx, by simp⟩
      | succ m ih =>
        obtain ⟨xs, h1, h2, h3⟩ := ih (by omega)
        obtain ⟨x, hx, hp⟩ := hE m (by omega)
        refine ⟨xs ++ [x], by simp [h1], fun j y hy => ?_, fun y hy => ?_⟩
        · by_cases hj : j < xs.length
          · rw [List.getElem?_append_left hj] at hy; exact h2 j y hy
          · rw [List.getElem?_append_right (by omega)] at hy
            have : j - xs.length = 0 := by
              have := (List.getElem?_eq_some_iff.1 hy).1; simp at this; omega
            rw [this] at hy; simp at hy; subst hy
            have : j = m := by omega
            subst this; exact hx
        · rcases List.mem_append.1 hy with hy | hy
          · exact h3 y hy
          · simp at hy; subst hy; exact hp
    obtain ⟨xs, hlen, hxs, hpr⟩ := hL len (Nat.le_refl _)
    refine ⟨some a, _, xs, by rw [hlen], ⟨by omega, by simpa [maxLen] using hm, (fun h => by cases h), fun ad had hc => ?_⟩, hpr, by omega⟩
    cases had
    obtain ⟨cs0, h1, _⟩ := hi 0 hc
    obtain ⟨_, h2, h3⟩ := World.cells?_some h1
    have h4 := h3 0 (by rw [hC]; exact hk0)
    rw [List.getElem?_eq_getElem (by rw [h2, hC]; exact hk0)] at h4
    obtain ⟨hsp, hlt⟩ := cell_in h4
    obtain ⟨b, off, sp⟩ := a
    have e0 : ((⟨b, off, sp⟩ : Addr).add (0 * P.cellsOf e)).add 0 = ⟨b, off, sp⟩ := by simp [Addr.add]
    rw [e0] at hsp hlt
    have hsp0 : sp = none := hsp
    subst hsp0
    refine ⟨rfl, hlt, fun j x hx i v hv => ?_⟩
    obtain ⟨_, h1, h2⟩ := World.cells?_some (hxs j x hx)
    have hik : i < k := by have := (List.getElem?_eq_some_iff.1 hv).1; rwa [hk] at this
    have h3 := h2 i (by rw [hC]; exact hik)
    rw [hv] at h3
    rw [hC] at h3
    rwa [Addr.add_lit, Addr.add_lit] at h3
theorem SlR.map_fst {α β : Type} {encE : α → List Value} {k : Nat} {a : Option Addr} {cap : Nat} {xs : List β} (f : β → α) (h : SlR (fun x => encE (f x)) k w a cap xs) : SlR encE k w a cap (xs.map f) := by
  refine ⟨by rw [List.length_map]; exact h.le, h.max, fun hn => ?_, fun ad had hc => ?_⟩
  · obtain ⟨h1, h2⟩ := h.ofNone hn; exact ⟨by rw [h1]; rfl, h2⟩
  · obtain ⟨h1, h2, h3⟩ := h.ofSome ad had hc
    refine ⟨h1, h2, fun j x hx i v hv => ?_⟩
    rw [List.getElem?_map] at hx
    cases hq : xs[j]? with
    | none => rw [hq] at hx; cases hx
    | some z => rw [hq, Option.map_some] at hx; injection hx with hx; subst hx; exact h3 j z hq i v hv
theorem wt_in {n : Nat} : ∀ {ts : List TypeId} {ds : List (DataW H)} {j : Nat} {t : TypeId} {d : DataW H}, ts[j]? = some t → ds[j]? = some d → n ∈ DataW.weights P t d → n ∈ DataW.weightsEach P ts ds
  | t :: ts, d :: ds, 0, _, _, h1, h2, hn => by
    simp at h1 h2; subst h1 h2
    rw [DataW.weightsEach]; exact List.mem_append_left _ hn
  | t :: ts, d :: ds, j + 1, _, _, h1, h2, hn => by
    rw [DataW.weightsEach]; exact List.mem_append_right _ (wt_in (by simpa using h1) (by simpa using h2) hn)
  | [], _, _, _, _, h1, _, _ => by simp at h1
  | _ :: _, [], _, _, _, _, h2, _ => by simp at h2
theorem wt_of {ts us : List TypeId} {ds gs : List (DataW H)} (hZ : ((DataW.weightsEach P (ts ++ us) (ds ++ gs)).all fun x => decide (x ≤ reachBytes)) = true) {j : Nat} {t : TypeId} {d : DataW H} (ht : ts[j]? = some t) (hd : ds[j]? = some d) : ∀ n ∈ DataW.weights P t d, n ≤ reachBytes := fun n hn => by
  have h1 : (ts ++ us)[j]? = some t := by rw [List.getElem?_append_left (List.getElem?_eq_some_iff.1 ht).1]; exact ht
  have h2 : (ds ++ gs)[j]? = some d := by rw [List.getElem?_append_left (List.getElem?_eq_some_iff.1 hd).1]; exact hd
  exact of_decide_eq_true (List.all_eq_true.1 hZ n (wt_in h1 h2 hn))
theorem wt_part {B : Nat} {t u : TypeId} {fs : Array Field} {ds : List (DataW H)} (ht : P.underlying t = some (.struct fs)) (hwt : ∀ n ∈ DataW.weights P t (.agg ds), n ≤ B) {j : Nat} {d : DataW H} (hj : (fs.toList.map (·.type))[j]? = some u) (hd : ds[j]? = some d) : ∀ n ∈ DataW.weights P u d, n ≤ B := fun n hn => hwt n (by
  rw [DataW.weights, ht]
  exact wt_in hj hd hn)
theorem trod_u8 {fuel : Nat} {t : TypeId} {c : Value} {x : DataW H × List MemPlace} (ht : P.underlying t = some (.int .u8)) (h : DataW.trod enc P w base (fun _ => true) held fuel t [c] = some x) : ∃ n : Int, c = .int .u8 n ∧ 0 ≤ n ∧ n ≤ 255 := by
  obtain ⟨n, e, _, hw⟩ := DataW.trod_int (k := .u8) ht h
  simp only [List.cons.injEq, and_true] at e
  simp only [Lit.wf, Bool.and_eq_true, decide_eq_true_eq] at hw
  exact ⟨n, e, hw⟩
theorem trod_strW {B fuel : Nat} {t : TypeId} {c : Value} {x : DataW H × List MemPlace} (ht : P.underlying t = some .string) (h : DataW.trod enc P w base (fun _ => true) held fuel t [c] = some x) (hwt : ∀ n ∈ DataW.weights P t x.1, n ≤ B) : ∃ s : ByteArray, c = .string s ∧ s.size ≤ B := by
  obtain ⟨s, e, hx, _⟩ := DataW.trod_string ht h
  simp only [List.cons.injEq, and_true] at e
  refine ⟨s, e, hwt _ ?_⟩
  rw [hx, DataW.weights]
  exact List.mem_singleton.2 Array.length_toList.symm
theorem trod_bool1 {fuel : Nat} {t : TypeId} {c : Value} {x : DataW H × List MemPlace} (ht : P.underlying t = some .bool) (h : DataW.trod enc P w base (fun _ => true) held fuel t [c] = some x) : ∃ b : Bool, c = .bool b := by
  obtain ⟨b, e, _⟩ := DataW.trod_bool ht h
  simp only [List.cons.injEq, and_true] at e
  exact ⟨b, e⟩
end
section
variable {H : Type} {enc : TypeId × Value → H} {W : World} {base : Nat} {held : Bool} {b0 : Nat} {v : Value} {d : DataW H} {p : List MemPlace} {B : Nat}
set_option maxRecDepth 20000 in
theorem acc_dec (n : Nat) (cs : List Value) (y : DataW H × List MemPlace) (h : DataW.trod enc Tryz.prog W base (fun _ => true) held n 34 cs = some y) (hwt : ∀ n ∈ DataW.weights Tryz.prog 34 y.1, n ≤ B) : ∃ r : Acc, cs = encA r ∧ r.name.size ≤ B := by
  obtain ⟨xs, m, _, rfl, hl, hlen, hf⟩ := DataW.trod_struct Tryz.underlying34 h
  rw [show Tryz.prog.cellsOf 34 = 2 by kernel_rfl] at hl
  match xs, hlen, cs, hl with
  | [y0, y1], _, [c0, c1], _ =>
    obtain ⟨a, rfl, ha⟩ := trod_strW (c := c0) (B := B) Tryz.underlying9 (hf 0 _ rfl) (wt_part Tryz.underlying34 hwt (j := 0) rfl rfl)
    obtain ⟨b, rfl⟩ := trod_bool1 (c := c1) Tryz.underlying4 (hf 1 _ rfl)
    exact ⟨⟨a, b⟩, rfl, ha⟩
set_option maxRecDepth 20000 in
theorem ins_dec (n : Nat) (cs : List Value) (y : DataW H × List MemPlace) (h : DataW.trod enc Tryz.prog W base (fun _ => true) held n 37 cs = some y) (hwt : ∀ n ∈ DataW.weights Tryz.prog 37 y.1, n ≤ B) : ∃ r : Ins, cs = encN r ∧ r.name.size ≤ B ∧ (-9223372036854775808 ≤ r.tick ∧ r.tick ≤ 9223372036854775807) := by
  obtain ⟨xs, m, _, rfl, hl, hlen, hf⟩ := DataW.trod_struct Tryz.underlying37 h
  rw [show Tryz.prog.cellsOf 37 = 3 by kernel_rfl] at hl
  match xs, hlen, cs, hl with
  | [y0, y1, y2], _, [c0, c1, c2], _ =>
    obtain ⟨a, rfl, ha⟩ := trod_strW (c := c0) (B := B) Tryz.underlying9 (hf 0 _ rfl) (wt_part Tryz.underlying37 hwt (j := 0) rfl rfl)
    obtain ⟨q, rfl, hq⟩ := trod_i64 (c := c1) Tryz.underlying2 (hf 1 _ rfl)
    obtain ⟨b, rfl⟩ := trod_bool1 (c := c2) Tryz.underlying4 (hf 2 _ rfl)
    exact ⟨⟨a, q, b⟩, rfl, ha, hq⟩
set_option maxRecDepth 20000 in
theorem ord_dec (n : Nat) (cs : List Value) (y : DataW H × List MemPlace) (h : DataW.trod enc Tryz.prog W base (fun _ => true) held n 41 cs = some y) (hwt : ∀ n ∈ DataW.weights Tryz.prog 41 y.1, n ≤ B) : ∃ r : Ord, cs = encO r ∧ (-9223372036854775808 ≤ r.price ∧ r.price ≤ 9223372036854775807) ∧ (-9223372036854775808 ≤ r.left ∧ r.left ≤ 9223372036854775807) := by
  obtain ⟨xs, m, _, rfl, hl, hlen, hf⟩ := DataW.trod_struct Tryz.underlying41 h
  rw [show Tryz.prog.cellsOf 41 = 6 by kernel_rfl] at hl
  match xs, hlen, cs, hl with
  | [y0, y1, y2, y3, y4, y5], _, [c0, c1, c2, c3, c4, c5], _ =>
    obtain ⟨a, rfl, _⟩ := trod_i64 (c := c0) Tryz.underlying2 (hf 0 _ rfl)
    obtain ⟨b, rfl, _⟩ := trod_i64 (c := c1) Tryz.underlying3 (hf 1 _ rfl)
    obtain ⟨i, rfl, _⟩ := trod_i64 (c := c2) Tryz.underlying3 (hf 2 _ rfl)
    obtain ⟨s, rfl, _⟩ := trod_u8 (c := c3) Tryz.underlying5 (hf 3 _ rfl)
    obtain ⟨q, rfl, hq⟩ := trod_i64 (c := c4) Tryz.underlying2 (hf 4 _ rfl)
    obtain ⟨l, rfl, hl⟩ := trod_i64 (c := c5) Tryz.underlying2 (hf 5 _ rfl)
    exact ⟨⟨a, b, i, s, q, l⟩, rfl, hq, hl⟩
set_option maxRecDepth 20000 in
theorem bid_dec (n : Nat) (cs : List Value) (y : DataW H × List MemPlace) (h : DataW.trod enc Tryz.prog W base (fun _ => true) held n 46 cs = some y) (_ : ∀ n ∈ DataW.weights Tryz.prog 46 y.1, n ≤ B) : ∃ r : Bid, cs = encD r ∧ True := by
  obtain ⟨xs, m, _, rfl, hl, hlen, hf⟩ := DataW.trod_struct Tryz.underlying46 h
  rw [show Tryz.prog.cellsOf 46 = 2 by kernel_rfl] at hl
  match xs, hlen, cs, hl with
  | [y0, y1], _, [c0, c1], _ =>
    obtain ⟨a, rfl, _⟩ := trod_i64 (c := c0) Tryz.underlying3 (hf 0 _ rfl)
    obtain ⟨b, rfl, _⟩ := trod_i64 (c := c1) Tryz.underlying2 (hf 1 _ rfl)
    exact ⟨⟨a, b⟩, rfl, trivial⟩
set_option maxRecDepth 20000 in
theorem auc_dec (n : Nat) (cs : List Value) (y : DataW H × List MemPlace) (h : DataW.trod enc Tryz.prog W base (fun _ => true) held n 44 cs = some y) (hwt : ∀ n ∈ DataW.weights Tryz.prog 44 y.1, n ≤ B) : ∃ r : AucC × List Bid, cs = encC r.1 ∧ AuR W r.1 ⟨r.1.h, r.2⟩ := by
  obtain ⟨xs, m, _, hx, hl, hlen, hf⟩ := DataW.trod_struct Tryz.underlying44 h
  subst hx
  rw [show Tryz.prog.cellsOf 44 = 9 by kernel_rfl] at hl
  match xs, hlen, cs, hl with
  | [y0, y1, y2, y3, y4, y5, y6, y7, y8], _, [c0, c1, c2, c3, c4, c5, c6, c7, c8], _ =>
    obtain ⟨a, rfl, _⟩ := trod_i64 (c := c0) Tryz.underlying2 (hf 0 _ rfl)
    obtain ⟨b, rfl, _⟩ := trod_i64 (c := c1) Tryz.underlying3 (hf 1 _ rfl)
    obtain ⟨i, rfl, _⟩ := trod_i64 (c := c2) Tryz.underlying3 (hf 2 _ rfl)
    obtain ⟨s, rfl⟩ := trod_bool1 (c := c3) Tryz.underlying4 (hf 3 _ rfl)
    obtain ⟨q, rfl, _⟩ := trod_i64 (c := c4) Tryz.underlying2 (hf 4 _ rfl)
    obtain ⟨l, rfl, _⟩ := trod_i64 (c := c5) Tryz.underlying2 (hf 5 _ rfl)
    obtain ⟨e, rfl, _⟩ := trod_i64 (c := c6) Tryz.underlying2 (hf 6 _ rfl)
    obtain ⟨f, rfl, _⟩ := trod_i64 (c := c7) Tryz.underlying2 (hf 7 _ rfl)
    have g8 : DataW.trod enc Tryz.prog W base (fun _ => true) held m 42 [c8] = some y8 := hf 8 _ rfl
    obtain ⟨ka, kc, ks, rfl, S8, -⟩ := open_slV encD 2 B (fun _ => True) encD_len (by omega) Tryz.underlying42 (by kernel_rfl) (by kernel_rfl) bid_dec g8 (wt_part Tryz.underlying44 hwt (j := 8) rfl rfl)
    exact ⟨⟨⟨⟨a, b, i, s, q, l, e, f⟩, ka, ks.length, kc⟩, ks⟩, rfl, ⟨rfl, rfl, S8⟩⟩
theorem row_decW (n : Nat) (cs : List Value) (y : DataW H × List MemPlace) (h : DataW.trod enc Tryz.prog W base (fun _ => true) held n 39 cs = some y) (_ : ∀ n ∈ DataW.weights Tryz.prog 39 y.1, n ≤ B) : ∃ r : Row, cs = encR r ∧ RIn r := row_dec n cs y h
set_option maxRecDepth 20000 in
set_option maxHeartbeats 1000000 in
theorem state_open (hv : Value.okWide Tryz.prog W .any b0 30 v) (h : DataW.Trod enc Tryz.prog W base (fun _ => true) held 30 v d p) (hwt : ∀ n ∈ DataW.weights Tryz.prog 30 d, n ≤ reachBytes) : ∃ s t, v = (.agg (encS s).toArray) ∧ StR W s t ∧ StBg t ∧ StIn t := by
  obtain ⟨⟨cs⟩, rfl, hsz⟩ := okWide_struct Tryz.underlying30 hv
  obtain ⟨fuel, hf⟩ := h
  obtain ⟨xs, m, _, hx, hl, hlen, hfi⟩ := DataW.trod_struct Tryz.underlying30 hf
  rw [show Tryz.prog.cellsOf 30 = 9 by kernel_rfl] at hl
  have hl2 : cs.length = 9 := hl
  have h7 : reachBytes ≤ 140737488355328 := by decide
  have hU := Tryz.underlying30
  match xs, hlen, cs, hl2 with
  | [y0, y1, y2, y3, y4, y5, y6, y7, y8], _, [c0, c1, c2, c3, c4, c5, c6, c7, c8], _ =>
    simp only [Prod.mk.injEq] at hx
    obtain ⟨rfl, -⟩ := hx
    obtain ⟨a, rfl, _⟩ := trod_i64 (c := c0) Tryz.underlying2 (hfi 0 _ rfl)
    obtain ⟨b, rfl, _⟩ := trod_i64 (c := c1) Tryz.underlying2 (hfi 1 _ rfl)
    obtain ⟨o, rfl, ho⟩ := trod_i64 (c := c2) Tryz.underlying2 (hfi 2 _ rfl)
    obtain ⟨u, rfl, _⟩ := trod_i64 (c := c3) Tryz.underlying2 (hfi 3 _ rfl)
    have g4 : DataW.trod enc Tryz.prog W base (fun _ => true) held m 24 [c4] = some y4 := hfi 4 _ rfl
    have g5 : DataW.trod enc Tryz.prog W base (fun _ => true) held m 25 [c5] = some y5 := hfi 5 _ rfl
    have g6 : DataW.trod enc Tryz.prog W base (fun _ => true) held m 26 [c6] = some y6 := hfi 6 _ rfl
    have g7 : DataW.trod enc Tryz.prog W base (fun _ => true) held m 27 [c7] = some y7 := hfi 7 _ rfl
    have g8 : DataW.trod enc Tryz.prog W base (fun _ => true) held m 28 [c8] = some y8 := hfi 8 _ rfl
    obtain ⟨pa, ca, la, rfl, A, qa, ba⟩ := open_slV encA 2 reachBytes (fun x => x.name.size ≤ reachBytes) encA_len (by omega) Tryz.underlying24 (by kernel_rfl) (by kernel_rfl) acc_dec g4 (wt_part hU hwt (j := 4) rfl rfl)
    obtain ⟨pi, ci, li, rfl, I, qi, bi⟩ := open_slV encN 3 reachBytes (fun x => x.name.size ≤ reachBytes ∧ (-9223372036854775808 ≤ x.tick ∧ x.tick ≤ 9223372036854775807)) encN_len (by omega) Tryz.underlying25 (by kernel_rfl) (by kernel_rfl) ins_dec g5 (wt_part hU hwt (j := 5) rfl rfl)
    obtain ⟨pr, cr, lr, rfl, R, qr, br⟩ := open_slV encR 4 reachBytes RIn encR_len (by omega) Tryz.underlying26 (by kernel_rfl) (by kernel_rfl) row_decW g6 (wt_part hU hwt (j := 6) rfl rfl)
    obtain ⟨po, co, lo, rfl, O, qo, bo⟩ := open_slV encO 6 reachBytes (fun r : Ord => (-9223372036854775808 ≤ r.price ∧ r.price ≤ 9223372036854775807) ∧ (-9223372036854775808 ≤ r.left ∧ r.left ≤ 9223372036854775807)) encO_len (by omega) Tryz.underlying27 (by kernel_rfl) (by kernel_rfl) ord_dec g7 (wt_part hU hwt (j := 7) rfl rfl)
    obtain ⟨px, cx, lx, rfl, X, qx, bx⟩ := open_slV (fun x : AucC × List Bid => encC x.1) 9 reachBytes (fun x => AuR W x.1 ⟨x.1.h, x.2⟩) (fun _ => rfl) (by omega) Tryz.underlying28 (by kernel_rfl) (by kernel_rfl) auc_dec g8 (wt_part hU hwt (j := 8) rfl rfl)
    refine ⟨⟨a, b, o, u, pa, _, ca, pi, _, ci, pr, _, cr, po, _, co, px, _, cx⟩, ⟨a, b, o, u, la, li, lr, lo, lx.map fun x => ⟨x.1.h, x.2⟩⟩, rfl, ⟨⟨rfl, rfl, rfl, rfl⟩, rfl, rfl, rfl, rfl, by simp, A, I, R, O, lx.map (·.1), SlR.map_fst _ X, by simp, fun j x c hx hc => ?_⟩, ⟨Nat.le_trans br h7, Nat.le_trans bo h7, fun x hx => Nat.le_trans (qa x hx) h7, fun x hx => Nat.le_trans (qi x hx).1 h7, qr⟩, ⟨fun x hx => Nat.le_trans (qa x hx) h7, fun x hx => ⟨Nat.le_trans (qi x hx).1 h7, (qi x hx).2⟩, qr, qo, ho⟩⟩
    rw [List.getElem?_map, Option.map_eq_some_iff] at hx hc
    obtain ⟨z, hz, rfl⟩ := hx
    obtain ⟨z2, hz2, rfl⟩ := hc
    rw [hz] at hz2; injection hz2 with hz2; subst hz2
    exact qx z (List.mem_of_getElem? hz)
end
end Go.Proofs.YtekomjnjddhfmaaGreat
namespace Go.Proofs.YtekomjnjddhfmaaGreat
open Go.RowKit Go.PlainAid

section
variable {α : Type} {enc : α → List Value} {k nb : Nat} {P : Program} {n : Nat} {l : Fr} {w : World} {d : Option Nat} {ty : TypeId} {pos : String} {af : Array Edge} {g : Option (Nat × Bool)} {x y : Operand} {S T : TypeId} {base N : Nat} {ys : List α} {a : Option Addr} {m c : Nat} {Z : Value → World → Prop}
def Emp (T : TypeId) (base : Nat) (v : Value) (w : World) : Prop := ∃ N, base ≤ N ∧ v = .slice (some ⟨N, 0, none⟩) 0 0 ∧ w.heap[N]? = some (.cells #[] T (0, 0))
theorem Emp.mono {T : TypeId} {base : Nat} {v : Value} {w w' : World} (h : Emp T base v w) (hb : Below w.heap.size w w') : Emp T base v w' := by
  obtain ⟨N, h1, h2, h3⟩ := h
  exact ⟨N, h1, h2, (hb.block N (Array.getElem?_eq_some_iff.1 h3).1).trans h3⟩
theorem act_bs0 (E : ElemT P S T k nb) (hb : base ≤ w.heap.size) (h : ∀ v w', Emp T base v w' → Below w.heap.size w w' → Z v w') : Act1 P n l ⟨d, .buildSlice S 0 #[], ty, pos, af, g⟩ w Z := by
  obtain ⟨i, z, hi, hz, hsz, _, hzs⟩ := E.info
  refine act_ev (w' := w.alloc (.cells #[] T)) (v := .slice (some ⟨w.heap.size, 0, none⟩) 0 0) ⟨fun A hA => ?_⟩ (h _ _ ⟨_, hb, rfl, heap_alloc_new w _⟩ (below_alloc _ _))
  have e0 : Array.range 0 = #[] := Array.eq_empty_of_size_eq_zero (by simp)
  simp [execOp, Instr.buildSlice, run_underlying E.sl, sizeOf, typeInfo, hi, Instr.fill, newRow, e0]
theorem act_app0 (E : ElemT P S T k nb) (hk : ∀ x, (enc x).length = k) (h1c : ∀ x, ∀ v ∈ enc x, v.oneCell' = true) {v : Value} (hx : ev l x = some v) (hv : Emp T base v w) (hy : ev l y = some (.slice a m c)) (hs : SlR enc k w a c ys) (hm : m = ys.length) (hb : base ≤ w.heap.size) (hsz : ys.length * nb ≤ 140737488355328) (hmx : ys.length ≤ maxLen)
    (h : ∀ v' w', Own enc k T base w' v' ys → Below w.heap.size w w' → Z v' w') : Act1 P n l ⟨d, .call ⟨.builtin .append, #[x, y], #[S, S]⟩, ty, pos, af, g⟩ w Z := by
  subst hm
  obtain ⟨N, hN, rfl, hh⟩ := hv
  cases ys with
  | cons u r =>
    have h0 : SlR enc k w (some ⟨N, 0, none⟩) 0 ([] : List α) := ⟨Nat.le_refl _, by omega, (fun h => by cases h), fun ad _ hc => by omega⟩
    obtain ⟨v', w', h1, h2, h3⟩ := app_full E hk h1c ty h0 hs (by simp) (by simpa using hsz) (by simpa using hmx)
    exact act_ev (v := v') (w' := w') ⟨fun A hA => by simp at h1; simp [execOp, resolve, hA.ev hx, hA.ev hy, invoke, builtin, h1]⟩ (h _ _ ((by simpa using h2 : Own enc k T w.heap.size w' v' (u :: r)).weaken hb) (below_none h3))
  | nil =>
    obtain ⟨i, z, hi, hz, hsz2, _, _⟩ := E.info
    have hO : Own enc k T base w (.slice (some ⟨N, 0, none⟩) 0 0) ([] : List α) := ⟨by simp, .inr ⟨N, 0, #[], rfl, hN, hh, Nat.le_refl _, by simp [maxLen], by simp, by simp⟩⟩
    cases a with
    | none =>
      obtain ⟨_, rfl⟩ := hs.ofNone rfl
      have h1 := run_append_owned_none (P := P) w base S ty T i k E.sl hi _ _ _ hO
      exact act_ev (v := .slice (some ⟨N, 0, none⟩) 0 0) (w' := w) ⟨fun A hA => by simp [execOp, resolve, hA.ev hx, hA.ev hy, invoke, builtin, h1]⟩ (h _ _ hO (Below.refl _ _))
    | some ad =>
      have h1 := run_append_room (P := P) w S ty T i E.sl hi N 0 0 #[] hh ad 0 c [] (by simp) (by simp) (by simp) (by simp) (by simp)
      have hh2 : (w.setRow N #[]).heap[N]? = some (.cells #[] T (0, 0)) := setRow_heap w N _ _ T _ hh
      refine act_ev (v := .slice (some ⟨N, 0, none⟩) 0 0) (w' := w.setRow N #[]) ⟨fun A hA => by simp at h1; simp [execOp, resolve, hA.ev hx, hA.ev hy, invoke, builtin, h1]⟩ (h _ _ ⟨by simp, .inr ⟨N, 0, #[], rfl, hN, hh2, Nat.le_refl _, by simp [maxLen], by simp, by simp⟩⟩ ⟨rfl, rfl, rfl, by simp, fun q _ => ?_⟩)
      rcases Nat.decEq q N with hq | hq
      · exact setRow_other w N q _ hq
      · subst hq; rw [hh2, hh]
theorem lw_of_act {ops : Array Oper} {Q : Exit → Act → World → Prop} {os : List Oper} {d : Nat} {op : Op} (hd : Nat.blt d n = true) (h : Act1 P n l ⟨some d, op, ty, pos, af, none⟩ w (fun v w' => LW P n ops Q os ((d, v) :: l) w')) : LW P n ops Q (⟨some d, op, ty, pos, af, none⟩ :: os) l w :=
  ⟨fun a ha => wpList_plain rfl fun K hK => h.out a ha K _ fun v w' hl => hK _ _ (hl.out _ (ha.put hd v))⟩
end
section
variable {α : Type} {enc : α → List Value} {k : Nat} {P : Program} {n : Nat} {l : Fr} {w : World} {d : Option Nat} {ty : TypeId} {pos : String} {af : Array Edge} {gd : Option (Nat × Bool)} {T t : TypeId} {x y : Operand} {base g cap : Nat} {xs : List α} {Z : Value → World → Prop}
theorem act_storeF (hk : ∀ x, (enc x).length = k) (ht : sizeB P t 1 = true) {i f o : Nat} {v : Value} {a u : α} (hx : ev l x = some (.pointer (some ⟨g, o, none⟩))) (ho : o = i * k + f) (hy : ev l y = some v) (h1 : v.oneCell' = true) (hO : Own enc k T base w (.slice (some ⟨g, 0, none⟩) xs.length cap) xs) (ha : xs[i]? = some a) (hu : enc u = (enc a).set f v) (hf : f < k)
    (h : ∀ w', Own enc k T base w' (.slice (some ⟨g, 0, none⟩) xs.length cap) (xs.set i u) → w.grownBy w' (some g) → w'.heap.size = w.heap.size → Z undef w') : Act1 P n l ⟨d, .store t x y, ty, pos, af, gd⟩ w Z := by
  subst ho
  obtain ⟨cur, hb, hg, hle, hmax, hsz, htk⟩ := Own.heap' hO
  have hi : i < xs.length := (List.getElem?_eq_some_iff.1 ha).1
  have hik : i * k + f < xs.length * k := by
    have := Nat.mul_le_mul_right k (show i + 1 ≤ xs.length from hi); rw [Nat.add_mul, Nat.one_mul] at this; omega
  have hck : xs.length * k ≤ cap * k := Nat.mul_le_mul_right k hle
  have hp : PT w g T cur.toList := by unfold PT; simpa using hg
  obtain ⟨w', a1, b1, c1, e1⟩ := sv_store (P := P) (n := n) (l := l) (d := d) (ty := ty) (pos := pos) (af := af) (g := gd) hp ht hx hy h1 (by rw [Array.length_toList, hsz]; omega)
  refine act_sv a1 (h w' ⟨by rw [flat_len enc k hk, List.length_set], Or.inr ⟨g, cap, (cur.toList.set (i * k + f) v).toArray, by rw [List.length_set], hb, b1, by rw [List.length_set]; exact hle, hmax, by simp [hsz], ?_⟩⟩ c1 e1)
  rw [List.length_set, flat_set hk ha hu hf, ← htk]
  simp only [List.take_set]
end
theorem own_sl {α : Type} {enc : α → List Value} {k : Nat} {T : TypeId} {base : Nat} {w : World} {a : Option Addr} {m c : Nat} {xs : List α} (hk : ∀ x, (enc x).length = k) (h : Own enc k T base w (.slice a m c) xs) : xs.length = m ∧ SlR enc k w a c xs := by
  obtain ⟨a', c', hv, hs, -⟩ := Own.slR hk h
  injection hv with e1 e2 e3
  subst e1 e2 e3
  exact ⟨rfl, hs⟩
theorem own_shape {α : Type} {enc : α → List Value} {k : Nat} {T : TypeId} {base : Nat} {w : World} {v : Value} {xs : List α} (hk : ∀ x, (enc x).length = k) (h : Own enc k T base w v xs) : ∃ a c, v = .slice a xs.length c := by
  obtain ⟨a, c, hv, -, -⟩ := Own.slR hk h
  exact ⟨a, c, hv⟩
theorem own_ne_ptN {α : Type} {enc : α → List Value} {k : Nat} {T T' : TypeId} {B N : Nat} {w : World} {v : Value} {xs : List α} {cs : List Value} (h : Own enc k T B w v xs) (hp : PT w N T' cs) (hT : T ≠ T') : v.ownBlock ≠ some N := by
  obtain ⟨_, h2⟩ := h
  rcases h2 with ⟨rfl, _⟩ | ⟨g, cap, cur, rfl, _, hg, _⟩
  · intro e; cases e
  · intro e
    have e : g = N := by simpa [Value.ownBlock] using e
    subst e
    have h1 : PT w g T cur.toList := by unfold PT; simpa using hg
    unfold PT at h1 hp
    rw [h1] at hp
    injection hp with hp; injection hp with _ h2 _
    exact hT h2
theorem own_own_ne {α β : Type} {enc : α → List Value} {enc' : β → List Value} {k k' B B' : Nat} {T T' : TypeId} {w : World} {v v' : Value} {xs : List α} {ys : List β} (h : Own enc k T B w v xs) (h' : Own enc' k' T' B' w v' ys) (hT : T ≠ T') : v.ownBlock = none ∨ v.ownBlock ≠ v'.ownBlock := by
  rcases h.2 with ⟨rfl, _⟩ | ⟨g, cap, cur, rfl, _, hg, _⟩
  · exact Or.inl rfl
  · rcases h'.2 with ⟨rfl, _⟩ | ⟨g', cap', cur', rfl, _, hg', _⟩
    · exact Or.inr (fun e => by cases e)
    · refine Or.inr fun e => ?_
      have e : g = g' := by simpa [Value.ownBlock] using e
      subst e
      rw [hg] at hg'
      injection hg' with hg'; injection hg' with _ h2 _
      exact hT h2
structure OwA (base : Nat) (w : World) (x : AucC) (a : Auc) : Prop where
  h : x.h = a.h
  o : Own encD 2 46 base w (.slice x.ba x.bm x.bc) a.bids
structure OwS (base : Nat) (w : World) (s : SttC) (t : Stt) (xs : List AucC) : Prop where
  n : s.clock = t.clock ∧ s.fee = t.fee ∧ s.nord = t.nord ∧ s.nauc = t.nauc
  A : Own encA 2 34 base w (.slice s.pa s.ma s.ca) t.accs
  I : Own encN 3 37 base w (.slice s.pi s.mi s.ci) t.inss
  R : Own encR 4 39 base w (.slice s.pr s.mr s.cr) t.rows
  O : Own encO 6 41 base w (.slice s.po s.mo s.co) t.ords
  X : Own encC 9 44 base w (.slice s.px s.mx s.cx) xs
  L : xs.length = t.aucs.length
  B : ∀ (j : Nat) x a, xs[j]? = some x → t.aucs[j]? = some a → OwA base w x a
theorem OwS.stR {base : Nat} {w : World} {s : SttC} {t : Stt} {xs : List AucC} (h : OwS base w s t xs) : StR w s t := by
  obtain ⟨a1, a2⟩ := own_sl encA_len h.A
  obtain ⟨i1, i2⟩ := own_sl encN_len h.I
  obtain ⟨r1, r2⟩ := own_sl encR_len h.R
  obtain ⟨o1, o2⟩ := own_sl encO_len h.O
  obtain ⟨x1, x2⟩ := own_sl encC_len h.X
  refine ⟨h.n, a1, i1, r1, o1, h.L.symm.trans x1, a2, i2, r2, o2, xs, x2, h.L, fun j x a hx ha => ?_⟩
  obtain ⟨q1, q2⟩ := h.B j x a hx ha
  obtain ⟨b1, b2⟩ := own_sl encD_len q2
  exact ⟨q1, b1, b2⟩

theorem sumX_len (l : List Auc) : l.length ≤ sumX l := by
  unfold sumX
  induction l with
  | nil => simp
  | cons a l ih => simp only [List.map_cons, List.sum_cons, List.length_cons]; omega
theorem sumX_mem {l : List Auc} {a : Auc} (h : a ∈ l) : 1 + a.bids.length ≤ sumX l := by
  unfold sumX
  induction l with
  | nil => cases h
  | cons b l ih =>
    simp only [List.map_cons, List.sum_cons]
    rcases List.mem_cons.1 h with rfl | h
    · omega
    · have := ih h; omega
theorem own_shapeM {α : Type} {enc : α → List Value} {k : Nat} {T : TypeId} {base : Nat} {w : World} {v : Value} {xs : List α} {m : Nat} (hk : ∀ x, (enc x).length = k) (h : Own enc k T base w v xs) (hm : xs.length = m) : ∃ a c, v = .slice a m c := by
  obtain ⟨a, c, hv⟩ := own_shape hk h
  exact ⟨a, c, by rw [hv, hm]⟩
theorem own_some {α : Type} {enc : α → List Value} {k : Nat} {T : TypeId} {base : Nat} {w : World} {a : Option Addr} {m c : Nat} {xs : List α} (h : Own enc k T base w (.slice a m c) xs) (h0 : 0 < m) : ∃ g, a = some ⟨g, 0, none⟩ := by
  obtain ⟨h1, h2⟩ := h
  rcases h2 with ⟨hv, h3⟩ | ⟨g, cap, cur, hv, _⟩
  · injection hv with _ e2 _; omega
  · injection hv with e1 _ _; exact ⟨g, e1⟩
structure OwI (base N2 N3 : Nat) (w1 : World) (t : Stt) (aA aI aR aO aX : Option Addr) (cA cI cR cO cX : Nat) (k : Nat) (xs : List AucC) (w : World) : Prop where
  b : Below w1.heap.size w1 w
  h2 : ∃ cs, PT w N2 30 cs ∧ cs.length = 9
  h3 : PT w N3 30 [.int .i64 t.clock, .int .i64 t.fee, .int .i64 t.nord, .int .i64 t.nauc, .slice aA t.accs.length cA, .slice aI t.inss.length cI, .slice aR t.rows.length cR, .slice aO t.ords.length cO, .slice aX t.aucs.length cX]
  A : Own encA 2 34 base w (.slice aA t.accs.length cA) t.accs
  I : Own encN 3 37 base w (.slice aI t.inss.length cI) t.inss
  R : Own encR 4 39 base w (.slice aR t.rows.length cR) t.rows
  O : Own encO 6 41 base w (.slice aO t.ords.length cO) t.ords
  X : Own encC 9 44 base w (.slice aX t.aucs.length cX) xs
  L : xs.length = t.aucs.length
  B : ∀ (j : Nat) x a, xs[j]? = some x → t.aucs[j]? = some a → x.h = a.h ∧ (j < k → Own encD 2 46 base w (.slice x.ba x.bm x.bc) a.bids)
set_option maxRecDepth 20000 in
set_option maxHeartbeats 8000000 in
theorem own_c {s : SttC} {t : Stt} {w : World} (hS0 : StR w s t) (hM : StSm t) : Calls Tryz.prog 18 #[(.agg (encS s).toArray)] w fun e w' => (∃ (qa : Option Addr) (da : Nat) (qi : Option Addr) (di : Nat) (qr : Option Addr) (dr : Nat) (qo : Option Addr) (d : Nat) (qx : Option Addr) (dx : Nat) (xs : List AucC), e = .returned (.agg (List.toArray [.int .i64 t.clock, .int .i64 t.fee, .int .i64 t.nord, .int .i64 t.nauc, .slice qa t.accs.length da, .slice qi t.inss.length di, .slice qr t.rows.length dr, .slice qo t.ords.length d, .slice qx t.aucs.length dx])) ∧ OwS w.heap.size w' ⟨t.clock, t.fee, t.nord, t.nauc, qa, t.accs.length, da, qi, t.inss.length, di, qr, t.rows.length, dr, qo, t.ords.length, d, qx, t.aucs.length, dx⟩ t xs) ∧ Below w.heap.size w w' := by
  have hE := Ext.refl w
  have hw := Below.refl w.heap.size w
  obtain ⟨c1, c2, c3, c4, pa, ma, ca, pi, mi, ci, pr, mr, cr, po, mo, co, px, mx, cx⟩ := s; obtain ⟨⟨e1, e2, e3, e4⟩, hma, hmi, hmr, hmo, hmx, HA, HI, HR, HO, HXs⟩ := hS0; simp only at e1 e2 e3 e4 hma hmi hmr hmo hmx HA HI HR HO HXs; subst e1 e2 e3 e4 hma hmi hmr hmo hmx
  obtain ⟨xs, HX9, HAs⟩ := HXs
  have hxn := HAs.1
  have hsx := hM.xs
  have hsl := sumX_len t.aucs
  have hro := hM.ro
  have hal := hM.al
  have hil := hM.il
  refine fn_enter 52 Tryz.func18 rfl rfl rfl ?_
  repeat' (first | (refine is_cw ?_; first | (refine cw_seq ?_) | (refine cw_region ?_)))
  refine lw_boxN rfl rfl (cs := [.int .i64 t.clock, .int .i64 t.fee, .int .i64 t.nord, .int .i64 t.nauc, .slice pa t.accs.length ca, .slice pi t.inss.length ci, .slice pr t.rows.length cr, .slice po t.ords.length co, .slice px t.aucs.length cx]) rfl ?_; intro N1 wn hN1 HX hb; replace hN1 := Nat.le_trans hw.size hN1; replace hw := grow_trans hw hb; clear hb
  replace hE := hE.mono hw; replace HA := HA.mono hw; replace HI := HI.mono hw; replace HR := HR.mono hw; replace HO := HO.mono hw; replace HX9 := HX9.mono hw; replace HAs := HAs.mono hw; clear hw; have hw := Below.refl wn.heap.size wn
  skip
  refine lw_allocN rfl (by first | exact tyv_29 | exact tyv_30 | exact tyv_33 | exact tyv_34 | exact tyv_36 | exact tyv_37 | exact tyv_38 | exact tyv_39 | exact tyv_40 | exact tyv_41 | exact tyv_43 | exact tyv_44 | exact tyv_45 | exact tyv_46 | exact tyv_73 | exact tyv_74 | exact tyv_80 | exact tyv_81 | exact tyv_107 | exact tyv_108 | exact tyv_123 | exact tyv_146 | exact tyv_147 | exact tyv_148 | exact tyv_149) rfl ?_; intro N2 w2 hN2 H2 hb
  replace hw := grow_trans hw hb
  clear hb
  repeat' (first | (refine is_cw ?_; first | (refine cw_seq ?_) | (refine cw_region ?_)) | (refine is_qw ?_; first | (with_reducible refine qw_then ?_)) | (refine lw_nil ?_) | ((refine is_load ?_; first | (refine lw_pure rfl (pv_loada (tA rfl) rfl (by first | exact PT.lda (HX.mono hw)) (by rfl)) ?_))))
  refine lw_varN rfl (by first | exact tyv_29 | exact tyv_30 | exact tyv_33 | exact tyv_34 | exact tyv_36 | exact tyv_37 | exact tyv_38 | exact tyv_39 | exact tyv_40 | exact tyv_41 | exact tyv_43 | exact tyv_44 | exact tyv_45 | exact tyv_46 | exact tyv_73 | exact tyv_74 | exact tyv_80 | exact tyv_81 | exact tyv_107 | exact tyv_108 | exact tyv_123 | exact tyv_146 | exact tyv_147 | exact tyv_148 | exact tyv_149) rfl (tZ rfl) (fun _ => rfl) rfl rfl ?_; intro N3 w3 hN3 H3 hb
  replace H3 : PT w3 N3 30 [.int .i64 t.clock, .int .i64 t.fee, .int .i64 t.nord, .int .i64 t.nauc, .slice pa t.accs.length ca, .slice pi t.inss.length ci, .slice pr t.rows.length cr, .slice po t.ords.length co, .slice px t.aucs.length cx] := H3
  have hl2 := H2.lt
  have hn23 : N2 ≠ N3 := by omega
  replace hN3 := Nat.le_trans hw.size hN3
  replace H2 := H2.mono hb
  replace hw := grow_trans hw hb
  clear hb hl2
  repeat' (first | (refine is_cw ?_; first | (refine cw_seq ?_) | (refine cw_region ?_)) | (refine is_qw ?_; first | (with_reducible refine qw_then ?_)) | (refine lw_nil ?_))
  refine lw_of_act rfl (act_bs0 elemA hw.size ?_); intro vE wE hvE hb
  replace H2 := H2.mono hb
  replace H3 := H3.mono hb
  replace hw := grow_trans hw hb
  clear hb
  repeat' (first | ((refine is_load ?_; first | (refine lw_pure rfl (pv_load (t1 rfl) rfl (by first | exact PT.ld0 (HX.mono hw) rfl | exact PT.ld (HX.mono hw) rfl)) ?_))) | ((refine is_fa ?_; first | (refine lw_pure rfl (pv_fa (tF rfl) rfl) ?_))))
  refine lw_of_act rfl (act_app0 (base := wn.heap.size) elemA encA_len encA_one rfl hvE rfl (HA.mono hw) rfl hw.size (by omega) (by simp [maxLen]; omega) ?_); intro vA wA OA hb
  replace H2 := H2.mono hb
  replace H3 := H3.mono hb
  replace hw := grow_trans hw hb
  clear hb hvE
  obtain ⟨aA, cA, rfl⟩ := own_shapeM (m := t.accs.length) encA_len OA rfl
  repeat' (first | ((refine is_fa ?_; first | (refine lw_pure rfl (pv_fa (tF rfl) rfl) ?_))))
  have H3o := H3
  refine lw_store H3 (tZ rfl) rfl rfl rfl (by simp) ?_; intro wB H3 hg hz
  replace H3 : PT wB N3 30 [.int .i64 t.clock, .int .i64 t.fee, .int .i64 t.nord, .int .i64 t.nauc, .slice aA t.accs.length cA, .slice pi t.inss.length ci, .slice pr t.rows.length cr, .slice po t.ords.length co, .slice px t.aucs.length cx] := H3
  replace H2 := pt_keptN H2 hg hn23
  replace OA := OA.kept hg (Or.inr (own_ne_ptN OA H3o (by decide)))
  replace hw := st_hw hw hg hN3
  clear hg hz H3o
  repeat' (first | (refine is_cw ?_; first | (refine cw_seq ?_) | (refine cw_region ?_)) | (refine is_qw ?_; first | (with_reducible refine qw_then ?_)) | (refine lw_nil ?_))
  refine lw_of_act rfl (act_bs0 elemIn hw.size ?_); intro vE wE hvE hb
  replace H2 := H2.mono hb
  replace H3 := H3.mono hb
  replace OA := OA.mono hb
  replace hw := grow_trans hw hb
  clear hb
  repeat' (first | ((refine is_load ?_; first | (refine lw_pure rfl (pv_load (t1 rfl) rfl (by first | exact PT.ld0 (HX.mono hw) rfl | exact PT.ld (HX.mono hw) rfl)) ?_))) | ((refine is_fa ?_; first | (refine lw_pure rfl (pv_fa (tF rfl) rfl) ?_))))
  refine lw_of_act rfl (act_app0 (base := wn.heap.size) elemIn encN_len encN_one rfl hvE rfl (HI.mono hw) rfl hw.size (by omega) (by simp [maxLen]; omega) ?_); intro vI wA OI hb
  replace H2 := H2.mono hb
  replace H3 := H3.mono hb
  replace OA := OA.mono hb
  replace hw := grow_trans hw hb
  clear hb hvE
  obtain ⟨aI, cI, rfl⟩ := own_shapeM (m := t.inss.length) encN_len OI rfl
  repeat' (first | ((refine is_fa ?_; first | (refine lw_pure rfl (pv_fa (tF rfl) rfl) ?_))))
  have H3o := H3
  refine lw_store H3 (tZ rfl) rfl rfl rfl (by simp) ?_; intro wB H3 hg hz
  replace H3 : PT wB N3 30 [.int .i64 t.clock, .int .i64 t.fee, .int .i64 t.nord, .int .i64 t.nauc, .slice aA t.accs.length cA, .slice aI t.inss.length cI, .slice pr t.rows.length cr, .slice po t.ords.length co, .slice px t.aucs.length cx] := H3
  replace H2 := pt_keptN H2 hg hn23
  replace OA := OA.kept hg (Or.inr (own_ne_ptN OA H3o (by decide)))
  replace OI := OI.kept hg (Or.inr (own_ne_ptN OI H3o (by decide)))
  replace hw := st_hw hw hg hN3
  clear hg hz H3o
  repeat' (first | (refine is_cw ?_; first | (refine cw_seq ?_) | (refine cw_region ?_)) | (refine is_qw ?_; first | (with_reducible refine qw_then ?_)) | (refine lw_nil ?_))
  refine lw_of_act rfl (act_bs0 elemR hw.size ?_); intro vE wE hvE hb
  replace H2 := H2.mono hb
  replace H3 := H3.mono hb
  replace OA := OA.mono hb
  replace OI := OI.mono hb
  replace hw := grow_trans hw hb
  clear hb
  repeat' (first | ((refine is_load ?_; first | (refine lw_pure rfl (pv_load (t1 rfl) rfl (by first | exact PT.ld0 (HX.mono hw) rfl | exact PT.ld (HX.mono hw) rfl)) ?_))) | ((refine is_fa ?_; first | (refine lw_pure rfl (pv_fa (tF rfl) rfl) ?_))))
  refine lw_of_act rfl (act_app0 (base := wn.heap.size) elemR encR_len encR_one rfl hvE rfl (HR.mono hw) rfl hw.size (by omega) (by simp [maxLen]; omega) ?_); intro vR wA OR hb
  replace H2 := H2.mono hb
  replace H3 := H3.mono hb
  replace OA := OA.mono hb
  replace OI := OI.mono hb
  replace hw := grow_trans hw hb
  clear hb hvE
  obtain ⟨aR, cR, rfl⟩ := own_shapeM (m := t.rows.length) encR_len OR rfl
  repeat' (first | ((refine is_fa ?_; first | (refine lw_pure rfl (pv_fa (tF rfl) rfl) ?_))))
  have H3o := H3
  refine lw_store H3 (tZ rfl) rfl rfl rfl (by simp) ?_; intro wB H3 hg hz
  replace H3 : PT wB N3 30 [.int .i64 t.clock, .int .i64 t.fee, .int .i64 t.nord, .int .i64 t.nauc, .slice aA t.accs.length cA, .slice aI t.inss.length cI, .slice aR t.rows.length cR, .slice po t.ords.length co, .slice px t.aucs.length cx] := H3
  replace H2 := pt_keptN H2 hg hn23
  replace OA := OA.kept hg (Or.inr (own_ne_ptN OA H3o (by decide)))
  replace OI := OI.kept hg (Or.inr (own_ne_ptN OI H3o (by decide)))
  replace OR := OR.kept hg (Or.inr (own_ne_ptN OR H3o (by decide)))
  replace hw := st_hw hw hg hN3
  clear hg hz H3o
  repeat' (first | (refine is_cw ?_; first | (refine cw_seq ?_) | (refine cw_region ?_)) | (refine is_qw ?_; first | (with_reducible refine qw_then ?_)) | (refine lw_nil ?_))
  refine lw_of_act rfl (act_bs0 elemO hw.size ?_); intro vE wE hvE hb
  replace H2 := H2.mono hb
  replace H3 := H3.mono hb
  replace OA := OA.mono hb
  replace OI := OI.mono hb
  replace OR := OR.mono hb
  replace hw := grow_trans hw hb
  clear hb
  repeat' (first | ((refine is_load ?_; first | (refine lw_pure rfl (pv_load (t1 rfl) rfl (by first | exact PT.ld0 (HX.mono hw) rfl | exact PT.ld (HX.mono hw) rfl)) ?_))) | ((refine is_fa ?_; first | (refine lw_pure rfl (pv_fa (tF rfl) rfl) ?_))))
  refine lw_of_act rfl (act_app0 (base := wn.heap.size) elemO encO_len encO_one rfl hvE rfl (HO.mono hw) rfl hw.size (by omega) (by simp [maxLen]; omega) ?_); intro vO wA OO hb
  replace H2 := H2.mono hb
  replace H3 := H3.mono hb
  replace OA := OA.mono hb
  replace OI := OI.mono hb
  replace OR := OR.mono hb
  replace hw := grow_trans hw hb
  clear hb hvE
  obtain ⟨aO, cO, rfl⟩ := own_shapeM (m := t.ords.length) encO_len OO rfl
  repeat' (first | ((refine is_fa ?_; first | (refine lw_pure rfl (pv_fa (tF rfl) rfl) ?_))))
  have H3o := H3
  refine lw_store H3 (tZ rfl) rfl rfl rfl (by simp) ?_; intro wB H3 hg hz
  replace H3 : PT wB N3 30 [.int .i64 t.clock, .int .i64 t.fee, .int .i64 t.nord, .int .i64 t.nauc, .slice aA t.accs.length cA, .slice aI t.inss.length cI, .slice aR t.rows.length cR, .slice aO t.ords.length cO, .slice px t.aucs.length cx] := H3
  replace H2 := pt_keptN H2 hg hn23
  replace OA := OA.kept hg (Or.inr (own_ne_ptN OA H3o (by decide)))
  replace OI := OI.kept hg (Or.inr (own_ne_ptN OI H3o (by decide)))
  replace OR := OR.kept hg (Or.inr (own_ne_ptN OR H3o (by decide)))
  replace OO := OO.kept hg (Or.inr (own_ne_ptN OO H3o (by decide)))
  replace hw := st_hw hw hg hN3
  clear hg hz H3o
  repeat' (first | (refine is_cw ?_; first | (refine cw_seq ?_) | (refine cw_region ?_)) | (refine is_qw ?_; first | (with_reducible refine qw_then ?_)) | (refine lw_nil ?_))
  refine lw_of_act rfl (act_bs0 elemC hw.size ?_); intro vE wE hvE hb
  replace H2 := H2.mono hb
  replace H3 := H3.mono hb
  replace OA := OA.mono hb
  replace OI := OI.mono hb
  replace OR := OR.mono hb
  replace OO := OO.mono hb
  replace hw := grow_trans hw hb
  clear hb
  repeat' (first | ((refine is_load ?_; first | (refine lw_pure rfl (pv_load (t1 rfl) rfl (by first | exact PT.ld0 (HX.mono hw) rfl | exact PT.ld (HX.mono hw) rfl)) ?_))) | ((refine is_fa ?_; first | (refine lw_pure rfl (pv_fa (tF rfl) rfl) ?_))))
  refine lw_of_act rfl (act_app0 (base := wn.heap.size) elemC encC_len encC_one rfl hvE rfl (HX9.mono hw) hxn.symm hw.size (by omega) (by simp [maxLen]; omega) ?_); intro vX wA OX hb
  replace H2 := H2.mono hb
  replace H3 := H3.mono hb
  replace OA := OA.mono hb
  replace OI := OI.mono hb
  replace OR := OR.mono hb
  replace OO := OO.mono hb
  replace hw := grow_trans hw hb
  clear hb hvE
  obtain ⟨aX, cX, rfl⟩ := own_shapeM (m := t.aucs.length) encC_len OX hxn
  repeat' (first | ((refine is_fa ?_; first | (refine lw_pure rfl (pv_fa (tF rfl) rfl) ?_))))
  have H3o := H3
  refine lw_store H3 (tZ rfl) rfl rfl rfl (by simp) ?_; intro wB H3 hg hz
  replace H3 : PT wB N3 30 [.int .i64 t.clock, .int .i64 t.fee, .int .i64 t.nord, .int .i64 t.nauc, .slice aA t.accs.length cA, .slice aI t.inss.length cI, .slice aR t.rows.length cR, .slice aO t.ords.length cO, .slice aX t.aucs.length cX] := H3
  replace H2 := pt_keptN H2 hg hn23
  replace OA := OA.kept hg (Or.inr (own_ne_ptN OA H3o (by decide)))
  replace OI := OI.kept hg (Or.inr (own_ne_ptN OI H3o (by decide)))
  replace OR := OR.kept hg (Or.inr (own_ne_ptN OR H3o (by decide)))
  replace OO := OO.kept hg (Or.inr (own_ne_ptN OO H3o (by decide)))
  replace OX := OX.kept hg (Or.inr (own_ne_ptN OX H3o (by decide)))
  replace hw := st_hw hw hg hN3
  clear hg hz H3o
  repeat' (first | (refine lw_pure rfl (pv_assign rfl) ?_) | (refine is_cw ?_; first | (refine cw_seq ?_) | (refine cw_region ?_) | (refine cw_block ?_)) | (refine is_qw ?_; first | (with_reducible refine qw_then ?_)) | (refine lw_nil ?_))
  refine cw_loop (σ := Nat × List AucC) (fun q => [(1, .pointer (some ⟨N1, 0, none⟩)), (2, .pointer (some ⟨N2, 0, none⟩)), (3, .pointer (some ⟨N3, 0, none⟩)), (4, .int .i64 (q.1 : Nat))]) (fun q wr => q.1 ≤ t.aucs.length ∧ OwI wn.heap.size N2 N3 wn t aA aI aR aO aX cA cI cR cO cX q.1 q.2 wr) (fun q => t.aucs.length - q.1) (0, xs) (by repeat' (first | exact trivial | refine ⟨rfl, ?_⟩)) ⟨Nat.zero_le _, hw, ⟨_, H2, rfl⟩, H3, OA, OI, OR, OO, OX, hxn, fun j x a hx ha => ⟨(HAs.2 j x a hx ha).h, fun h => absurd h (Nat.not_lt_zero _)⟩⟩ ?_
  clear hw H2 H3 OA OI OR OO OX
  rintro ⟨k, ys⟩ wr ⟨hk, hI⟩
  dsimp only at hk hI
  change CW _ _ _ _ [(1, .pointer (some ⟨N1, 0, none⟩)), (2, .pointer (some ⟨N2, 0, none⟩)), (3, .pointer (some ⟨N3, 0, none⟩)), (4, .int .i64 (k : Nat))] wr
  have hzr := hI.b.size
  have hw := Below.refl wr.heap.size wr
  have H3 := hI.h3
  by_cases hlt : k < t.aucs.length
  · have hak : t.aucs[k]? = some (t.aucs[k]'(by omega)) := List.getElem?_eq_getElem _
    generalize t.aucs[k]'(by omega) = a at hak
    obtain ⟨x, hxk, hR⟩ := HAs.at hak
    have hbl := sumX_mem (List.mem_of_getElem? hak)
    have hyk : ys[k]? = some (ys[k]'(by rw [hI.L]; omega)) := List.getElem?_eq_getElem _
    generalize ys[k]'_ = y at hyk
    have hyh := (hI.B k y a hyk hak).1
    obtain ⟨ab, ao, rfl, -, -⟩ := HX9.at (by intro h; rw [h] at hxn; simp at hxn; omega)
    obtain ⟨g, rfl⟩ := own_some hI.X (by omega)
    obtain ⟨xh, ba, bm, bc⟩ := x
    obtain ⟨hh, hm, HB0⟩ := hR
    simp only at hh hm HB0
    subst hh hm
    have HXr := HX.mono hI.b
    have HX9r := HX9.mono hI.b
    have HB := HB0.mono hI.b
    have OXr := hI.X
    rw [← hI.L] at OXr
    obtain ⟨-, hgb, -⟩ := Own.heap' OXr
    repeat' (first | (refine lw_pure rfl (pv_move rfl) ?_) | (refine is_cw ?_; first | (refine cw_seq ?_) | (refine cw_region ?_) | (refine is_cd ?_; refine cw_true rfl (by first | assumption | exact decide_eq_true (by omega) | exact dec_notT (by omega)) ?_) | (refine cw_skip ?_) | (refine cw_block ?_)) | (refine is_qw ?_; first | (with_reducible refine qw_then ?_)) | (refine lw_nil ?_) | ((refine is_bin ?_; first | (refine lw_pure rfl (pv_lss rfl rfl) ?_))) | ((refine is_load ?_; first | (refine lw_pure rfl (pv_load (t1 rfl) rfl (by first | exact PT.ld0 (H3.mono hw) rfl | exact PT.ld (H3.mono hw) rfl)) ?_))) | ((refine is_fa ?_; first | (refine lw_pure rfl (pv_fa (tF rfl) rfl) ?_))) | ((refine is_bi ?_; first | (refine lw_pure rfl (pv_lenl (tS rfl) rfl) ?_))))
    refine cw_drawnF 13 (fun w' => Below wr.heap.size wr w' ∧ True) (by kernel_rfl) (by repeat (first | exact NoPanic.body | with_reducible refine NoPanic.then ?_ | with_reducible refine NoPanic.inBlock ?_)) (fun hNP => ?_)
    have hU := And.intro hw.drew trivial
    first | (refine fw_take 0 rfl (by kernel_rfl) rfl rfl (by kernel_rfl) (by kernel_rfl) (by kernel_rfl) hNP hU rfl (fun w' hq => pv_fa (tF rfl) rfl) ?_)
    first | (refine fw_take 1 rfl (by kernel_rfl) rfl rfl (by kernel_rfl) (by kernel_rfl) (by kernel_rfl) hNP hU rfl (fun w' hq => pv_load (t1 rfl) rfl (by first | exact PT.ld0 hq.2 rfl | exact PT.ld hq.2 rfl)) ?_) | (refine fw_take 1 rfl (by kernel_rfl) rfl rfl (by kernel_rfl) (by kernel_rfl) (by kernel_rfl) hNP hU rfl (fun w' hq => pv_loada (tA rfl) rfl (by first | exact PT.lda hq.2) (by rfl)) ?_) | (refine fw_take 1 rfl (by kernel_rfl) rfl rfl (by kernel_rfl) (by kernel_rfl) (by kernel_rfl) hNP hU rfl (fun w' hq => pv_load (t1 rfl) rfl (by first | exact PT.ld0 (H3.mono hq.1) rfl | exact PT.ld (H3.mono hq.1) rfl | exact PT.ld0 (HXr.mono hq.1) rfl | exact PT.ld (HXr.mono hq.1) rfl | exact SlR.ld (HX9r.mono hq.1) hxk rfl | exact SlR.ld1 (HX9r.mono hq.1) hxk rfl)) ?_) | (refine fw_take 1 rfl (by kernel_rfl) rfl rfl (by kernel_rfl) (by kernel_rfl) (by kernel_rfl) hNP hU rfl (fun w' hq => pv_loada (tA rfl) rfl (by first | exact PT.lda (H3.mono hq.1) | exact PT.lda (HXr.mono hq.1) | exact SlR.lda (HX9r.mono hq.1) hxk) (by rfl)) ?_)
    first | (refine fw_take 2 rfl (by kernel_rfl) rfl rfl (by kernel_rfl) (by kernel_rfl) (by kernel_rfl) hNP hU rfl (fun w' hq => pv_move rfl) ?_)
    first | (refine fw_take 4 rfl (by kernel_rfl) rfl rfl (by kernel_rfl) (by kernel_rfl) (by kernel_rfl) hNP hU rfl (fun w' hq => pv_fa (tF rfl) rfl) ?_)
    first | (refine fw_take 5 rfl (by kernel_rfl) rfl rfl (by kernel_rfl) (by kernel_rfl) (by kernel_rfl) hNP hU rfl (fun w' hq => pv_load (t1 rfl) rfl (by first | exact PT.ld0 hq.2 rfl | exact PT.ld hq.2 rfl)) ?_) | (refine fw_take 5 rfl (by kernel_rfl) rfl rfl (by kernel_rfl) (by kernel_rfl) (by kernel_rfl) hNP hU rfl (fun w' hq => pv_loada (tA rfl) rfl (by first | exact PT.lda hq.2) (by rfl)) ?_) | (refine fw_take 5 rfl (by kernel_rfl) rfl rfl (by kernel_rfl) (by kernel_rfl) (by kernel_rfl) hNP hU rfl (fun w' hq => pv_load (t1 rfl) rfl (by first | exact PT.ld0 (H3.mono hq.1) rfl | exact PT.ld (H3.mono hq.1) rfl | exact PT.ld0 (HXr.mono hq.1) rfl | exact PT.ld (HXr.mono hq.1) rfl | exact SlR.ld (HX9r.mono hq.1) hxk rfl | exact SlR.ld1 (HX9r.mono hq.1) hxk rfl)) ?_) | (refine fw_take 5 rfl (by kernel_rfl) rfl rfl (by kernel_rfl) (by kernel_rfl) (by kernel_rfl) hNP hU rfl (fun w' hq => pv_loada (tA rfl) rfl (by first | exact PT.lda (H3.mono hq.1) | exact PT.lda (HXr.mono hq.1) | exact SlR.lda (HX9r.mono hq.1) hxk) (by rfl)) ?_)
    first | (refine fw_take 6 rfl (by kernel_rfl) rfl rfl (by kernel_rfl) (by kernel_rfl) (by kernel_rfl) hNP hU rfl (fun w' hq => pv_move rfl) ?_)
    first | (refine fw_take 7 rfl (by kernel_rfl) rfl rfl (by kernel_rfl) (by kernel_rfl) (by kernel_rfl) hNP hU rfl (fun w' hq => pv_ian (tS rfl) rfl rfl (by omega)) ?_) | (refine fw_take 7 rfl (by kernel_rfl) rfl rfl (by kernel_rfl) (by kernel_rfl) (by kernel_rfl) hNP hU rfl (fun w' hq => pv_ia (tS rfl) rfl rfl (by omega)) ?_)
    first | (refine fw_take 8 rfl (by kernel_rfl) rfl rfl (by kernel_rfl) (by kernel_rfl) (by kernel_rfl) hNP hU rfl (fun w' hq => pv_fa (tF rfl) rfl) ?_)
    first | (refine fw_take 9 rfl (by kernel_rfl) rfl rfl (by kernel_rfl) (by kernel_rfl) (by kernel_rfl) hNP hU rfl (fun w' hq => pv_load (t1 rfl) rfl (by first | exact PT.ld0 hq.2 rfl | exact PT.ld hq.2 rfl)) ?_) | (refine fw_take 9 rfl (by kernel_rfl) rfl rfl (by kernel_rfl) (by kernel_rfl) (by kernel_rfl) hNP hU rfl (fun w' hq => pv_loada (tA rfl) rfl (by first | exact PT.lda hq.2) (by rfl)) ?_) | (refine fw_take 9 rfl (by kernel_rfl) rfl rfl (by kernel_rfl) (by kernel_rfl) (by kernel_rfl) hNP hU rfl (fun w' hq => pv_load (t1 rfl) rfl (by first | exact PT.ld0 (H3.mono hq.1) rfl | exact PT.ld (H3.mono hq.1) rfl | exact PT.ld0 (HXr.mono hq.1) rfl | exact PT.ld (HXr.mono hq.1) rfl | exact SlR.ld (HX9r.mono hq.1) hxk rfl | exact SlR.ld1 (HX9r.mono hq.1) hxk rfl)) ?_) | (refine fw_take 9 rfl (by kernel_rfl) rfl rfl (by kernel_rfl) (by kernel_rfl) (by kernel_rfl) hNP hU rfl (fun w' hq => pv_loada (tA rfl) rfl (by first | exact PT.lda (H3.mono hq.1) | exact PT.lda (HXr.mono hq.1) | exact SlR.lda (HX9r.mono hq.1) hxk) (by rfl)) ?_)
    refine fw_act 3 (by kernel_rfl) rfl rfl rfl ?_
    refine act_bs0 (base := wn.heap.size) elemD (Nat.le_trans hzr hU.1.size) ?_; intro vE wb hvE hbb; refine ⟨⟨grow_trans hU.1 hbb, trivial⟩, fun hU => ?_⟩
    refine fw_act 10 (by kernel_rfl) rfl rfl rfl ?_
    refine act_app0 (base := wn.heap.size) elemD encD_len encD_one rfl hvE rfl (HB.mono hU.1) rfl (Nat.le_trans hzr hU.1.size) (by omega) (by simp [maxLen]; omega) ?_; intro vb wb hOb hbb; refine ⟨⟨grow_trans hU.1 hbb, trivial⟩, fun hU => ?_⟩
    first | (refine fw_act 11 (by kernel_rfl) rfl rfl rfl ?_; refine act_pv (pv_ian (tS rfl) rfl rfl (by omega)) ?_; refine ⟨hU, fun hU => ?_⟩) | (refine fw_act 11 (by kernel_rfl) rfl rfl rfl ?_; refine act_pv (pv_ia (tS rfl) rfl rfl (by omega)) ?_; refine ⟨hU, fun hU => ?_⟩)
    first | (refine fw_take 12 rfl (by kernel_rfl) rfl rfl (by kernel_rfl) (by kernel_rfl) (by kernel_rfl) hNP hU rfl (fun w' hq => pv_fa (tF rfl) rfl) ?_)
    refine fw_last (by kernel_rfl) rfl rfl rfl rfl (by kernel_rfl) ?_
    obtain ⟨hw, -⟩ := hU; clear hNP
    obtain ⟨bA, bC, rfl⟩ := own_shape encD_len hOb; refine act_storeF (i := k) (f := 8) (a := y) (u := ⟨y.h, bA, a.bids.length, bC⟩) encC_len (tZ rfl) rfl (by omega) rfl rfl (OXr.mono hw) hyk rfl (by omega) ?_; intro wz OX2 hg hz
    repeat' (first | (refine lw_pure rfl (pv_move rfl) ?_) | (refine lw_pure rfl (pv_assign rfl) ?_) | (refine is_cw ?_; first | (refine cw_region ?_)) | (refine is_qw ?_; first | (with_reducible refine qw_then ?_) | (with_reducible refine qw_in ?_)) | (refine lw_nil ?_) | ((refine is_bin ?_; first | (refine lw_pure rfl (pv_inc rfl rfl (by omega)) ?_))))
    have hbz : Below wn.heap.size wn wz := st_hw (grow_trans hI.b hw) hg hgb
    obtain ⟨c2, h2r, h2l⟩ := hI.h2
    have n3 : N3 ≠ g := fun e => own_ne_ptN OXr hI.h3 (by decide) (by rw [e]; rfl)
    have n2 : N2 ≠ g := fun e => own_ne_ptN OXr h2r (by decide) (by rw [e]; rfl)
    have hx : ∀ {α : Type} {enc : α → List Value} {kk : Nat} {T : TypeId} {v : Value} {l : List α}, Own enc kk T wn.heap.size wr v l → T ≠ 44 → Own enc kk T wn.heap.size wz v l := fun h hT => (h.mono hw).kept hg (own_own_ne h OXr hT)
    refine qw_round (k + 1, ys.set k ⟨y.h, bA, a.bids.length, bC⟩) (by repeat' (first | exact trivial | refine ⟨rfl, ?_⟩)) ⟨by show k + 1 ≤ _; omega, hbz, ⟨c2, pt_keptN (h2r.mono hw) hg n2, h2l⟩, pt_keptN (hI.h3.mono hw) hg n3, hx hI.A (by decide), hx hI.I (by decide), hx hI.R (by decide), hx hI.O (by decide), ?_, ?_, ?_⟩ (by show _ - (k + 1) < _ - k; omega)
    · dsimp only; rw [← hI.L]; exact OX2
    · simp [hI.L]
    · intro j x b hx1 hb1
      dsimp only at hx1 ⊢
      rcases Nat.decEq j k with hjk | hjk
      · rw [List.getElem?_set_ne (Ne.symm hjk)] at hx1
        obtain ⟨q1, q2⟩ := hI.B j x b hx1 hb1
        exact ⟨q1, fun hj => hx (q2 (by omega)) (by decide)⟩
      · subst hjk
        rw [hak] at hb1; injection hb1 with hb1; subst hb1
        rw [List.getElem?_set_self (List.getElem?_eq_some_iff.1 hyk).1] at hx1; injection hx1 with hx1; subst hx1
        exact ⟨hyh, fun _ => hOb.kept hg (own_own_ne hOb (OXr.mono hw) (by decide))⟩
  · have hke : k = t.aucs.length := by omega
    subst hke
    repeat' (first | (refine lw_pure rfl (pv_move rfl) ?_) | (refine is_cw ?_; first | (refine cw_seq ?_) | (refine cw_region ?_) | (refine is_cd ?_; refine cw_false rfl (by first | assumption | exact decide_eq_false (by omega) | exact dec_notF (by omega)) ?_) | (refine cw_exit ?_)) | (refine is_qw ?_; first | (with_reducible refine qw_then ?_) | (with_reducible refine qw_in_hit ?_) | (with_reducible refine qw_then_exit ?_)) | (refine lw_nil ?_) | ((refine is_bin ?_; first | (refine lw_pure rfl (pv_lss rfl rfl) ?_))) | ((refine is_load ?_; first | (refine lw_pure rfl (pv_load (t1 rfl) rfl (by first | exact PT.ld0 (H3.mono hw) rfl | exact PT.ld (H3.mono hw) rfl)) ?_) | (refine lw_pure rfl (pv_loada (tA rfl) rfl (by first | exact PT.lda (H3.mono hw)) (by rfl)) ?_))) | ((refine is_fa ?_; first | (refine lw_pure rfl (pv_fa (tF rfl) rfl) ?_))) | ((refine is_bi ?_; first | (refine lw_pure rfl (pv_lenl (tS rfl) rfl) ?_))))
    obtain ⟨c2, h2r, h2l⟩ := hI.h2
    refine lw_storea (vs := [.int .i64 t.clock, .int .i64 t.fee, .int .i64 t.nord, .int .i64 t.nauc, .slice aA t.accs.length cA, .slice aI t.inss.length cI, .slice aR t.rows.length cR, .slice aO t.ords.length cO, .slice aX t.aucs.length cX]) (h2r.mono hw) (tZ rfl) rfl rfl rfl h2l (by simp [Value.oneCell']) ?_; intro wz HZ hg hz
    repeat' (first | (refine is_cw ?_; first | (refine cw_ret ?_)) | (refine is_qw ?_; first | (with_reducible refine qw_then ?_)) | (refine lw_nil ?_))
    have hq : ∀ {α : Type} {enc : α → List Value} {kk : Nat} {T : TypeId} {v : Value} {l : List α}, Own enc kk T wn.heap.size wr v l → T ≠ 30 → Own enc kk T w.heap.size wz v l := fun h hT => ((h.mono hw).kept hg (Or.inr (own_ne_ptN (h.mono hw) (h2r.mono hw) hT))).weaken hE.le
    refine qw_retc rfl rfl (agg_ld (tA rfl) rfl HZ.lda) ⟨⟨aA, cA, aI, cI, aR, cR, aO, cO, aX, cX, ys, rfl, ⟨⟨rfl, rfl, rfl, rfl⟩, hq hI.A (by decide), hq hI.I (by decide), hq hI.R (by decide), hq hI.O (by decide), hq hI.X (by decide), hI.L, fun j x a hx ha => ?_⟩⟩, grow_trans hE.b (st_hw (grow_trans hI.b hw) hg hN2)⟩
    have hj : j < t.aucs.length := (List.getElem?_eq_some_iff.1 ha).1
    obtain ⟨q1, q2⟩ := hI.B j x a hx ha
    exact ⟨q1, hq (q2 hj) (by decide)⟩

theorem neq_Ac (x y : Acc) (w : World) : (binOp .neq 34 (.agg (encA x).toArray) (.agg (encA y).toArray)).run Tryz.prog w = .ok (.bool (!decide (x = y))) w := by
  have hS : (Tryz.prog).underlying 34 = some (.struct ((Tryz.prog).fieldsOf 34)) := by kernel_rfl
  have hp : (Tryz.prog).stoodInHeld 34 = false := by kernel_rfl
  unfold encA
  rw [run_neq_struct, show (10000 : Nat) = 9999 + 1 from rfl, run_equalIn_agg w 9999 34 _ _ hS hp]
  have h : (decide (x = y)) = (x.name.toList == y.name.toList && x.opn == y.opn) := by
    rw [Bool.eq_iff_iff]
    cases x; cases y; simp [beq_str]
  rw [h]
  simp only [Program.fieldsOf, Tryz.underlying34]
  go_simp
  by_cases h1 : x.name.toList = y.name.toList <;> by_cases h2 : x.opn = y.opn <;> simp [*]
theorem eql_Ac (x y : Acc) (w : World) : (binOp .eql 34 (.agg (encA x).toArray) (.agg (encA y).toArray)).run Tryz.prog w = .ok (.bool (decide (x = y))) w := by
  have hS : (Tryz.prog).underlying 34 = some (.struct ((Tryz.prog).fieldsOf 34)) := by kernel_rfl
  have hp : (Tryz.prog).stoodInHeld 34 = false := by kernel_rfl
  unfold encA
  rw [run_eql_struct, show (10000 : Nat) = 9999 + 1 from rfl, run_equalIn_agg w 9999 34 _ _ hS hp]
  have h : (decide (x = y)) = (x.name.toList == y.name.toList && x.opn == y.opn) := by
    rw [Bool.eq_iff_iff]
    cases x; cases y; simp [beq_str]
  rw [h]
  simp only [Program.fieldsOf, Tryz.underlying34]
  go_simp
  by_cases h1 : x.name.toList = y.name.toList <;> by_cases h2 : x.opn = y.opn <;> simp [*]
theorem pv_neqAc {n : Nat} {l : Fr} {w : World} {d : Option Nat} {t' ty : TypeId} {x y : Operand} {pos : String} {af : Array Edge} {g : Option (Nat × Bool)} (a b : Acc) (hx : ev l x = some (.agg (encA a).toArray)) (hy : ev l y = some (.agg (encA b).toArray)) : Pv Tryz.prog n l ⟨d, .binOp .neq 34 x y t', ty, pos, af, g⟩ (.bool (!decide (a = b))) w := ⟨fun A hA => by
  have h1 : (eqGuard .neq 34 x y (.agg (encA a).toArray) (.agg (encA b).toArray)).run Tryz.prog w = .ok () w := run_eqGuard_agg w .neq 34 x y _ _ (by kernel_rfl)
  have h2 := neq_Ac a b w
  simp [execOp, hA.ev hx, hA.ev hy, h1, h2]⟩
theorem pv_eqlAc {n : Nat} {l : Fr} {w : World} {d : Option Nat} {t' ty : TypeId} {x y : Operand} {pos : String} {af : Array Edge} {g : Option (Nat × Bool)} (a b : Acc) (hx : ev l x = some (.agg (encA a).toArray)) (hy : ev l y = some (.agg (encA b).toArray)) : Pv Tryz.prog n l ⟨d, .binOp .eql 34 x y t', ty, pos, af, g⟩ (.bool (decide (a = b))) w := ⟨fun A hA => by
  have h1 : (eqGuard .eql 34 x y (.agg (encA a).toArray) (.agg (encA b).toArray)).run Tryz.prog w = .ok () w := run_eqGuard_agg w .eql 34 x y _ _ (by kernel_rfl)
  have h2 := eql_Ac a b w
  simp [execOp, hA.ev hx, hA.ev hy, h1, h2]⟩

theorem neq_N (x y : Ins) (w : World) : (binOp .neq 37 (.agg (encN x).toArray) (.agg (encN y).toArray)).run Tryz.prog w = .ok (.bool (!decide (x = y))) w := by
  have hS : (Tryz.prog).underlying 37 = some (.struct ((Tryz.prog).fieldsOf 37)) := by kernel_rfl
  have hp : (Tryz.prog).stoodInHeld 37 = false := by kernel_rfl
  unfold encN
  rw [run_neq_struct, show (10000 : Nat) = 9999 + 1 from rfl, run_equalIn_agg w 9999 37 _ _ hS hp]
  have h : (decide (x = y)) = (x.name.toList == y.name.toList && (x.tick == y.tick && x.halt == y.halt)) := by
    rw [Bool.eq_iff_iff]
    cases x; cases y; simp [beq_str]
  rw [h]
  simp only [Program.fieldsOf, Tryz.underlying37]
  go_simp
  by_cases h1 : x.name.toList = y.name.toList <;> by_cases h2 : x.tick = y.tick <;> by_cases h3 : x.halt = y.halt <;> simp [*]
theorem eql_N (x y : Ins) (w : World) : (binOp .eql 37 (.agg (encN x).toArray) (.agg (encN y).toArray)).run Tryz.prog w = .ok (.bool (decide (x = y))) w := by
  have hS : (Tryz.prog).underlying 37 = some (.struct ((Tryz.prog).fieldsOf 37)) := by kernel_rfl
  have hp : (Tryz.prog).stoodInHeld 37 = false := by kernel_rfl
  unfold encN
  rw [run_eql_struct, show (10000 : Nat) = 9999 + 1 from rfl, run_equalIn_agg w 9999 37 _ _ hS hp]
  have h : (decide (x = y)) = (x.name.toList == y.name.toList && (x.tick == y.tick && x.halt == y.halt)) := by
    rw [Bool.eq_iff_iff]
    cases x; cases y; simp [beq_str]
  rw [h]
  simp only [Program.fieldsOf, Tryz.underlying37]
  go_simp
  by_cases h1 : x.name.toList = y.name.toList <;> by_cases h2 : x.tick = y.tick <;> by_cases h3 : x.halt = y.halt <;> simp [*]
theorem pv_neqN {n : Nat} {l : Fr} {w : World} {d : Option Nat} {t' ty : TypeId} {x y : Operand} {pos : String} {af : Array Edge} {g : Option (Nat × Bool)} (a b : Ins) (hx : ev l x = some (.agg (encN a).toArray)) (hy : ev l y = some (.agg (encN b).toArray)) : Pv Tryz.prog n l ⟨d, .binOp .neq 37 x y t', ty, pos, af, g⟩ (.bool (!decide (a = b))) w := ⟨fun A hA => by
  have h1 : (eqGuard .neq 37 x y (.agg (encN a).toArray) (.agg (encN b).toArray)).run Tryz.prog w = .ok () w := run_eqGuard_agg w .neq 37 x y _ _ (by kernel_rfl)
  have h2 := neq_N a b w
  simp [execOp, hA.ev hx, hA.ev hy, h1, h2]⟩
theorem pv_eqlN {n : Nat} {l : Fr} {w : World} {d : Option Nat} {t' ty : TypeId} {x y : Operand} {pos : String} {af : Array Edge} {g : Option (Nat × Bool)} (a b : Ins) (hx : ev l x = some (.agg (encN a).toArray)) (hy : ev l y = some (.agg (encN b).toArray)) : Pv Tryz.prog n l ⟨d, .binOp .eql 37 x y t', ty, pos, af, g⟩ (.bool (decide (a = b))) w := ⟨fun A hA => by
  have h1 : (eqGuard .eql 37 x y (.agg (encN a).toArray) (.agg (encN b).toArray)).run Tryz.prog w = .ok () w := run_eqGuard_agg w .eql 37 x y _ _ (by kernel_rfl)
  have h2 := eql_N a b w
  simp [execOp, hA.ev hx, hA.ev hy, h1, h2]⟩

theorem neq_D (x y : Bid) (w : World) : (binOp .neq 46 (.agg (encD x).toArray) (.agg (encD y).toArray)).run Tryz.prog w = .ok (.bool (!decide (x = y))) w := by
  have hS : (Tryz.prog).underlying 46 = some (.struct ((Tryz.prog).fieldsOf 46)) := by kernel_rfl
  have hp : (Tryz.prog).stoodInHeld 46 = false := by kernel_rfl
  unfold encD
  rw [run_neq_struct, show (10000 : Nat) = 9999 + 1 from rfl, run_equalIn_agg w 9999 46 _ _ hS hp]
  have h : (decide (x = y)) = (x.acct == y.acct && x.amt == y.amt) := by
    rw [Bool.eq_iff_iff]
    cases x; cases y; simp
  rw [h]
  simp only [Program.fieldsOf, Tryz.underlying46]
  go_simp
  by_cases h1 : x.acct = y.acct <;> by_cases h2 : x.amt = y.amt <;> simp [*]
theorem eql_D (x y : Bid) (w : World) : (binOp .eql 46 (.agg (encD x).toArray) (.agg (encD y).toArray)).run Tryz.prog w = .ok (.bool (decide (x = y))) w := by
  have hS : (Tryz.prog).underlying 46 = some (.struct ((Tryz.prog).fieldsOf 46)) := by kernel_rfl
  have hp : (Tryz.prog).stoodInHeld 46 = false := by kernel_rfl
  unfold encD
  rw [run_eql_struct, show (10000 : Nat) = 9999 + 1 from rfl, run_equalIn_agg w 9999 46 _ _ hS hp]
  have h : (decide (x = y)) = (x.acct == y.acct && x.amt == y.amt) := by
    rw [Bool.eq_iff_iff]
    cases x; cases y; simp
  rw [h]
  simp only [Program.fieldsOf, Tryz.underlying46]
  go_simp
  by_cases h1 : x.acct = y.acct <;> by_cases h2 : x.amt = y.amt <;> simp [*]
theorem pv_neqD {n : Nat} {l : Fr} {w : World} {d : Option Nat} {t' ty : TypeId} {x y : Operand} {pos : String} {af : Array Edge} {g : Option (Nat × Bool)} (a b : Bid) (hx : ev l x = some (.agg (encD a).toArray)) (hy : ev l y = some (.agg (encD b).toArray)) : Pv Tryz.prog n l ⟨d, .binOp .neq 46 x y t', ty, pos, af, g⟩ (.bool (!decide (a = b))) w := ⟨fun A hA => by
  have h1 : (eqGuard .neq 46 x y (.agg (encD a).toArray) (.agg (encD b).toArray)).run Tryz.prog w = .ok () w := run_eqGuard_agg w .neq 46 x y _ _ (by kernel_rfl)
  have h2 := neq_D a b w
  simp [execOp, hA.ev hx, hA.ev hy, h1, h2]⟩
theorem pv_eqlD {n : Nat} {l : Fr} {w : World} {d : Option Nat} {t' ty : TypeId} {x y : Operand} {pos : String} {af : Array Edge} {g : Option (Nat × Bool)} (a b : Bid) (hx : ev l x = some (.agg (encD a).toArray)) (hy : ev l y = some (.agg (encD b).toArray)) : Pv Tryz.prog n l ⟨d, .binOp .eql 46 x y t', ty, pos, af, g⟩ (.bool (decide (a = b))) w := ⟨fun A hA => by
  have h1 : (eqGuard .eql 46 x y (.agg (encD a).toArray) (.agg (encD b).toArray)).run Tryz.prog w = .ok () w := run_eqGuard_agg w .eql 46 x y _ _ (by kernel_rfl)
  have h2 := eql_D a b w
  simp [execOp, hA.ev hx, hA.ev hy, h1, h2]⟩

set_option maxRecDepth 20000 in
theorem equal_Ac {p q : List Acc} {m n : Nat} {a b : Option Addr} {ca cb : Nat} {w : World} (hm : p.length = m) (hn : q.length = n) (HP : SlR encA 2 w a ca p) (HQ : SlR encA 2 w b cb q) : Calls Tryz.prog 45 #[.slice a m ca, .slice b n cb] w fun e w' => e = .returned (.bool (decide (p = q))) ∧ Below w.heap.size w w' := by
  subst hm hn
  have hw := Below.refl w.heap.size w
  have hca := HP.le
  have hcm := HP.max
  refine fn_enter 26 Tryz.func45 rfl rfl rfl ?_
  by_cases hl : p.length = q.length
  · repeat' ((fail_if_success (refine is_seqb ?_)); (fail_if_success (refine is_blk ?_)); first | (refine lw_pure rfl (pv_move rfl) ?_) | (refine lw_pure rfl (pv_assign rfl) ?_) | (refine is_cw ?_; first | (refine cw_seq ?_) | (refine cw_region ?_) | (refine is_cd ?_; refine cw_false rfl (by first | assumption | exact decide_eq_false (by omega) | exact dec_notF (by omega)) ?_) | (refine cw_skip ?_)) | (refine is_qw ?_; first | (with_reducible refine qw_then ?_)) | (refine lw_nil ?_) | ((refine is_bin ?_; first | (refine lw_pure rfl (pv_neq rfl rfl) ?_))) | ((refine is_bi ?_; first | (refine lw_pure rfl (pv_lenl (tS rfl) rfl) ?_))))
    repeat' (first | (refine is_cw ?_; first | (refine cw_block ?_)))
    refine cw_loop (σ := Nat) (fun k => [(0, .slice a p.length ca), (1, .slice b q.length cb), (12, .int .i64 (p.length : Nat)), (13, .int .i64 (k : Nat))]) (fun k wr => k ≤ p.length ∧ Below w.heap.size w wr ∧ ∀ j, j < k → p[j]? = q[j]?) (fun k => p.length - k) 0 (by repeat' (first | exact trivial | refine ⟨rfl, ?_⟩)) ⟨Nat.zero_le _, hw, by omega⟩ ?_
    clear hw
    rintro k wr ⟨hk, hw, hn⟩
    by_cases hlt : k < p.length
    · have hxk : p[k]? = some p[k] := List.getElem?_eq_getElem hlt
      have hyk : q[k]? = some (q[k]'(by omega)) := List.getElem?_eq_getElem _
      obtain ⟨ab, ao, rfl, -, -⟩ := HP.at (by intro h; rw [h] at hlt; simp at hlt)
      obtain ⟨bb, bo, rfl, -, -⟩ := HQ.at (by intro h; rw [h] at hl; rw [hl] at hlt; simp at hlt)
      generalize p[k] = x at hxk
      generalize q[k] = y at hyk
      repeat' (first | (refine lw_pure rfl (pv_move rfl) ?_) | (refine lw_pure rfl (pv_assign rfl) ?_) | (refine is_cw ?_; first | (refine cw_seq ?_) | (refine cw_region ?_) | (refine is_cd ?_; refine cw_true rfl (by first | assumption | exact decide_eq_true (by omega) | exact dec_notT (by omega)) ?_) | (refine cw_skip ?_) | (refine cw_block ?_)) | (refine is_qw ?_; first | (with_reducible refine qw_then ?_)) | (refine lw_nil ?_) | ((refine is_bin ?_; first | (refine lw_pure rfl (pv_lss rfl rfl) ?_))))
      refine cw_drawn (fun w' => Below w.heap.size w w') (by kernel_rfl) (by repeat (first | exact NoPanic.body | with_reducible refine NoPanic.then ?_ | with_reducible refine NoPanic.inBlock ?_)) (fun hNP => ?_)
      have hS := hw.drew
      (refine at0 0 rfl (fun w' hq => pv_move rfl) ?_)
      (refine at0 1 rfl (fun w' hq => pv_move rfl) ?_)
      (refine at0 2 rfl (fun w' hq => pv_ian (tS rfl) rfl rfl (by omega)) ?_)
      (refine at0 3 rfl (fun w' hq => pv_loada (tA rfl) rfl (by first | exact SlR.lda (HP.mono hq) hxk | exact SlR.lda (HQ.mono hq) hyk) (by rfl)) ?_)
      (refine at0 4 rfl (fun w' hq => pv_move rfl) ?_)
      (refine at0 5 rfl (fun w' hq => pv_move rfl) ?_)
      (refine at0 6 rfl (fun w' hq => pv_ian (tS rfl) rfl rfl (by omega)) ?_)
      (refine at0 7 rfl (fun w' hq => pv_loada (tA rfl) rfl (by first | exact SlR.lda (HP.mono hq) hxk | exact SlR.lda (HQ.mono hq) hyk) (by rfl)) ?_)
      (refine at0 8 rfl (fun w' hq => pv_neqAc _ _ rfl rfl) ?_)
      refine aw_done (by kernel_rfl) ?_
      replace hw := hS; clear hS hNP
      by_cases hxy : x = y
      · repeat' (first | (refine lw_pure rfl (pv_move rfl) ?_) | (refine is_cw ?_; first | (refine cw_region ?_) | (refine is_cd ?_; refine cw_false rfl (by first | assumption | exact decide_eq_false (by omega) | exact dec_notF (by omega)) ?_) | (refine cw_skip ?_)) | (refine is_qw ?_; first | (with_reducible refine qw_then ?_) | (with_reducible refine qw_in ?_)) | (refine lw_nil ?_) | ((refine is_bin ?_; first | (refine lw_pure rfl (pv_inc rfl rfl (by omega)) ?_))))
        refine qw_round (k + 1) (by repeat' (first | exact trivial | refine ⟨rfl, ?_⟩)) ⟨by omega, hw, ?_⟩ (by omega)
        intro j hj
        by_cases hjk : j = k
        · subst hjk; rw [hxk, hyk, hxy]
        · exact hn j (by omega)
      · repeat' (first | (refine lw_pure rfl (pv_assign rfl) ?_) | (refine is_cw ?_; first | (refine cw_seq ?_) | (refine cw_region ?_) | (refine is_cd ?_; refine cw_true rfl (by first | assumption | exact decide_eq_true (by omega) | exact dec_notT (by omega)) ?_) | (refine cw_ret ?_)) | (refine is_qw ?_; first | (with_reducible refine qw_then ?_) | (with_reducible refine qw_then_ret ?_) | (with_reducible refine qw_in_ret ?_)) | (refine lw_nil ?_))
        refine qw_ret1 rfl rfl ⟨ret_bool ?_, hw⟩
        symm; rw [decide_eq_false_iff_not]; rintro rfl
        rw [hxk] at hyk; injection hyk with hyk; exact hxy hyk
    · have hkl : k = p.length := by omega
      subst hkl
      have he : p = q := List.ext_getElem? fun j => by
        by_cases hj : j < p.length
        · exact hn j hj
        · rw [List.getElem?_eq_none (by omega), List.getElem?_eq_none (by omega)]
      repeat' (first | (refine lw_pure rfl (pv_assign rfl) ?_) | (refine is_cw ?_; first | (refine cw_seq ?_) | (refine cw_region ?_) | (refine is_cd ?_; refine cw_false rfl (by first | assumption | exact decide_eq_false (by omega) | exact dec_notF (by omega)) ?_) | (refine cw_exit ?_) | (refine cw_ret ?_)) | (refine is_qw ?_; first | (with_reducible refine qw_then ?_) | (with_reducible refine qw_in_hit ?_) | (with_reducible refine qw_then_exit ?_)) | (refine lw_nil ?_) | ((refine is_bin ?_; first | (refine lw_pure rfl (pv_lss rfl rfl) ?_))))
      exact qw_ret1 rfl rfl ⟨ret_bool (by simp [he]), hw⟩
  · repeat' (first | (refine lw_pure rfl (pv_move rfl) ?_) | (refine lw_pure rfl (pv_assign rfl) ?_) | (refine is_cw ?_; first | (refine cw_seq ?_) | (refine cw_region ?_) | (refine is_cd ?_; refine cw_true rfl (by first | assumption | exact decide_eq_true (by omega) | exact dec_notT (by omega)) ?_) | (refine cw_ret ?_)) | (refine is_qw ?_; first | (with_reducible refine qw_then ?_) | (with_reducible refine qw_then_ret ?_)) | (refine lw_nil ?_) | ((refine is_bin ?_; first | (refine lw_pure rfl (pv_neq rfl rfl) ?_))) | ((refine is_bi ?_; first | (refine lw_pure rfl (pv_lenl (tS rfl) rfl) ?_))))
    exact qw_ret1 rfl rfl ⟨ret_bool (by symm; rw [decide_eq_false_iff_not]; rintro rfl; exact hl rfl), hw⟩

set_option maxRecDepth 20000 in
theorem equal_N {p q : List Ins} {m n : Nat} {a b : Option Addr} {ca cb : Nat} {w : World} (hm : p.length = m) (hn : q.length = n) (HP : SlR encN 3 w a ca p) (HQ : SlR encN 3 w b cb q) : Calls Tryz.prog 46 #[.slice a m ca, .slice b n cb] w fun e w' => e = .returned (.bool (decide (p = q))) ∧ Below w.heap.size w w' := by
  subst hm hn
  have hw := Below.refl w.heap.size w
  have hca := HP.le
  have hcm := HP.max
  refine fn_enter 26 Tryz.func46 rfl rfl rfl ?_
  by_cases hl : p.length = q.length
  · repeat' ((fail_if_success (refine is_seqb ?_)); (fail_if_success (refine is_blk ?_)); first | (refine lw_pure rfl (pv_move rfl) ?_) | (refine lw_pure rfl (pv_assign rfl) ?_) | (refine is_cw ?_; first | (refine cw_seq ?_) | (refine cw_region ?_) | (refine is_cd ?_; refine cw_false rfl (by first | assumption | exact decide_eq_false (by omega) | exact dec_notF (by omega)) ?_) | (refine cw_skip ?_)) | (refine is_qw ?_; first | (with_reducible refine qw_then ?_)) | (refine lw_nil ?_) | ((refine is_bin ?_; first | (refine lw_pure rfl (pv_neq rfl rfl) ?_))) | ((refine is_bi ?_; first | (refine lw_pure rfl (pv_lenl (tS rfl) rfl) ?_))))
    repeat' (first | (refine is_cw ?_; first | (refine cw_block ?_)))
    refine cw_loop (σ := Nat) (fun k => [(0, .slice a p.length ca), (1, .slice b q.length cb), (12, .int .i64 (p.length : Nat)), (13, .int .i64 (k : Nat))]) (fun k wr => k ≤ p.length ∧ Below w.heap.size w wr ∧ ∀ j, j < k → p[j]? = q[j]?) (fun k => p.length - k) 0 (by repeat' (first | exact trivial | refine ⟨rfl, ?_⟩)) ⟨Nat.zero_le _, hw, by omega⟩ ?_
    clear hw
    rintro k wr ⟨hk, hw, hn⟩
    by_cases hlt : k < p.length
    · have hxk : p[k]? = some p[k] := List.getElem?_eq_getElem hlt
      have hyk : q[k]? = some (q[k]'(by omega)) := List.getElem?_eq_getElem _
      obtain ⟨ab, ao, rfl, -, -⟩ := HP.at (by intro h; rw [h] at hlt; simp at hlt)
      obtain ⟨bb, bo, rfl, -, -⟩ := HQ.at (by intro h; rw [h] at hl; rw [hl] at hlt; simp at hlt)
      generalize p[k] = x at hxk
      generalize q[k] = y at hyk
      repeat' (first | (refine lw_pure rfl (pv_move rfl) ?_) | (refine lw_pure rfl (pv_assign rfl) ?_) | (refine is_cw ?_; first | (refine cw_seq ?_) | (refine cw_region ?_) | (refine is_cd ?_; refine cw_true rfl (by first | assumption | exact decide_eq_true (by omega) | exact dec_notT (by omega)) ?_) | (refine cw_skip ?_) | (refine cw_block ?_)) | (refine is_qw ?_; first | (with_reducible refine qw_then ?_)) | (refine lw_nil ?_) | ((refine is_bin ?_; first | (refine lw_pure rfl (pv_lss rfl rfl) ?_))))
      refine cw_drawn (fun w' => Below w.heap.size w w') (by kernel_rfl) (by repeat (first | exact NoPanic.body | with_reducible refine NoPanic.then ?_ | with_reducible refine NoPanic.inBlock ?_)) (fun hNP => ?_)
      have hS := hw.drew
      (refine at0 0 rfl (fun w' hq => pv_move rfl) ?_)
      (refine at0 1 rfl (fun w' hq => pv_move rfl) ?_)
      (refine at0 2 rfl (fun w' hq => pv_ian (tS rfl) rfl rfl (by omega)) ?_)
      (refine at0 3 rfl (fun w' hq => pv_loada (tA rfl) rfl (by first | exact SlR.lda (HP.mono hq) hxk | exact SlR.lda (HQ.mono hq) hyk) (by rfl)) ?_)
      (refine at0 4 rfl (fun w' hq => pv_move rfl) ?_)
      (refine at0 5 rfl (fun w' hq => pv_move rfl) ?_)
      (refine at0 6 rfl (fun w' hq => pv_ian (tS rfl) rfl rfl (by omega)) ?_)
      (refine at0 7 rfl (fun w' hq => pv_loada (tA rfl) rfl (by first | exact SlR.lda (HP.mono hq) hxk | exact SlR.lda (HQ.mono hq) hyk) (by rfl)) ?_)
      (refine at0 8 rfl (fun w' hq => pv_neqN _ _ rfl rfl) ?_)
      refine aw_done (by kernel_rfl) ?_
      replace hw := hS; clear hS hNP
      by_cases hxy : x = y
      · repeat' (first | (refine lw_pure rfl (pv_move rfl) ?_) | (refine is_cw ?_; first | (refine cw_region ?_) | (refine is_cd ?_; refine cw_false rfl (by first | assumption | exact decide_eq_false (by omega) | exact dec_notF (by omega)) ?_) | (refine cw_skip ?_)) | (refine is_qw ?_; first | (with_reducible refine qw_then ?_) | (with_reducible refine qw_in ?_)) | (refine lw_nil ?_) | ((refine is_bin ?_; first | (refine lw_pure rfl (pv_inc rfl rfl (by omega)) ?_))))
        refine qw_round (k + 1) (by repeat' (first | exact trivial | refine ⟨rfl, ?_⟩)) ⟨by omega, hw, ?_⟩ (by omega)
        intro j hj
        by_cases hjk : j = k
        · subst hjk; rw [hxk, hyk, hxy]
        · exact hn j (by omega)
      · repeat' (first | (refine lw_pure rfl (pv_assign rfl) ?_) | (refine is_cw ?_; first | (refine cw_seq ?_) | (refine cw_region ?_) | (refine is_cd ?_; refine cw_true rfl (by first | assumption | exact decide_eq_true (by omega) | exact dec_notT (by omega)) ?_) | (refine cw_ret ?_)) | (refine is_qw ?_; first | (with_reducible refine qw_then ?_) | (with_reducible refine qw_then_ret ?_) | (with_reducible refine qw_in_ret ?_)) | (refine lw_nil ?_))
        refine qw_ret1 rfl rfl ⟨ret_bool ?_, hw⟩
        symm; rw [decide_eq_false_iff_not]; rintro rfl
        rw [hxk] at hyk; injection hyk with hyk; exact hxy hyk
    · have hkl : k = p.length := by omega
      subst hkl
      have he : p = q := List.ext_getElem? fun j => by
        by_cases hj : j < p.length
        · exact hn j hj
        · rw [List.getElem?_eq_none (by omega), List.getElem?_eq_none (by omega)]
      repeat' (first | (refine lw_pure rfl (pv_assign rfl) ?_) | (refine is_cw ?_; first | (refine cw_seq ?_) | (refine cw_region ?_) | (refine is_cd ?_; refine cw_false rfl (by first | assumption | exact decide_eq_false (by omega) | exact dec_notF (by omega)) ?_) | (refine cw_exit ?_) | (refine cw_ret ?_)) | (refine is_qw ?_; first | (with_reducible refine qw_then ?_) | (with_reducible refine qw_in_hit ?_) | (with_reducible refine qw_then_exit ?_)) | (refine lw_nil ?_) | ((refine is_bin ?_; first | (refine lw_pure rfl (pv_lss rfl rfl) ?_))))
      exact qw_ret1 rfl rfl ⟨ret_bool (by simp [he]), hw⟩
  · repeat' (first | (refine lw_pure rfl (pv_move rfl) ?_) | (refine lw_pure rfl (pv_assign rfl) ?_) | (refine is_cw ?_; first | (refine cw_seq ?_) | (refine cw_region ?_) | (refine is_cd ?_; refine cw_true rfl (by first | assumption | exact decide_eq_true (by omega) | exact dec_notT (by omega)) ?_) | (refine cw_ret ?_)) | (refine is_qw ?_; first | (with_reducible refine qw_then ?_) | (with_reducible refine qw_then_ret ?_)) | (refine lw_nil ?_) | ((refine is_bin ?_; first | (refine lw_pure rfl (pv_neq rfl rfl) ?_))) | ((refine is_bi ?_; first | (refine lw_pure rfl (pv_lenl (tS rfl) rfl) ?_))))
    exact qw_ret1 rfl rfl ⟨ret_bool (by symm; rw [decide_eq_false_iff_not]; rintro rfl; exact hl rfl), hw⟩

set_option maxRecDepth 20000 in
theorem equal_O {p q : List Ord} {m n : Nat} {a b : Option Addr} {ca cb : Nat} {w : World} (hm : p.length = m) (hn : q.length = n) (HP : SlR encO 6 w a ca p) (HQ : SlR encO 6 w b cb q) : Calls Tryz.prog 48 #[.slice a m ca, .slice b n cb] w fun e w' => e = .returned (.bool (decide (p = q))) ∧ Below w.heap.size w w' := by
  subst hm hn
  have hw := Below.refl w.heap.size w
  have hca := HP.le
  have hcm := HP.max
  refine fn_enter 26 Tryz.func48 rfl rfl rfl ?_
  by_cases hl : p.length = q.length
  · repeat' ((fail_if_success (refine is_seqb ?_)); (fail_if_success (refine is_blk ?_)); first | (refine lw_pure rfl (pv_move rfl) ?_) | (refine lw_pure rfl (pv_assign rfl) ?_) | (refine is_cw ?_; first | (refine cw_seq ?_) | (refine cw_region ?_) | (refine is_cd ?_; refine cw_false rfl (by first | assumption | exact decide_eq_false (by omega) | exact dec_notF (by omega)) ?_) | (refine cw_skip ?_)) | (refine is_qw ?_; first | (with_reducible refine qw_then ?_)) | (refine lw_nil ?_) | ((refine is_bin ?_; first | (refine lw_pure rfl (pv_neq rfl rfl) ?_))) | ((refine is_bi ?_; first | (refine lw_pure rfl (pv_lenl (tS rfl) rfl) ?_))))
    repeat' (first | (refine is_cw ?_; first | (refine cw_block ?_)))
    refine cw_loop (σ := Nat) (fun k => [(0, .slice a p.length ca), (1, .slice b q.length cb), (12, .int .i64 (p.length : Nat)), (13, .int .i64 (k : Nat))]) (fun k wr => k ≤ p.length ∧ Below w.heap.size w wr ∧ ∀ j, j < k → p[j]? = q[j]?) (fun k => p.length - k) 0 (by repeat' (first | exact trivial | refine ⟨rfl, ?_⟩)) ⟨Nat.zero_le _, hw, by omega⟩ ?_
    clear hw
    rintro k wr ⟨hk, hw, hn⟩
    by_cases hlt : k < p.length
    · have hxk : p[k]? = some p[k] := List.getElem?_eq_getElem hlt
      have hyk : q[k]? = some (q[k]'(by omega)) := List.getElem?_eq_getElem _
      obtain ⟨ab, ao, rfl, -, -⟩ := HP.at (by intro h; rw [h] at hlt; simp at hlt)
      obtain ⟨bb, bo, rfl, -, -⟩ := HQ.at (by intro h; rw [h] at hl; rw [hl] at hlt; simp at hlt)
      generalize p[k] = x at hxk
      generalize q[k] = y at hyk
      repeat' (first | (refine lw_pure rfl (pv_move rfl) ?_) | (refine lw_pure rfl (pv_assign rfl) ?_) | (refine is_cw ?_; first | (refine cw_seq ?_) | (refine cw_region ?_) | (refine is_cd ?_; refine cw_true rfl (by first | assumption | exact decide_eq_true (by omega) | exact dec_notT (by omega)) ?_) | (refine cw_skip ?_) | (refine cw_block ?_)) | (refine is_qw ?_; first | (with_reducible refine qw_then ?_)) | (refine lw_nil ?_) | ((refine is_bin ?_; first | (refine lw_pure rfl (pv_lss rfl rfl) ?_))))
      refine cw_drawn (fun w' => Below w.heap.size w w') (by kernel_rfl) (by repeat (first | exact NoPanic.body | with_reducible refine NoPanic.then ?_ | with_reducible refine NoPanic.inBlock ?_)) (fun hNP => ?_)
      have hS := hw.drew
      (refine at0 0 rfl (fun w' hq => pv_move rfl) ?_)
      (refine at0 1 rfl (fun w' hq => pv_move rfl) ?_)
      (refine at0 2 rfl (fun w' hq => pv_ian (tS rfl) rfl rfl (by omega)) ?_)
      (refine at0 3 rfl (fun w' hq => pv_loada (tA rfl) rfl (by first | exact SlR.lda (HP.mono hq) hxk | exact SlR.lda (HQ.mono hq) hyk) (by rfl)) ?_)
      (refine at0 4 rfl (fun w' hq => pv_move rfl) ?_)
      (refine at0 5 rfl (fun w' hq => pv_move rfl) ?_)
      (refine at0 6 rfl (fun w' hq => pv_ian (tS rfl) rfl rfl (by omega)) ?_)
      (refine at0 7 rfl (fun w' hq => pv_loada (tA rfl) rfl (by first | exact SlR.lda (HP.mono hq) hxk | exact SlR.lda (HQ.mono hq) hyk) (by rfl)) ?_)
      (refine at0 8 rfl (fun w' hq => pv_neqO _ _ rfl rfl) ?_)
      refine aw_done (by kernel_rfl) ?_
      replace hw := hS; clear hS hNP
      by_cases hxy : x = y
      · repeat' (first | (refine lw_pure rfl (pv_move rfl) ?_) | (refine is_cw ?_; first | (refine cw_region ?_) | (refine is_cd ?_; refine cw_false rfl (by first | assumption | exact decide_eq_false (by omega) | exact dec_notF (by omega)) ?_) | (refine cw_skip ?_)) | (refine is_qw ?_; first | (with_reducible refine qw_then ?_) | (with_reducible refine qw_in ?_)) | (refine lw_nil ?_) | ((refine is_bin ?_; first | (refine lw_pure rfl (pv_inc rfl rfl (by omega)) ?_))))
        refine qw_round (k + 1) (by repeat' (first | exact trivial | refine ⟨rfl, ?_⟩)) ⟨by omega, hw, ?_⟩ (by omega)
        intro j hj
        by_cases hjk : j = k
        · subst hjk; rw [hxk, hyk, hxy]
        · exact hn j (by omega)
      · repeat' (first | (refine lw_pure rfl (pv_assign rfl) ?_) | (refine is_cw ?_; first | (refine cw_seq ?_) | (refine cw_region ?_) | (refine is_cd ?_; refine cw_true rfl (by first | assumption | exact decide_eq_true (by omega) | exact dec_notT (by omega)) ?_) | (refine cw_ret ?_)) | (refine is_qw ?_; first | (with_reducible refine qw_then ?_) | (with_reducible refine qw_then_ret ?_) | (with_reducible refine qw_in_ret ?_)) | (refine lw_nil ?_))
        refine qw_ret1 rfl rfl ⟨ret_bool ?_, hw⟩
        symm; rw [decide_eq_false_iff_not]; rintro rfl
        rw [hxk] at hyk; injection hyk with hyk; exact hxy hyk
    · have hkl : k = p.length := by omega
      subst hkl
      have he : p = q := List.ext_getElem? fun j => by
        by_cases hj : j < p.length
        · exact hn j hj
        · rw [List.getElem?_eq_none (by omega), List.getElem?_eq_none (by omega)]
      repeat' (first | (refine lw_pure rfl (pv_assign rfl) ?_) | (refine is_cw ?_; first | (refine cw_seq ?_) | (refine cw_region ?_) | (refine is_cd ?_; refine cw_false rfl (by first | assumption | exact decide_eq_false (by omega) | exact dec_notF (by omega)) ?_) | (refine cw_exit ?_) | (refine cw_ret ?_)) | (refine is_qw ?_; first | (with_reducible refine qw_then ?_) | (with_reducible refine qw_in_hit ?_) | (with_reducible refine qw_then_exit ?_)) | (refine lw_nil ?_) | ((refine is_bin ?_; first | (refine lw_pure rfl (pv_lss rfl rfl) ?_))))
      exact qw_ret1 rfl rfl ⟨ret_bool (by simp [he]), hw⟩
  · repeat' (first | (refine lw_pure rfl (pv_move rfl) ?_) | (refine lw_pure rfl (pv_assign rfl) ?_) | (refine is_cw ?_; first | (refine cw_seq ?_) | (refine cw_region ?_) | (refine is_cd ?_; refine cw_true rfl (by first | assumption | exact decide_eq_true (by omega) | exact dec_notT (by omega)) ?_) | (refine cw_ret ?_)) | (refine is_qw ?_; first | (with_reducible refine qw_then ?_) | (with_reducible refine qw_then_ret ?_)) | (refine lw_nil ?_) | ((refine is_bin ?_; first | (refine lw_pure rfl (pv_neq rfl rfl) ?_))) | ((refine is_bi ?_; first | (refine lw_pure rfl (pv_lenl (tS rfl) rfl) ?_))))
    exact qw_ret1 rfl rfl ⟨ret_bool (by symm; rw [decide_eq_false_iff_not]; rintro rfl; exact hl rfl), hw⟩

set_option maxRecDepth 20000 in
theorem equal_D {p q : List Bid} {m n : Nat} {a b : Option Addr} {ca cb : Nat} {w : World} (hm : p.length = m) (hn : q.length = n) (HP : SlR encD 2 w a ca p) (HQ : SlR encD 2 w b cb q) : Calls Tryz.prog 80 #[.slice a m ca, .slice b n cb] w fun e w' => e = .returned (.bool (decide (p = q))) ∧ Below w.heap.size w w' := by
  subst hm hn
  have hw := Below.refl w.heap.size w
  have hca := HP.le
  have hcm := HP.max
  refine fn_enter 26 Tryz.func80 rfl rfl rfl ?_
  by_cases hl : p.length = q.length
  · repeat' ((fail_if_success (refine is_seqb ?_)); (fail_if_success (refine is_blk ?_)); first | (refine lw_pure rfl (pv_move rfl) ?_) | (refine lw_pure rfl (pv_assign rfl) ?_) | (refine is_cw ?_; first | (refine cw_seq ?_) | (refine cw_region ?_) | (refine is_cd ?_; refine cw_false rfl (by first | assumption | exact decide_eq_false (by omega) | exact dec_notF (by omega)) ?_) | (refine cw_skip ?_)) | (refine is_qw ?_; first | (with_reducible refine qw_then ?_)) | (refine lw_nil ?_) | ((refine is_bin ?_; first | (refine lw_pure rfl (pv_neq rfl rfl) ?_))) | ((refine is_bi ?_; first | (refine lw_pure rfl (pv_lenl (tS rfl) rfl) ?_))))
    repeat' (first | (refine is_cw ?_; first | (refine cw_block ?_)))
    refine cw_loop (σ := Nat) (fun k => [(0, .slice a p.length ca), (1, .slice b q.length cb), (12, .int .i64 (p.length : Nat)), (13, .int .i64 (k : Nat))]) (fun k wr => k ≤ p.length ∧ Below w.heap.size w wr ∧ ∀ j, j < k → p[j]? = q[j]?) (fun k => p.length - k) 0 (by repeat' (first | exact trivial | refine ⟨rfl, ?_⟩)) ⟨Nat.zero_le _, hw, by omega⟩ ?_
    clear hw
    rintro k wr ⟨hk, hw, hn⟩
    by_cases hlt : k < p.length
    · have hxk : p[k]? = some p[k] := List.getElem?_eq_getElem hlt
      have hyk : q[k]? = some (q[k]'(by omega)) := List.getElem?_eq_getElem _
      obtain ⟨ab, ao, rfl, -, -⟩ := HP.at (by intro h; rw [h] at hlt; simp at hlt)
      obtain ⟨bb, bo, rfl, -, -⟩ := HQ.at (by intro h; rw [h] at hl; rw [hl] at hlt; simp at hlt)
      generalize p[k] = x at hxk
      generalize q[k] = y at hyk
      repeat' (first | (refine lw_pure rfl (pv_move rfl) ?_) | (refine lw_pure rfl (pv_assign rfl) ?_) | (refine is_cw ?_; first | (refine cw_seq ?_) | (refine cw_region ?_) | (refine is_cd ?_; refine cw_true rfl (by first | assumption | exact decide_eq_true (by omega) | exact dec_notT (by omega)) ?_) | (refine cw_skip ?_) | (refine cw_block ?_)) | (refine is_qw ?_; first | (with_reducible refine qw_then ?_)) | (refine lw_nil ?_) | ((refine is_bin ?_; first | (refine lw_pure rfl (pv_lss rfl rfl) ?_))))
      refine cw_drawn (fun w' => Below w.heap.size w w') (by kernel_rfl) (by repeat (first | exact NoPanic.body | with_reducible refine NoPanic.then ?_ | with_reducible refine NoPanic.inBlock ?_)) (fun hNP => ?_)
      have hS := hw.drew
      (refine at0 0 rfl (fun w' hq => pv_move rfl) ?_)
      (refine at0 1 rfl (fun w' hq => pv_move rfl) ?_)
      (refine at0 2 rfl (fun w' hq => pv_ian (tS rfl) rfl rfl (by omega)) ?_)
      (refine at0 3 rfl (fun w' hq => pv_loada (tA rfl) rfl (by first | exact SlR.lda (HP.mono hq) hxk | exact SlR.lda (HQ.mono hq) hyk) (by rfl)) ?_)
      (refine at0 4 rfl (fun w' hq => pv_move rfl) ?_)
      (refine at0 5 rfl (fun w' hq => pv_move rfl) ?_)
      (refine at0 6 rfl (fun w' hq => pv_ian (tS rfl) rfl rfl (by omega)) ?_)
      (refine at0 7 rfl (fun w' hq => pv_loada (tA rfl) rfl (by first | exact SlR.lda (HP.mono hq) hxk | exact SlR.lda (HQ.mono hq) hyk) (by rfl)) ?_)
      (refine at0 8 rfl (fun w' hq => pv_neqD _ _ rfl rfl) ?_)
      refine aw_done (by kernel_rfl) ?_
      replace hw := hS; clear hS hNP
      by_cases hxy : x = y
      · repeat' (first | (refine lw_pure rfl (pv_move rfl) ?_) | (refine is_cw ?_; first | (refine cw_region ?_) | (refine is_cd ?_; refine cw_false rfl (by first | assumption | exact decide_eq_false (by omega) | exact dec_notF (by omega)) ?_) | (refine cw_skip ?_)) | (refine is_qw ?_; first | (with_reducible refine qw_then ?_) | (with_reducible refine qw_in ?_)) | (refine lw_nil ?_) | ((refine is_bin ?_; first | (refine lw_pure rfl (pv_inc rfl rfl (by omega)) ?_))))
        refine qw_round (k + 1) (by repeat' (first | exact trivial | refine ⟨rfl, ?_⟩)) ⟨by omega, hw, ?_⟩ (by omega)
        intro j hj
        by_cases hjk : j = k
        · subst hjk; rw [hxk, hyk, hxy]
        · exact hn j (by omega)
      · repeat' (first | (refine lw_pure rfl (pv_assign rfl) ?_) | (refine is_cw ?_; first | (refine cw_seq ?_) | (refine cw_region ?_) | (refine is_cd ?_; refine cw_true rfl (by first | assumption | exact decide_eq_true (by omega) | exact dec_notT (by omega)) ?_) | (refine cw_ret ?_)) | (refine is_qw ?_; first | (with_reducible refine qw_then ?_) | (with_reducible refine qw_then_ret ?_) | (with_reducible refine qw_in_ret ?_)) | (refine lw_nil ?_))
        refine qw_ret1 rfl rfl ⟨ret_bool ?_, hw⟩
        symm; rw [decide_eq_false_iff_not]; rintro rfl
        rw [hxk] at hyk; injection hyk with hyk; exact hxy hyk
    · have hkl : k = p.length := by omega
      subst hkl
      have he : p = q := List.ext_getElem? fun j => by
        by_cases hj : j < p.length
        · exact hn j hj
        · rw [List.getElem?_eq_none (by omega), List.getElem?_eq_none (by omega)]
      repeat' (first | (refine lw_pure rfl (pv_assign rfl) ?_) | (refine is_cw ?_; first | (refine cw_seq ?_) | (refine cw_region ?_) | (refine is_cd ?_; refine cw_false rfl (by first | assumption | exact decide_eq_false (by omega) | exact dec_notF (by omega)) ?_) | (refine cw_exit ?_) | (refine cw_ret ?_)) | (refine is_qw ?_; first | (with_reducible refine qw_then ?_) | (with_reducible refine qw_in_hit ?_) | (with_reducible refine qw_then_exit ?_)) | (refine lw_nil ?_) | ((refine is_bin ?_; first | (refine lw_pure rfl (pv_lss rfl rfl) ?_))))
      exact qw_ret1 rfl rfl ⟨ret_bool (by simp [he]), hw⟩
  · repeat' (first | (refine lw_pure rfl (pv_move rfl) ?_) | (refine lw_pure rfl (pv_assign rfl) ?_) | (refine is_cw ?_; first | (refine cw_seq ?_) | (refine cw_region ?_) | (refine is_cd ?_; refine cw_true rfl (by first | assumption | exact decide_eq_true (by omega) | exact dec_notT (by omega)) ?_) | (refine cw_ret ?_)) | (refine is_qw ?_; first | (with_reducible refine qw_then ?_) | (with_reducible refine qw_then_ret ?_)) | (refine lw_nil ?_) | ((refine is_bin ?_; first | (refine lw_pure rfl (pv_neq rfl rfl) ?_))) | ((refine is_bi ?_; first | (refine lw_pure rfl (pv_lenl (tS rfl) rfl) ?_))))
    exact qw_ret1 rfl rfl ⟨ret_bool (by symm; rw [decide_eq_false_iff_not]; rintro rfl; exact hl rfl), hw⟩


set_option maxRecDepth 20000 in
set_option maxHeartbeats 4000000 in
theorem asame_c {x y : AucC} {a b : Auc} {w : World} (hx : AuR w x a) (hy : AuR w y b) : Calls Tryz.prog 50 #[.agg (encC x).toArray, .agg (encC y).toArray] w fun e w' => e = .returned (.bool (decide (a = b))) ∧ Below w.heap.size w w' := by
  have hE := Ext.refl w
  have hw := Below.refl w.heap.size w
  obtain ⟨⟨x1, x2, x3, x4, x5, x6, x7, x8⟩, xa, xm, xc⟩ := x; obtain ⟨xh, xs⟩ := a; obtain ⟨e, hm, HA⟩ := hx; simp only at e hm HA; subst e hm; obtain ⟨⟨y1, y2, y3, y4, y5, y6, y7, y8⟩, ya, ym, yc⟩ := y; obtain ⟨yh, ys⟩ := b; obtain ⟨e, hm, HB⟩ := hy; simp only at e hm HB; subst e hm
  refine fn_enter 66 Tryz.func50 rfl rfl rfl ?_
  repeat' (first | (refine is_cw ?_; first | (refine cw_seq ?_) | (refine cw_region ?_)))
  refine lw_boxN rfl rfl (cs := [.int .i64 x1, .int .i64 x2, .int .i64 x3, .bool x4, .int .i64 x5, .int .i64 x6, .int .i64 x7, .int .i64 x8, .slice xa xs.length xc]) rfl ?_; intro N2 wn hN2 HX hb; replace hN2 := Nat.le_trans hw.size hN2; replace hw := grow_trans hw hb; clear hb
  replace hE := hE.mono hw; replace HA := HA.mono hw; replace HB := HB.mono hw; clear hw; have hw := Below.refl wn.heap.size wn
  skip
  refine lw_boxN rfl rfl (cs := [.int .i64 y1, .int .i64 y2, .int .i64 y3, .bool y4, .int .i64 y5, .int .i64 y6, .int .i64 y7, .int .i64 y8, .slice ya ys.length yc]) rfl ?_; intro N3 wn hN3 HY hb; replace hN3 := Nat.le_trans hw.size hN3; replace hw := grow_trans hw hb; clear hb
  replace hE := hE.mono hw; replace HA := HA.mono hw; replace HB := HB.mono hw; replace HX := HX.mono hw; clear hw; have hw := Below.refl wn.heap.size wn
  repeat' (first | (refine lw_pure rfl (pv_move rfl) ?_) | (refine lw_pure rfl (pv_assign rfl) ?_) | (refine lw_call (f := 80) (by kernel_rfl) rfl rfl (equal_D rfl rfl (HA.mono hw) (HB.mono hw)) ?_; rintro e w1 ⟨rfl, hb⟩; refine ⟨_, rfl, ?_⟩; replace hw := grow_trans hw hb; clear hb) | (refine is_cw ?_; first | (refine cw_seq ?_) | (refine cw_region ?_) | (refine cw_ret ?_)) | (refine is_qw ?_; first | (with_reducible refine qw_then ?_)) | (refine lw_nil ?_) | (refine is_guarded ?_; first | (refine lw_not rfl rfl rfl rfl ?_) | (refine lw_on rfl rfl (by first | assumption | exact decide_eq_true (by omega) | exact decide_eq_false (by omega) | exact dec_notT (by omega) | exact dec_notF (by omega)) ?_) | (refine lw_not rfl rfl rfl (by first | assumption | exact decide_eq_true (by omega) | exact decide_eq_false (by omega) | exact dec_notT (by omega) | exact dec_notF (by omega)) ?_) | (refine lw_gs_t rfl rfl rfl (fun hc => ?_) (fun hc => ?_) <;> (first | replace hc := of_decide_eq_true hc | replace hc := of_decide_eq_false hc | replace hc := dec_nT hc | replace hc := dec_nF hc | skip) <;> (try (exfalso; omega)))) | ((refine is_bin ?_; first | (refine lw_pure rfl (pv_eql rfl rfl) ?_) | (refine lw_pure rfl (pv_beql (tBo rfl) rfl rfl) ?_))) | ((refine is_load ?_; first | (refine lw_pure rfl (pv_load (t1 rfl) rfl (by first | exact PT.ld0 (HX.mono hw) rfl | exact PT.ld (HX.mono hw) rfl | exact PT.ld0 (HY.mono hw) rfl | exact PT.ld (HY.mono hw) rfl)) ?_))) | ((refine is_fa ?_; first | (refine lw_pure rfl (pv_fa (tF rfl) rfl) ?_))) | (refine is_pk ?_; refine lw_pure rfl (pv_pick_f rfl rfl rfl) ?_) | (refine is_pk ?_; refine lw_pure rfl (pv_pick_t rfl (by first | assumption | exact decide_eq_true (by omega) | exact dec_notT (by omega)) rfl) ?_) | (refine is_pk ?_; refine lw_pure rfl (pv_pick_f rfl (by first | assumption | exact decide_eq_false (by omega) | exact dec_notF (by omega)) rfl) ?_))
  all_goals
    refine qw_ret1 rfl rfl ⟨ret_bool ?_, (hE.mono hw).b⟩
    simp [*]
set_option maxRecDepth 20000 in
set_option maxHeartbeats 4000000 in
theorem rasame_c {x y : AucC} {a b : Auc} {w : World} (hx : AuR w x a) (hy : AuR w y b) : Calls Tryz.prog 53 #[.agg (encC x).toArray, .agg (encC y).toArray] w fun e w' => e = .returned (.bool (decide (a = b))) ∧ Below w.heap.size w w' := by
  have hE := Ext.refl w
  have hw := Below.refl w.heap.size w
  obtain ⟨⟨x1, x2, x3, x4, x5, x6, x7, x8⟩, xa, xm, xc⟩ := x; obtain ⟨xh, xs⟩ := a; obtain ⟨e, hm, HA⟩ := hx; simp only at e hm HA; subst e hm; obtain ⟨⟨y1, y2, y3, y4, y5, y6, y7, y8⟩, ya, ym, yc⟩ := y; obtain ⟨yh, ys⟩ := b; obtain ⟨e, hm, HB⟩ := hy; simp only at e hm HB; subst e hm
  have hca := HA.le
  have hcm := HA.max
  refine fn_enter 87 Tryz.func53 rfl rfl rfl ?_
  repeat' (first | (refine is_cw ?_; first | (refine cw_seq ?_) | (refine cw_region ?_)))
  refine lw_boxN rfl rfl (cs := [.int .i64 x1, .int .i64 x2, .int .i64 x3, .bool x4, .int .i64 x5, .int .i64 x6, .int .i64 x7, .int .i64 x8, .slice xa xs.length xc]) rfl ?_; intro N2 wn hN2 HX hb; replace hN2 := Nat.le_trans hw.size hN2; replace hw := grow_trans hw hb; clear hb
  replace hE := hE.mono hw; replace HA := HA.mono hw; replace HB := HB.mono hw; clear hw; have hw := Below.refl wn.heap.size wn
  skip
  refine lw_boxN rfl rfl (cs := [.int .i64 y1, .int .i64 y2, .int .i64 y3, .bool y4, .int .i64 y5, .int .i64 y6, .int .i64 y7, .int .i64 y8, .slice ya ys.length yc]) rfl ?_; intro N3 wn hN3 HY hb; replace hN3 := Nat.le_trans hw.size hN3; replace hw := grow_trans hw hb; clear hb
  replace hE := hE.mono hw; replace HA := HA.mono hw; replace HB := HB.mono hw; replace HX := HX.mono hw; clear hw; have hw := Below.refl wn.heap.size wn
  repeat' (first | (refine lw_pure rfl (pv_move rfl) ?_) | (refine lw_pure rfl (pv_assign rfl) ?_) | (refine is_cw ?_; first | (refine cw_seq ?_) | (refine cw_region ?_) | (refine cw_true rfl rfl ?_) | (refine cw_skip ?_) | (refine cw_block ?_) | (refine cw_ret ?_)) | (refine is_qw ?_; first | (with_reducible refine qw_then ?_) | (with_reducible refine qw_then_ret ?_)) | (refine lw_nil ?_) | (refine is_guarded ?_; first | (refine lw_not rfl rfl rfl rfl ?_) | (refine lw_on rfl rfl (by first | assumption | exact decide_eq_true (by omega) | exact decide_eq_false (by omega) | exact dec_notT (by omega) | exact dec_notF (by omega)) ?_) | (refine lw_not rfl rfl rfl (by first | assumption | exact decide_eq_true (by omega) | exact decide_eq_false (by omega) | exact dec_notT (by omega) | exact dec_notF (by omega)) ?_) | (refine lw_gs_f rfl rfl rfl (fun hc => ?_) (fun hc => ?_) <;> (first | replace hc := of_decide_eq_true hc | replace hc := of_decide_eq_false hc | replace hc := dec_nT hc | replace hc := dec_nF hc | skip) <;> (try (exfalso; omega)))) | ((refine is_bin ?_; first | (refine lw_pure rfl (pv_neq rfl rfl) ?_) | (refine lw_pure rfl (pv_bneq (tBo rfl) rfl rfl) ?_))) | ((refine is_load ?_; first | (refine lw_pure rfl (pv_load (t1 rfl) rfl (by first | exact PT.ld0 (HX.mono hw) rfl | exact PT.ld (HX.mono hw) rfl | exact PT.ld0 (HY.mono hw) rfl | exact PT.ld (HY.mono hw) rfl)) ?_))) | ((refine is_fa ?_; first | (refine lw_pure rfl (pv_fa (tF rfl) rfl) ?_))) | ((refine is_bi ?_; first | (refine lw_pure rfl (pv_lenl (tS rfl) rfl) ?_))) | (refine is_pk ?_; refine lw_pure rfl (pv_pick_t rfl rfl rfl) ?_) | (refine is_pk ?_; refine lw_pure rfl (pv_pick_t rfl (by first | assumption | exact decide_eq_true (by omega) | exact dec_notT (by omega)) rfl) ?_) | (refine is_pk ?_; refine lw_pure rfl (pv_pick_f rfl (by first | assumption | exact decide_eq_false (by omega) | exact dec_notF (by omega)) rfl) ?_) | (refine is_cw ?_; refine cw_split rfl (fun hc => ?_) (fun hc => ?_) <;> (first | replace hc := of_decide_eq_true hc | replace hc := of_decide_eq_false hc | replace hc := dec_nT hc | replace hc := dec_nF hc | skip) <;> (try (exfalso; omega))))
  any_goals (refine qw_ret1 rfl rfl ⟨ret_bool ?_, (hE.mono hw).b⟩; first | (simp [*]; done) | (symm; rw [decide_eq_false_iff_not]; intro e; injection e with e1 e2; subst e2; omega))
  have hl : xs.length = ys.length := by omega
  have hq : decide ((⟨⟨x1, x2, x3, x4, x5, x6, x7, x8⟩, xs⟩ : Auc) = ⟨⟨y1, y2, y3, y4, y5, y6, y7, y8⟩, ys⟩) = decide (xs = ys) := by simp [*]
  rw [hq]
  refine cw_loop (σ := Nat) (fun k => [(2, .pointer (some ⟨N2, 0, none⟩)), (3, .pointer (some ⟨N3, 0, none⟩)), (5, .int .i64 (k : Nat))]) (fun k wr => k ≤ xs.length ∧ Below wn.heap.size wn wr ∧ ∀ j, j < k → xs[j]? = ys[j]?) (fun k => xs.length - k) 0 (by repeat' (first | exact trivial | refine ⟨rfl, ?_⟩)) ⟨Nat.zero_le _, hw, by omega⟩ ?_
  clear hw
  rintro k wr ⟨hk, hw, hn⟩
  by_cases hlt : k < xs.length
  · have hxk : xs[k]? = some xs[k] := List.getElem?_eq_getElem hlt
    have hyk : ys[k]? = some (ys[k]'(by omega)) := List.getElem?_eq_getElem _
    obtain ⟨ab, ao, rfl, -, -⟩ := HA.at (by intro h; rw [h] at hlt; simp at hlt)
    obtain ⟨bb, bo, rfl, -, -⟩ := HB.at (by intro h; rw [h] at hl; rw [hl] at hlt; simp at hlt)
    generalize xs[k] = x at hxk
    generalize ys[k] = y at hyk
    repeat' (first | (refine lw_pure rfl (pv_move rfl) ?_) | (refine is_cw ?_; first | (refine cw_seq ?_) | (refine cw_region ?_) | (refine is_cd ?_; refine cw_true rfl (by first | assumption | exact decide_eq_true (by omega) | exact dec_notT (by omega)) ?_) | (refine cw_skip ?_) | (refine cw_block ?_)) | (refine is_qw ?_; first | (with_reducible refine qw_then ?_)) | (refine lw_nil ?_) | ((refine is_bin ?_; first | (refine lw_pure rfl (pv_lss rfl rfl) ?_))) | ((refine is_load ?_; first | (refine lw_pure rfl (pv_load (t1 rfl) rfl (by first | exact PT.ld0 (HX.mono hw) rfl | exact PT.ld (HX.mono hw) rfl | exact PT.ld0 (HY.mono hw) rfl | exact PT.ld (HY.mono hw) rfl)) ?_))) | ((refine is_fa ?_; first | (refine lw_pure rfl (pv_fa (tF rfl) rfl) ?_))) | ((refine is_bi ?_; first | (refine lw_pure rfl (pv_lenl (tS rfl) rfl) ?_))))
    refine cw_drawn (fun w' => Below wn.heap.size wn w') (by kernel_rfl) (by repeat (first | exact NoPanic.body | with_reducible refine NoPanic.then ?_ | with_reducible refine NoPanic.inBlock ?_)) (fun hNP => ?_)
    have hS := hw.drew
    (refine at0 0 rfl (fun w' hq => pv_fa (tF rfl) rfl) ?_)
    (refine at0 1 rfl (fun w' hq => pv_load (t1 rfl) rfl (by first | exact PT.ld0 (HX.mono hq) rfl | exact PT.ld (HX.mono hq) rfl | exact PT.ld0 (HY.mono hq) rfl | exact PT.ld (HY.mono hq) rfl | exact SlR.ld (HA.mono hq) hxk rfl | exact SlR.ld1 (HA.mono hq) hxk rfl | exact SlR.ld (HB.mono hq) hyk rfl | exact SlR.ld1 (HB.mono hq) hyk rfl)) ?_)
    (refine at0 2 rfl (fun w' hq => pv_move rfl) ?_)
    (refine at0 3 rfl (fun w' hq => pv_ian (tS rfl) rfl rfl (by omega)) ?_)
    (refine at0 4 rfl (fun w' hq => pv_loada (tA rfl) rfl (by first | exact PT.lda (HX.mono hq) | exact PT.lda (HY.mono hq) | exact SlR.lda (HA.mono hq) hxk | exact SlR.lda (HB.mono hq) hyk) (by rfl)) ?_)
    (refine at0 5 rfl (fun w' hq => pv_fa (tF rfl) rfl) ?_)
    (refine at0 6 rfl (fun w' hq => pv_load (t1 rfl) rfl (by first | exact PT.ld0 (HX.mono hq) rfl | exact PT.ld (HX.mono hq) rfl | exact PT.ld0 (HY.mono hq) rfl | exact PT.ld (HY.mono hq) rfl | exact SlR.ld (HA.mono hq) hxk rfl | exact SlR.ld1 (HA.mono hq) hxk rfl | exact SlR.ld (HB.mono hq) hyk rfl | exact SlR.ld1 (HB.mono hq) hyk rfl)) ?_)
    (refine at0 7 rfl (fun w' hq => pv_move rfl) ?_)
    (refine at0 8 rfl (fun w' hq => pv_ian (tS rfl) rfl rfl (by omega)) ?_)
    (refine at0 9 rfl (fun w' hq => pv_loada (tA rfl) rfl (by first | exact PT.lda (HX.mono hq) | exact PT.lda (HY.mono hq) | exact SlR.lda (HA.mono hq) hxk | exact SlR.lda (HB.mono hq) hyk) (by rfl)) ?_)
    (refine at0 10 rfl (fun w' hq => pv_neqD _ _ rfl rfl) ?_)
    refine aw_done (by kernel_rfl) ?_
    replace hw := hS; clear hS hNP
    by_cases hxy : x = y
    · repeat' (first | (refine lw_pure rfl (pv_move rfl) ?_) | (refine lw_pure rfl (pv_assign rfl) ?_) | (refine is_cw ?_; first | (refine cw_region ?_) | (refine is_cd ?_; refine cw_false rfl (by first | assumption | exact decide_eq_false (by omega) | exact dec_notF (by omega)) ?_) | (refine cw_skip ?_)) | (refine is_qw ?_; first | (with_reducible refine qw_then ?_) | (with_reducible refine qw_in ?_)) | (refine lw_nil ?_) | ((refine is_bin ?_; first | (refine lw_pure rfl (pv_inc rfl rfl (by omega)) ?_))))
      refine qw_round (k + 1) (by repeat' (first | exact trivial | refine ⟨rfl, ?_⟩)) ⟨by omega, hw, ?_⟩ (by omega)
      intro j hj
      by_cases hjk : j = k
      · subst hjk; rw [hxk, hyk, hxy]
      · exact hn j (by omega)
    · repeat' (first | (refine lw_pure rfl (pv_assign rfl) ?_) | (refine is_cw ?_; first | (refine cw_seq ?_) | (refine cw_region ?_) | (refine is_cd ?_; refine cw_true rfl (by first | assumption | exact decide_eq_true (by omega) | exact dec_notT (by omega)) ?_) | (refine cw_ret ?_)) | (refine is_qw ?_; first | (with_reducible refine qw_then ?_) | (with_reducible refine qw_then_ret ?_) | (with_reducible refine qw_in_ret ?_)) | (refine lw_nil ?_))
      refine qw_ret1 rfl rfl ⟨ret_bool ?_, (hE.mono hw).b⟩
      symm; rw [decide_eq_false_iff_not]; rintro rfl
      rw [hxk] at hyk; injection hyk with hyk; exact hxy hyk
  · have hkl : k = xs.length := by omega
    subst hkl
    have he : xs = ys := List.ext_getElem? fun j => by
      by_cases hj : j < xs.length
      · exact hn j hj
      · rw [List.getElem?_eq_none (by omega), List.getElem?_eq_none (by omega)]
    repeat' (first | (refine lw_pure rfl (pv_move rfl) ?_) | (refine lw_pure rfl (pv_assign rfl) ?_) | (refine is_cw ?_; first | (refine cw_seq ?_) | (refine cw_region ?_) | (refine is_cd ?_; refine cw_false rfl (by first | assumption | exact decide_eq_false (by omega) | exact dec_notF (by omega)) ?_) | (refine cw_exit ?_) | (refine cw_ret ?_)) | (refine is_qw ?_; first | (with_reducible refine qw_then ?_) | (with_reducible refine qw_in_hit ?_) | (with_reducible refine qw_then_exit ?_)) | (refine lw_nil ?_) | ((refine is_bin ?_; first | (refine lw_pure rfl (pv_lss rfl rfl) ?_))) | ((refine is_load ?_; first | (refine lw_pure rfl (pv_load (t1 rfl) rfl (by first | exact PT.ld0 (HX.mono hw) rfl | exact PT.ld (HX.mono hw) rfl | exact PT.ld0 (HY.mono hw) rfl | exact PT.ld (HY.mono hw) rfl)) ?_))) | ((refine is_fa ?_; first | (refine lw_pure rfl (pv_fa (tF rfl) rfl) ?_))) | ((refine is_bi ?_; first | (refine lw_pure rfl (pv_lenl (tS rfl) rfl) ?_))))
    exact qw_ret1 rfl rfl ⟨ret_bool (by simp [he]), (hE.mono hw).b⟩
theorem aus_ext {us vs : List Auc} (hl : us.length = vs.length) (h : ∀ (j : Nat) a b, us[j]? = some a → vs[j]? = some b → a = b) : us = vs := List.ext_getElem? fun j => by
  by_cases hj : j < us.length
  · rw [List.getElem?_eq_getElem hj, List.getElem?_eq_getElem (hl ▸ hj)]
    exact congrArg some (h j _ _ (List.getElem?_eq_getElem hj) (List.getElem?_eq_getElem (hl ▸ hj)))
  · rw [List.getElem?_eq_none (by omega), List.getElem?_eq_none (by omega)]
set_option maxRecDepth 20000 in
set_option maxHeartbeats 1000000 in
theorem asames_c {p q : List AucC} {us vs : List Auc} {m n : Nat} {a b : Option Addr} {ca cb : Nat} {w : World} (hm : us.length = m) (hn : vs.length = n) (HP : SlR encC 9 w a ca p) (HQ : SlR encC 9 w b cb q) (hP : AusR w p us) (hQ : AusR w q vs) : Calls Tryz.prog 49 #[.slice a m ca, .slice b n cb, .func (.func 50) #[] #[]] w fun e w' => e = .returned (.bool (decide (us = vs))) ∧ Below w.heap.size w w' := by
  subst hm hn
  have hw := Below.refl w.heap.size w
  have hca := HP.le
  have hcm := HP.max
  have hpn := hP.1
  have hqn := hQ.1
  refine fn_enter 32 Tryz.func49 rfl rfl rfl ?_
  by_cases hl : us.length = vs.length
  · repeat' ((fail_if_success (refine is_seqb ?_)); (fail_if_success (refine is_blk ?_)); first | (refine lw_pure rfl (pv_move rfl) ?_) | (refine lw_pure rfl (pv_assign rfl) ?_) | (refine is_cw ?_; first | (refine cw_seq ?_) | (refine cw_region ?_) | (refine is_cd ?_; refine cw_false rfl (by first | assumption | exact decide_eq_false (by omega) | exact dec_notF (by omega)) ?_) | (refine cw_skip ?_)) | (refine is_qw ?_; first | (with_reducible refine qw_then ?_)) | (refine lw_nil ?_) | ((refine is_bin ?_; first | (refine lw_pure rfl (pv_neq rfl rfl) ?_))) | ((refine is_bi ?_; first | (refine lw_pure rfl (pv_lenl (tS rfl) rfl) ?_))))
    repeat' (first | (refine is_cw ?_; first | (refine cw_block ?_)))
    refine cw_loop (σ := Nat) (fun k => [(1, .slice b vs.length cb), (2, .func (.func 50) #[] #[]), (15, .slice a us.length ca), (16, .int .i64 (us.length : Nat)), (17, .int .i64 (k : Nat))]) (fun k wr => k ≤ us.length ∧ Below w.heap.size w wr ∧ ∀ (j : Nat) x y, j < k → us[j]? = some x → vs[j]? = some y → x = y) (fun k => us.length - k) 0 (by repeat' (first | exact trivial | refine ⟨rfl, ?_⟩)) ⟨Nat.zero_le _, hw, by omega⟩ ?_
    clear hw
    rintro k wr ⟨hk, hw, hn⟩
    by_cases hlt : k < us.length
    · have huk : us[k]? = some us[k] := List.getElem?_eq_getElem hlt
      have hvk : vs[k]? = some (vs[k]'(by omega)) := List.getElem?_eq_getElem _
      generalize us[k] = u at huk
      generalize vs[k]'_ = v at hvk
      obtain ⟨x, hxk, hR⟩ := hP.at huk
      obtain ⟨y, hyk, hT⟩ := hQ.at hvk
      obtain ⟨ab, ao, rfl, -, -⟩ := HP.at (by intro h; rw [h] at hxk; simp at hxk)
      obtain ⟨bb, bo, rfl, -, -⟩ := HQ.at (by intro h; rw [h] at hyk; simp at hyk)
      repeat' (first | (refine lw_pure rfl (pv_move rfl) ?_) | (refine is_cw ?_; first | (refine cw_seq ?_) | (refine cw_region ?_) | (refine is_cd ?_; refine cw_true rfl (by first | assumption | exact decide_eq_true (by omega) | exact dec_notT (by omega)) ?_) | (refine cw_skip ?_) | (refine cw_block ?_)) | (refine is_qw ?_; first | (with_reducible refine qw_then ?_)) | (refine lw_nil ?_) | ((refine is_bin ?_; first | (refine lw_pure rfl (pv_lss rfl rfl) ?_))) | ((refine is_load ?_; first | (refine lw_pure rfl (pv_loada (tA rfl) rfl (by first | exact SlR.lda (HP.mono hw) hxk) (by rfl)) ?_))) | ((refine is_ia ?_; first | (refine lw_pure rfl (pv_ian (tS rfl) rfl rfl (by omega)) ?_))))
      refine lw_allocN rfl (by first | exact tyv_29 | exact tyv_30 | exact tyv_33 | exact tyv_34 | exact tyv_36 | exact tyv_37 | exact tyv_38 | exact tyv_39 | exact tyv_40 | exact tyv_41 | exact tyv_43 | exact tyv_44 | exact tyv_45 | exact tyv_46 | exact tyv_73 | exact tyv_74 | exact tyv_80 | exact tyv_81 | exact tyv_107 | exact tyv_108 | exact tyv_123 | exact tyv_146 | exact tyv_147 | exact tyv_148 | exact tyv_149) rfl ?_; intro N8 wn hN8 H8 hb; replace hN8 := Nat.le_trans hw.size hN8; replace hw := grow_trans hw hb; clear hb
      repeat' (first | (refine lw_pure rfl (pv_assign rfl) ?_))
      refine lw_storea (vs := encC x) H8 (tZ rfl) rfl rfl rfl rfl (encC_one _) ?_; intro w8 H8 hg hz
      replace hw := st_hw hw hg hN8
      clear hg hz
      repeat' (first | (refine lw_pure rfl (pv_move rfl) ?_) | (refine is_cw ?_; first | (refine cw_seq ?_) | (refine cw_region ?_)) | (refine is_qw ?_; first | (with_reducible refine qw_then ?_)) | (refine lw_nil ?_) | ((refine is_load ?_; first | (refine lw_pure rfl (pv_loada (tA rfl) rfl (by first | exact SlR.lda (HQ.mono hw) hyk) (by rfl)) ?_))) | ((refine is_ia ?_; first | (refine lw_pure rfl (pv_ian (tS rfl) rfl rfl (by omega)) ?_))))
      refine lw_varN rfl (by first | exact tyv_29 | exact tyv_30 | exact tyv_33 | exact tyv_34 | exact tyv_36 | exact tyv_37 | exact tyv_38 | exact tyv_39 | exact tyv_40 | exact tyv_41 | exact tyv_43 | exact tyv_44 | exact tyv_45 | exact tyv_46 | exact tyv_73 | exact tyv_74 | exact tyv_80 | exact tyv_81 | exact tyv_107 | exact tyv_108 | exact tyv_123 | exact tyv_146 | exact tyv_147 | exact tyv_148 | exact tyv_149) rfl (tZ rfl) (fun _ => rfl) rfl rfl ?_; intro N9 w9 hN9 H9 hb
      replace H9 : PT w9 N9 44 (encC y) := H9
      replace H8 := H8.mono hb
      replace hw := grow_trans hw hb
      clear hb
      repeat' (first | (refine lw_pure rfl (pv_move rfl) ?_) | (refine is_cw ?_; first | (refine cw_seq ?_) | (refine cw_region ?_)) | (refine is_qw ?_; first | (with_reducible refine qw_then ?_)) | (refine lw_nil ?_) | ((refine is_load ?_; first | (refine lw_pure rfl (pv_loada (tA rfl) rfl (by first | exact PT.lda H8 | exact PT.lda H9) (by rfl)) ?_))))
      refine lw_callv (f := 50) rfl (by kernel_rfl) rfl rfl (asame_c (hR.mono hw) (hT.mono hw)) ?_; rintro e w1 ⟨rfl, hb⟩; refine ⟨_, rfl, ?_⟩; replace hw := grow_trans hw hb; clear hb
      by_cases hxy : u = v
      · rw [decide_eq_true hxy]
        repeat' (first | (refine lw_pure rfl (pv_move rfl) ?_) | (refine is_cw ?_; first | (refine cw_region ?_) | (refine cw_false rfl rfl ?_) | (refine cw_skip ?_)) | (refine is_qw ?_; first | (with_reducible refine qw_then ?_) | (with_reducible refine qw_in ?_)) | (refine lw_nil ?_) | ((refine is_bin ?_; first | (refine lw_pure rfl (pv_inc rfl rfl (by omega)) ?_))) | ((refine is_un ?_; first | (refine lw_pure rfl (pv_not rfl) ?_))))
        refine qw_round (k + 1) (by repeat' (first | exact trivial | refine ⟨rfl, ?_⟩)) ⟨by omega, hw, ?_⟩ (by omega)
        intro j x y hj h1 h2
        by_cases hjk : j = k
        · subst hjk
          rw [huk] at h1; rw [hvk] at h2
          injection h1 with h1; injection h2 with h2
          rw [← h1, ← h2, hxy]
        · exact hn j x y (by omega) h1 h2
      · rw [decide_eq_false hxy]
        repeat' (first | (refine lw_pure rfl (pv_assign rfl) ?_) | (refine is_cw ?_; first | (refine cw_seq ?_) | (refine cw_region ?_) | (refine cw_true rfl rfl ?_) | (refine cw_ret ?_)) | (refine is_qw ?_; first | (with_reducible refine qw_then ?_) | (with_reducible refine qw_then_ret ?_) | (with_reducible refine qw_in_ret ?_)) | (refine lw_nil ?_) | ((refine is_un ?_; first | (refine lw_pure rfl (pv_not rfl) ?_))))
        refine qw_ret1 rfl rfl ⟨ret_bool ?_, hw⟩
        symm; rw [decide_eq_false_iff_not]; rintro rfl
        rw [huk] at hvk; injection hvk with hvk; exact hxy hvk
    · have hkl : k = us.length := by omega
      subst hkl
      have he : us = vs := aus_ext hl fun j x y h1 h2 => hn j x y (List.getElem?_eq_some_iff.1 h1).1 h1 h2
      repeat' (first | (refine lw_pure rfl (pv_assign rfl) ?_) | (refine is_cw ?_; first | (refine cw_seq ?_) | (refine cw_region ?_) | (refine is_cd ?_; refine cw_false rfl (by first | assumption | exact decide_eq_false (by omega) | exact dec_notF (by omega)) ?_) | (refine cw_exit ?_) | (refine cw_ret ?_)) | (refine is_qw ?_; first | (with_reducible refine qw_then ?_) | (with_reducible refine qw_in_hit ?_) | (with_reducible refine qw_then_exit ?_)) | (refine lw_nil ?_) | ((refine is_bin ?_; first | (refine lw_pure rfl (pv_lss rfl rfl) ?_))))
      exact qw_ret1 rfl rfl ⟨ret_bool (by simp [he]), hw⟩
  · repeat' (first | (refine lw_pure rfl (pv_move rfl) ?_) | (refine lw_pure rfl (pv_assign rfl) ?_) | (refine is_cw ?_; first | (refine cw_seq ?_) | (refine cw_region ?_) | (refine is_cd ?_; refine cw_true rfl (by first | assumption | exact decide_eq_true (by omega) | exact dec_notT (by omega)) ?_) | (refine cw_ret ?_)) | (refine is_qw ?_; first | (with_reducible refine qw_then ?_) | (with_reducible refine qw_then_ret ?_)) | (refine lw_nil ?_) | ((refine is_bin ?_; first | (refine lw_pure rfl (pv_neq rfl rfl) ?_))) | ((refine is_bi ?_; first | (refine lw_pure rfl (pv_lenl (tS rfl) rfl) ?_))))
    exact qw_ret1 rfl rfl ⟨ret_bool (by symm; rw [decide_eq_false_iff_not]; rintro rfl; exact hl rfl), hw⟩

theorem stt_eq {t u : Stt} : decide (t = u) = (decide (t.clock = u.clock) && (decide (t.fee = u.fee) && (decide (t.nord = u.nord) && (decide (t.nauc = u.nauc) && (decide (t.accs = u.accs) && (decide (t.inss = u.inss) && (decide (t.rows = u.rows) && (decide (t.ords = u.ords) && decide (t.aucs = u.aucs))))))))) := by
  cases t; cases u; simp [Bool.decide_and]
theorem len_ne {α : Type} [DecidableEq α] {l m : List α} (h : ¬ l.length = m.length) : decide (l = m) = false := decide_eq_false fun e => h (by rw [e])
theorem all_ext {α : Type} {us vs : List α} (hl : us.length = vs.length) (h : ∀ (j : Nat) a b, us[j]? = some a → vs[j]? = some b → a = b) : us = vs := List.ext_getElem? fun j => by
  by_cases hj : j < us.length
  · rw [List.getElem?_eq_getElem hj, List.getElem?_eq_getElem (hl ▸ hj)]
    exact congrArg some (h j _ _ (List.getElem?_eq_getElem hj) (List.getElem?_eq_getElem (hl ▸ hj)))
  · rw [List.getElem?_eq_none (by omega), List.getElem?_eq_none (by omega)]
set_option maxRecDepth 20000 in
set_option maxHeartbeats 4000000 in
theorem same_S {s s' : SttC} {t u : Stt} {w : World} (hS : StR w s t) (hT : StR w s' u) : Calls Tryz.prog 20 #[(.agg (encS s).toArray), (.agg (encS s').toArray)] w fun e w' => e = .returned (.bool (decide (t = u))) ∧ Below w.heap.size w w' := by
  have hE := Ext.refl w
  have hw := Below.refl w.heap.size w
  obtain ⟨c1, c2, c3, c4, pa, ma, ca, pi, mi, ci, pr, mr, cr, po, mo, co, px, mx, cx⟩ := s; obtain ⟨⟨e1, e2, e3, e4⟩, hma, hmi, hmr, hmo, hmx, HA, HI, HR, HO, xs, HX9, HAs⟩ := hS; simp only at e1 e2 e3 e4 hma hmi hmr hmo hmx HA HI HR HO HX9 HAs; subst e1 e2 e3 e4 hma hmi hmr hmo hmx
  obtain ⟨d1, d2, d3, d4, qa, na, ja, qi, ni, ji, qr, nr, jr, qo, no, jo, qx, nx, jx⟩ := s'; obtain ⟨⟨e1, e2, e3, e4⟩, hma, hmi, hmr, hmo, hmx, KA, KI, KR, KO, ys, KX9, KAs⟩ := hT; simp only at e1 e2 e3 e4 hma hmi hmr hmo hmx KA KI KR KO KX9 KAs; subst e1 e2 e3 e4 hma hmi hmr hmo hmx
  rw [stt_eq]
  refine fn_enter 66 Tryz.func20 rfl rfl rfl ?_
  repeat' (first | (refine is_cw ?_; first | (refine cw_seq ?_) | (refine cw_region ?_)))
  refine lw_boxN rfl rfl (cs := [.int .i64 t.clock, .int .i64 t.fee, .int .i64 t.nord, .int .i64 t.nauc, .slice pa t.accs.length ca, .slice pi t.inss.length ci, .slice pr t.rows.length cr, .slice po t.ords.length co, .slice px t.aucs.length cx]) rfl ?_; intro N2 wn hN2 HX hb; replace hN2 := Nat.le_trans hw.size hN2; replace hw := grow_trans hw hb; clear hb
  replace hE := hE.mono hw; replace HA := HA.mono hw; replace HI := HI.mono hw; replace HR := HR.mono hw; replace HO := HO.mono hw; replace HX9 := HX9.mono hw; replace HAs := HAs.mono hw; replace KA := KA.mono hw; replace KI := KI.mono hw; replace KR := KR.mono hw; replace KO := KO.mono hw; replace KX9 := KX9.mono hw; replace KAs := KAs.mono hw; clear hw; have hw := Below.refl wn.heap.size wn
  skip
  refine lw_boxN rfl rfl (cs := [.int .i64 u.clock, .int .i64 u.fee, .int .i64 u.nord, .int .i64 u.nauc, .slice qa u.accs.length ja, .slice qi u.inss.length ji, .slice qr u.rows.length jr, .slice qo u.ords.length jo, .slice qx u.aucs.length jx]) rfl ?_; intro N3 wn hN3 HY hb; replace hN3 := Nat.le_trans hw.size hN3; replace hw := grow_trans hw hb; clear hb
  replace hE := hE.mono hw; replace HA := HA.mono hw; replace HI := HI.mono hw; replace HR := HR.mono hw; replace HO := HO.mono hw; replace HX9 := HX9.mono hw; replace HAs := HAs.mono hw; replace KA := KA.mono hw; replace KI := KI.mono hw; replace KR := KR.mono hw; replace KO := KO.mono hw; replace KX9 := KX9.mono hw; replace KAs := KAs.mono hw; replace HX := HX.mono hw; clear hw; have hw := Below.refl wn.heap.size wn
  repeat' (first | (refine lw_pure rfl (pv_move rfl) ?_) | (refine lw_pure rfl (pv_assign rfl) ?_) | (refine lw_call (f := 45) (by kernel_rfl) rfl rfl (equal_Ac rfl rfl (HA.mono hw) (KA.mono hw)) ?_; rintro e w1 ⟨rfl, hb⟩; refine ⟨_, rfl, ?_⟩; replace hw := grow_trans hw hb; clear hb) | (refine lw_call (f := 46) (by kernel_rfl) rfl rfl (equal_N rfl rfl (HI.mono hw) (KI.mono hw)) ?_; rintro e w1 ⟨rfl, hb⟩; refine ⟨_, rfl, ?_⟩; replace hw := grow_trans hw hb; clear hb) | (refine lw_call (f := 47) (by kernel_rfl) rfl rfl (equal_c rfl rfl (HR.mono hw) (KR.mono hw)) ?_; rintro e w1 ⟨rfl, hb⟩; refine ⟨_, rfl, ?_⟩; replace hw := grow_trans hw hb; clear hb) | (refine lw_call (f := 48) (by kernel_rfl) rfl rfl (equal_O rfl rfl (HO.mono hw) (KO.mono hw)) ?_; rintro e w1 ⟨rfl, hb⟩; refine ⟨_, rfl, ?_⟩; replace hw := grow_trans hw hb; clear hb) | (refine lw_call (f := 49) (by kernel_rfl) rfl rfl (asames_c rfl rfl (HX9.mono hw) (KX9.mono hw) (HAs.mono hw) (KAs.mono hw)) ?_; rintro e w1 ⟨rfl, hb⟩; refine ⟨_, rfl, ?_⟩; replace hw := grow_trans hw hb; clear hb) | (refine is_cw ?_; first | (refine cw_seq ?_) | (refine cw_region ?_) | (refine cw_ret ?_)) | (refine is_qw ?_; first | (with_reducible refine qw_then ?_)) | (refine lw_nil ?_) | (refine is_guarded ?_; first | (refine lw_not rfl rfl rfl rfl ?_) | (refine lw_on rfl rfl (by first | assumption | exact decide_eq_true (by omega) | exact decide_eq_false (by omega) | exact dec_notT (by omega) | exact dec_notF (by omega)) ?_) | (refine lw_not rfl rfl rfl (by first | assumption | exact decide_eq_true (by omega) | exact decide_eq_false (by omega) | exact dec_notT (by omega) | exact dec_notF (by omega)) ?_) | (refine lw_gs_t rfl rfl rfl (fun hc => ?_) (fun hc => ?_) <;> (first | replace hc := of_decide_eq_true hc | replace hc := of_decide_eq_false hc | replace hc := dec_nT hc | replace hc := dec_nF hc | skip) <;> (try (exfalso; omega)))) | ((refine is_bin ?_; first | (refine lw_pure rfl (pv_eql rfl rfl) ?_))) | ((refine is_load ?_; first | (refine lw_pure rfl (pv_load (t1 rfl) rfl (by first | exact PT.ld0 (HX.mono hw) rfl | exact PT.ld (HX.mono hw) rfl | exact PT.ld0 (HY.mono hw) rfl | exact PT.ld (HY.mono hw) rfl)) ?_))) | ((refine is_fa ?_; first | (refine lw_pure rfl (pv_fa (tF rfl) rfl) ?_))) | (refine is_pk ?_; refine lw_pure rfl (pv_pick_f rfl rfl rfl) ?_) | (refine is_pk ?_; refine lw_pure rfl (pv_pick_t rfl (by first | assumption | exact decide_eq_true (by omega) | exact dec_notT (by omega)) rfl) ?_) | (refine is_pk ?_; refine lw_pure rfl (pv_pick_f rfl (by first | assumption | exact decide_eq_false (by omega) | exact dec_notF (by omega)) rfl) ?_))
  all_goals
    refine qw_ret1 rfl rfl ⟨ret_bool ?_, (hE.mono hw).b⟩
    simp [*]
set_option maxRecDepth 20000 in
set_option maxHeartbeats 4000000 in
theorem rsame_S {s s' : SttC} {t u : Stt} {w : World} (hS : StR w s t) (hT : StR w s' u) : Calls Tryz.prog 21 #[(.agg (encS s).toArray), (.agg (encS s').toArray)] w fun e w' => e = .returned (.bool (decide (t = u))) ∧ Below w.heap.size w w' := by
  have hE := Ext.refl w
  have hw := Below.refl w.heap.size w
  obtain ⟨c1, c2, c3, c4, pa, ma, ca, pi, mi, ci, pr, mr, cr, po, mo, co, px, mx, cx⟩ := s; obtain ⟨⟨e1, e2, e3, e4⟩, hma, hmi, hmr, hmo, hmx, HA, HI, HR, HO, xs, HX9, HAs⟩ := hS; simp only at e1 e2 e3 e4 hma hmi hmr hmo hmx HA HI HR HO HX9 HAs; subst e1 e2 e3 e4 hma hmi hmr hmo hmx
  obtain ⟨d1, d2, d3, d4, qa, na, ja, qi, ni, ji, qr, nr, jr, qo, no, jo, qx, nx, jx⟩ := s'; obtain ⟨⟨e1, e2, e3, e4⟩, hma, hmi, hmr, hmo, hmx, KA, KI, KR, KO, ys, KX9, KAs⟩ := hT; simp only at e1 e2 e3 e4 hma hmi hmr hmo hmx KA KI KR KO KX9 KAs; subst e1 e2 e3 e4 hma hmi hmr hmo hmx
  have hca := HA.le
  have hcm := HA.max
  have hia := HI.le
  have him := HI.max
  have hxa := HX9.le
  have hxm := HX9.max
  have hxn := HAs.1
  rw [stt_eq]
  refine fn_enter 132 Tryz.func21 rfl rfl rfl ?_
  repeat' (first | (refine is_cw ?_; first | (refine cw_seq ?_) | (refine cw_region ?_)))
  refine lw_boxN rfl rfl (cs := [.int .i64 t.clock, .int .i64 t.fee, .int .i64 t.nord, .int .i64 t.nauc, .slice pa t.accs.length ca, .slice pi t.inss.length ci, .slice pr t.rows.length cr, .slice po t.ords.length co, .slice px t.aucs.length cx]) rfl ?_; intro N2 wn hN2 HX hb; replace hN2 := Nat.le_trans hw.size hN2; replace hw := grow_trans hw hb; clear hb
  replace hE := hE.mono hw; replace HA := HA.mono hw; replace HI := HI.mono hw; replace HR := HR.mono hw; replace HO := HO.mono hw; replace HX9 := HX9.mono hw; replace HAs := HAs.mono hw; replace KA := KA.mono hw; replace KI := KI.mono hw; replace KR := KR.mono hw; replace KO := KO.mono hw; replace KX9 := KX9.mono hw; replace KAs := KAs.mono hw; clear hw; have hw := Below.refl wn.heap.size wn
  skip
  refine lw_boxN rfl rfl (cs := [.int .i64 u.clock, .int .i64 u.fee, .int .i64 u.nord, .int .i64 u.nauc, .slice qa u.accs.length ja, .slice qi u.inss.length ji, .slice qr u.rows.length jr, .slice qo u.ords.length jo, .slice qx u.aucs.length jx]) rfl ?_; intro N3 wn hN3 HY hb; replace hN3 := Nat.le_trans hw.size hN3; replace hw := grow_trans hw hb; clear hb
  replace hE := hE.mono hw; replace HA := HA.mono hw; replace HI := HI.mono hw; replace HR := HR.mono hw; replace HO := HO.mono hw; replace HX9 := HX9.mono hw; replace HAs := HAs.mono hw; replace KA := KA.mono hw; replace KI := KI.mono hw; replace KR := KR.mono hw; replace KO := KO.mono hw; replace KX9 := KX9.mono hw; replace KAs := KAs.mono hw; replace HX := HX.mono hw; clear hw; have hw := Below.refl wn.heap.size wn
  repeat' (first | (refine lw_pure rfl (pv_move rfl) ?_) | (refine lw_pure rfl (pv_assign rfl) ?_) | (refine lw_call (f := 51) (by kernel_rfl) rfl rfl (rsame_c rfl rfl (HR.mono hw) (KR.mono hw)) ?_; rintro e w1 ⟨rfl, hb⟩; refine ⟨_, rfl, ?_⟩; replace hw := grow_trans hw hb; clear hb) | (refine lw_call (f := 52) (by kernel_rfl) rfl rfl (rsame_O rfl rfl (HO.mono hw) (KO.mono hw)) ?_; rintro e w1 ⟨rfl, hb⟩; refine ⟨_, rfl, ?_⟩; replace hw := grow_trans hw hb; clear hb) | (refine is_cw ?_; first | (refine cw_seq ?_) | (refine cw_region ?_) | (refine cw_true rfl rfl ?_) | (refine cw_skip ?_) | (refine cw_block ?_) | (refine cw_ret ?_)) | (refine is_qw ?_; first | (with_reducible refine qw_then ?_) | (with_reducible refine qw_then_ret ?_)) | (refine lw_nil ?_) | (refine is_guarded ?_; first | (refine lw_not rfl rfl rfl rfl ?_) | (refine lw_on rfl rfl (by first | assumption | exact decide_eq_true (by omega) | exact decide_eq_false (by omega) | exact dec_notT (by omega) | exact dec_notF (by omega)) ?_) | (refine lw_not rfl rfl rfl (by first | assumption | exact decide_eq_true (by omega) | exact decide_eq_false (by omega) | exact dec_notT (by omega) | exact dec_notF (by omega)) ?_) | (refine lw_gs_f rfl rfl rfl (fun hc => ?_) (fun hc => ?_) <;> (first | replace hc := of_decide_eq_true hc | replace hc := of_decide_eq_false hc | replace hc := dec_nT hc | replace hc := dec_nF hc | skip) <;> (try (exfalso; omega)))) | ((refine is_bin ?_; first | (refine lw_pure rfl (pv_neq rfl rfl) ?_))) | ((refine is_load ?_; first | (refine lw_pure rfl (pv_load (t1 rfl) rfl (by first | exact PT.ld0 (HX.mono hw) rfl | exact PT.ld (HX.mono hw) rfl | exact PT.ld0 (HY.mono hw) rfl | exact PT.ld (HY.mono hw) rfl)) ?_))) | ((refine is_fa ?_; first | (refine lw_pure rfl (pv_fa (tF rfl) rfl) ?_))) | ((refine is_un ?_; first | (refine lw_pure rfl (pv_not rfl) ?_))) | ((refine is_bi ?_; first | (refine lw_pure rfl (pv_lenl (tS rfl) rfl) ?_))) | (refine is_pk ?_; refine lw_pure rfl (pv_pick_t rfl rfl rfl) ?_) | (refine is_pk ?_; refine lw_pure rfl (pv_pick_t rfl (by first | assumption | exact decide_eq_true (by omega) | exact dec_notT (by omega)) rfl) ?_) | (refine is_pk ?_; refine lw_pure rfl (pv_pick_f rfl (by first | assumption | exact decide_eq_false (by omega) | exact dec_notF (by omega)) rfl) ?_) | (refine is_cw ?_; refine cw_split rfl (fun hc => ?_) (fun hc => ?_) <;> (first | replace hc := of_decide_eq_true hc | replace hc := of_decide_eq_false hc | replace hc := dec_nT hc | replace hc := dec_nF hc | skip) <;> (try (exfalso; omega))))
  any_goals (refine qw_ret1 rfl rfl ⟨ret_bool ?_, (hE.mono hw).b⟩; first | (simp [*]; done) | (rw [len_ne (l := t.accs) (by omega)]; simp; done) | (rw [len_ne (l := t.inss) (by omega)]; simp; done) | (rw [len_ne (l := t.aucs) (by omega)]; simp; done))
  have hq : (decide (t.clock = u.clock) && (decide (t.fee = u.fee) && (decide (t.nord = u.nord) && (decide (t.nauc = u.nauc) && (decide (t.accs = u.accs) && (decide (t.inss = u.inss) && (decide (t.rows = u.rows) && (decide (t.ords = u.ords) && decide (t.aucs = u.aucs))))))))) = (decide (t.accs = u.accs) && (decide (t.inss = u.inss) && decide (t.aucs = u.aucs))) := by simp [*]
  rw [hq]
  have l1 : t.accs.length = u.accs.length := by omega
  have l2 : t.inss.length = u.inss.length := by omega
  have l3 : t.aucs.length = u.aucs.length := by omega
  refine cw_loop (σ := Nat) (fun k => [(2, .pointer (some ⟨N2, 0, none⟩)), (3, .pointer (some ⟨N3, 0, none⟩)), (5, .int .i64 (k : Nat))]) (fun k wr => k ≤ t.accs.length ∧ Below wn.heap.size wn wr ∧ ∀ (j : Nat) x y, j < k → t.accs[j]? = some x → u.accs[j]? = some y → x = y) (fun k => t.accs.length - k) 0 (by repeat' (first | exact trivial | refine ⟨rfl, ?_⟩)) ⟨Nat.zero_le _, hw, by omega⟩ ?_
  clear hw
  rintro k wr ⟨hk, hw, hn⟩
  by_cases hlt : k < t.accs.length
  · have hxk : t.accs[k]? = some t.accs[k] := List.getElem?_eq_getElem hlt
    have hyk : u.accs[k]? = some (u.accs[k]'(by omega)) := List.getElem?_eq_getElem _
    generalize t.accs[k] = x at hxk
    generalize u.accs[k]'_ = y at hyk
    obtain ⟨ab, ao, rfl, -, -⟩ := HA.at (by intro h; rw [h] at hxk; simp at hxk)
    obtain ⟨bb, bo, rfl, -, -⟩ := KA.at (by intro h; rw [h] at hyk; simp at hyk)
    repeat' (first | (refine lw_pure rfl (pv_move rfl) ?_) | (refine is_cw ?_; first | (refine cw_seq ?_) | (refine cw_region ?_) | (refine is_cd ?_; refine cw_true rfl (by first | assumption | exact decide_eq_true (by omega) | exact dec_notT (by omega)) ?_) | (refine cw_skip ?_) | (refine cw_block ?_)) | (refine is_qw ?_; first | (with_reducible refine qw_then ?_)) | (refine lw_nil ?_) | ((refine is_bin ?_; first | (refine lw_pure rfl (pv_lss rfl rfl) ?_))) | ((refine is_load ?_; first | (refine lw_pure rfl (pv_load (t1 rfl) rfl (by first | exact PT.ld0 (HX.mono hw) rfl | exact PT.ld (HX.mono hw) rfl | exact PT.ld0 (HY.mono hw) rfl | exact PT.ld (HY.mono hw) rfl)) ?_))) | ((refine is_fa ?_; first | (refine lw_pure rfl (pv_fa (tF rfl) rfl) ?_))) | ((refine is_bi ?_; first | (refine lw_pure rfl (pv_lenl (tS rfl) rfl) ?_))))
    refine cw_drawn (fun w' => Below wn.heap.size wn w') (by kernel_rfl) (by repeat (first | exact NoPanic.body | with_reducible refine NoPanic.then ?_ | with_reducible refine NoPanic.inBlock ?_)) (fun hNP => ?_)
    have hS := hw.drew
    (refine at0 0 rfl (fun w' hq => pv_fa (tF rfl) rfl) ?_)
    (refine at0 1 rfl (fun w' hq => pv_load (t1 rfl) rfl (by first | exact PT.ld0 (HX.mono hq) rfl | exact PT.ld (HX.mono hq) rfl | exact PT.ld0 (HY.mono hq) rfl | exact PT.ld (HY.mono hq) rfl | exact SlR.ld (HA.mono hq) hxk rfl | exact SlR.ld1 (HA.mono hq) hxk rfl | exact SlR.ld (KA.mono hq) hyk rfl | exact SlR.ld1 (KA.mono hq) hyk rfl)) ?_)
    (refine at0 2 rfl (fun w' hq => pv_move rfl) ?_)
    (refine at0 3 rfl (fun w' hq => pv_ian (tS rfl) rfl rfl (by omega)) ?_)
    (refine at0 4 rfl (fun w' hq => pv_loada (tA rfl) rfl (by first | exact PT.lda (HX.mono hq) | exact PT.lda (HY.mono hq) | exact SlR.lda (HA.mono hq) hxk | exact SlR.lda (KA.mono hq) hyk) (by rfl)) ?_)
    (refine at0 5 rfl (fun w' hq => pv_fa (tF rfl) rfl) ?_)
    (refine at0 6 rfl (fun w' hq => pv_load (t1 rfl) rfl (by first | exact PT.ld0 (HX.mono hq) rfl | exact PT.ld (HX.mono hq) rfl | exact PT.ld0 (HY.mono hq) rfl | exact PT.ld (HY.mono hq) rfl | exact SlR.ld (HA.mono hq) hxk rfl | exact SlR.ld1 (HA.mono hq) hxk rfl | exact SlR.ld (KA.mono hq) hyk rfl | exact SlR.ld1 (KA.mono hq) hyk rfl)) ?_)
    (refine at0 7 rfl (fun w' hq => pv_move rfl) ?_)
    (refine at0 8 rfl (fun w' hq => pv_ian (tS rfl) rfl rfl (by omega)) ?_)
    (refine at0 9 rfl (fun w' hq => pv_loada (tA rfl) rfl (by first | exact PT.lda (HX.mono hq) | exact PT.lda (HY.mono hq) | exact SlR.lda (HA.mono hq) hxk | exact SlR.lda (KA.mono hq) hyk) (by rfl)) ?_)
    (refine at0 10 rfl (fun w' hq => pv_neqAc _ _ rfl rfl) ?_)
    refine aw_done (by kernel_rfl) ?_
    replace hw := hS; clear hS hNP
    by_cases hxy : x = y
    · repeat' (first | (refine lw_pure rfl (pv_move rfl) ?_) | (refine lw_pure rfl (pv_assign rfl) ?_) | (refine is_cw ?_; first | (refine cw_region ?_) | (refine is_cd ?_; refine cw_false rfl (by first | assumption | exact decide_eq_false (by omega) | exact dec_notF (by omega)) ?_) | (refine cw_skip ?_)) | (refine is_qw ?_; first | (with_reducible refine qw_then ?_) | (with_reducible refine qw_in ?_)) | (refine lw_nil ?_) | ((refine is_bin ?_; first | (refine lw_pure rfl (pv_inc rfl rfl (by omega)) ?_))))
      refine qw_round (k + 1) (by repeat' (first | exact trivial | refine ⟨rfl, ?_⟩)) ⟨by omega, hw, ?_⟩ (by omega)
      intro j x' y' hj h1 h2
      by_cases hjk : j = k
      · subst hjk
        rw [hxk] at h1; rw [hyk] at h2
        injection h1 with h1; injection h2 with h2
        rw [← h1, ← h2, hxy]
      · exact hn j x' y' (by omega) h1 h2
    · repeat' (first | (refine lw_pure rfl (pv_assign rfl) ?_) | (refine is_cw ?_; first | (refine cw_seq ?_) | (refine cw_region ?_) | (refine is_cd ?_; refine cw_true rfl (by first | assumption | exact decide_eq_true (by omega) | exact dec_notT (by omega)) ?_) | (refine cw_ret ?_)) | (refine is_qw ?_; first | (with_reducible refine qw_then ?_) | (with_reducible refine qw_then_ret ?_) | (with_reducible refine qw_in_ret ?_)) | (refine lw_nil ?_))
      refine qw_ret1 rfl rfl ⟨ret_bool ?_, (hE.mono hw).b⟩
      rw [decide_eq_false (p := t.accs = u.accs) (by intro e; rw [e, hyk] at hxk; injection hxk with hxk; exact hxy hxk.symm)]
      simp
  have hkl : k = t.accs.length := by omega
  subst hkl
  rw [decide_eq_true (p := t.accs = u.accs) (all_ext (by omega) fun j x y h1 h2 => hn j x y (List.getElem?_eq_some_iff.1 h1).1 h1 h2)]
  clear hn hk hlt
  repeat' (first | (refine lw_pure rfl (pv_move rfl) ?_) | (refine lw_pure rfl (pv_assign rfl) ?_) | (refine is_cw ?_; first | (refine cw_seq ?_) | (refine cw_region ?_) | (refine is_cd ?_; refine cw_false rfl (by first | assumption | exact decide_eq_false (by omega) | exact dec_notF (by omega)) ?_) | (refine cw_block ?_) | (refine cw_exit ?_)) | (refine is_qw ?_; first | (with_reducible refine qw_then ?_) | (with_reducible refine qw_in_hit ?_) | (with_reducible refine qw_then_exit ?_)) | (refine lw_nil ?_) | ((refine is_bin ?_; first | (refine lw_pure rfl (pv_lss rfl rfl) ?_))) | ((refine is_load ?_; first | (refine lw_pure rfl (pv_load (t1 rfl) rfl (by first | exact PT.ld0 (HX.mono hw) rfl | exact PT.ld (HX.mono hw) rfl | exact PT.ld0 (HY.mono hw) rfl | exact PT.ld (HY.mono hw) rfl)) ?_))) | ((refine is_fa ?_; first | (refine lw_pure rfl (pv_fa (tF rfl) rfl) ?_))) | ((refine is_bi ?_; first | (refine lw_pure rfl (pv_lenl (tS rfl) rfl) ?_))))
  refine cw_loop (σ := Nat) (fun k => [(2, .pointer (some ⟨N2, 0, none⟩)), (3, .pointer (some ⟨N3, 0, none⟩)), (6, .int .i64 (k : Nat))]) (fun k wr => k ≤ t.inss.length ∧ Below wn.heap.size wn wr ∧ ∀ (j : Nat) x y, j < k → t.inss[j]? = some x → u.inss[j]? = some y → x = y) (fun k => t.inss.length - k) 0 (by repeat' (first | exact trivial | refine ⟨rfl, ?_⟩)) ⟨Nat.zero_le _, hw, by omega⟩ ?_
  clear hw
  rintro k wr ⟨hk, hw, hn⟩
  by_cases hlt : k < t.inss.length
  · have hxk : t.inss[k]? = some t.inss[k] := List.getElem?_eq_getElem hlt
    have hyk : u.inss[k]? = some (u.inss[k]'(by omega)) := List.getElem?_eq_getElem _
    generalize t.inss[k] = x at hxk
    generalize u.inss[k]'_ = y at hyk
    obtain ⟨ab, ao, rfl, -, -⟩ := HI.at (by intro h; rw [h] at hxk; simp at hxk)
    obtain ⟨bb, bo, rfl, -, -⟩ := KI.at (by intro h; rw [h] at hyk; simp at hyk)
    repeat' (first | (refine lw_pure rfl (pv_move rfl) ?_) | (refine is_cw ?_; first | (refine cw_seq ?_) | (refine cw_region ?_) | (refine is_cd ?_; refine cw_true rfl (by first | assumption | exact decide_eq_true (by omega) | exact dec_notT (by omega)) ?_) | (refine cw_skip ?_) | (refine cw_block ?_)) | (refine is_qw ?_; first | (with_reducible refine qw_then ?_)) | (refine lw_nil ?_) | ((refine is_bin ?_; first | (refine lw_pure rfl (pv_lss rfl rfl) ?_))) | ((refine is_load ?_; first | (refine lw_pure rfl (pv_load (t1 rfl) rfl (by first | exact PT.ld0 (HX.mono hw) rfl | exact PT.ld (HX.mono hw) rfl | exact PT.ld0 (HY.mono hw) rfl | exact PT.ld (HY.mono hw) rfl)) ?_))) | ((refine is_fa ?_; first | (refine lw_pure rfl (pv_fa (tF rfl) rfl) ?_))) | ((refine is_bi ?_; first | (refine lw_pure rfl (pv_lenl (tS rfl) rfl) ?_))))
    refine cw_drawn (fun w' => Below wn.heap.size wn w') (by kernel_rfl) (by repeat (first | exact NoPanic.body | with_reducible refine NoPanic.then ?_ | with_reducible refine NoPanic.inBlock ?_)) (fun hNP => ?_)
    have hS := hw.drew
    (refine at0 0 rfl (fun w' hq => pv_fa (tF rfl) rfl) ?_)
    (refine at0 1 rfl (fun w' hq => pv_load (t1 rfl) rfl (by first | exact PT.ld0 (HX.mono hq) rfl | exact PT.ld (HX.mono hq) rfl | exact PT.ld0 (HY.mono hq) rfl | exact PT.ld (HY.mono hq) rfl | exact SlR.ld (HI.mono hq) hxk rfl | exact SlR.ld1 (HI.mono hq) hxk rfl | exact SlR.ld (KI.mono hq) hyk rfl | exact SlR.ld1 (KI.mono hq) hyk rfl)) ?_)
    (refine at0 2 rfl (fun w' hq => pv_move rfl) ?_)
    (refine at0 3 rfl (fun w' hq => pv_ian (tS rfl) rfl rfl (by omega)) ?_)
    (refine at0 4 rfl (fun w' hq => pv_loada (tA rfl) rfl (by first | exact PT.lda (HX.mono hq) | exact PT.lda (HY.mono hq) | exact SlR.lda (HI.mono hq) hxk | exact SlR.lda (KI.mono hq) hyk) (by rfl)) ?_)
    (refine at0 5 rfl (fun w' hq => pv_fa (tF rfl) rfl) ?_)
    (refine at0 6 rfl (fun w' hq => pv_load (t1 rfl) rfl (by first | exact PT.ld0 (HX.mono hq) rfl | exact PT.ld (HX.mono hq) rfl | exact PT.ld0 (HY.mono hq) rfl | exact PT.ld (HY.mono hq) rfl | exact SlR.ld (HI.mono hq) hxk rfl | exact SlR.ld1 (HI.mono hq) hxk rfl | exact SlR.ld (KI.mono hq) hyk rfl | exact SlR.ld1 (KI.mono hq) hyk rfl)) ?_)
    (refine at0 7 rfl (fun w' hq => pv_move rfl) ?_)
    (refine at0 8 rfl (fun w' hq => pv_ian (tS rfl) rfl rfl (by omega)) ?_)
    (refine at0 9 rfl (fun w' hq => pv_loada (tA rfl) rfl (by first | exact PT.lda (HX.mono hq) | exact PT.lda (HY.mono hq) | exact SlR.lda (HI.mono hq) hxk | exact SlR.lda (KI.mono hq) hyk) (by rfl)) ?_)
    (refine at0 10 rfl (fun w' hq => pv_neqN _ _ rfl rfl) ?_)
    refine aw_done (by kernel_rfl) ?_
    replace hw := hS; clear hS hNP
    by_cases hxy : x = y
    · repeat' (first | (refine lw_pure rfl (pv_move rfl) ?_) | (refine lw_pure rfl (pv_assign rfl) ?_) | (refine is_cw ?_; first | (refine cw_region ?_) | (refine is_cd ?_; refine cw_false rfl (by first | assumption | exact decide_eq_false (by omega) | exact dec_notF (by omega)) ?_) | (refine cw_skip ?_)) | (refine is_qw ?_; first | (with_reducible refine qw_then ?_) | (with_reducible refine qw_in ?_)) | (refine lw_nil ?_) | ((refine is_bin ?_; first | (refine lw_pure rfl (pv_inc rfl rfl (by omega)) ?_))))
      refine qw_round (k + 1) (by repeat' (first | exact trivial | refine ⟨rfl, ?_⟩)) ⟨by omega, hw, ?_⟩ (by omega)
      intro j x' y' hj h1 h2
      by_cases hjk : j = k
      · subst hjk
        rw [hxk] at h1; rw [hyk] at h2
        injection h1 with h1; injection h2 with h2
        rw [← h1, ← h2, hxy]
      · exact hn j x' y' (by omega) h1 h2
    · repeat' (first | (refine lw_pure rfl (pv_assign rfl) ?_) | (refine is_cw ?_; first | (refine cw_seq ?_) | (refine cw_region ?_) | (refine is_cd ?_; refine cw_true rfl (by first | assumption | exact decide_eq_true (by omega) | exact dec_notT (by omega)) ?_) | (refine cw_ret ?_)) | (refine is_qw ?_; first | (with_reducible refine qw_then ?_) | (with_reducible refine qw_then_ret ?_) | (with_reducible refine qw_in_ret ?_)) | (refine lw_nil ?_))
      refine qw_ret1 rfl rfl ⟨ret_bool ?_, (hE.mono hw).b⟩
      rw [decide_eq_false (p := t.inss = u.inss) (by intro e; rw [e, hyk] at hxk; injection hxk with hxk; exact hxy hxk.symm)]
      simp
  have hkl : k = t.inss.length := by omega
  subst hkl
  rw [decide_eq_true (p := t.inss = u.inss) (all_ext (by omega) fun j x y h1 h2 => hn j x y (List.getElem?_eq_some_iff.1 h1).1 h1 h2)]
  clear hn hk hlt
  repeat' (first | (refine lw_pure rfl (pv_move rfl) ?_) | (refine lw_pure rfl (pv_assign rfl) ?_) | (refine is_cw ?_; first | (refine cw_seq ?_) | (refine cw_region ?_) | (refine is_cd ?_; refine cw_false rfl (by first | assumption | exact decide_eq_false (by omega) | exact dec_notF (by omega)) ?_) | (refine cw_block ?_) | (refine cw_exit ?_)) | (refine is_qw ?_; first | (with_reducible refine qw_then ?_) | (with_reducible refine qw_in_hit ?_) | (with_reducible refine qw_then_exit ?_)) | (refine lw_nil ?_) | ((refine is_bin ?_; first | (refine lw_pure rfl (pv_lss rfl rfl) ?_))) | ((refine is_load ?_; first | (refine lw_pure rfl (pv_load (t1 rfl) rfl (by first | exact PT.ld0 (HX.mono hw) rfl | exact PT.ld (HX.mono hw) rfl | exact PT.ld0 (HY.mono hw) rfl | exact PT.ld (HY.mono hw) rfl)) ?_))) | ((refine is_fa ?_; first | (refine lw_pure rfl (pv_fa (tF rfl) rfl) ?_))) | ((refine is_bi ?_; first | (refine lw_pure rfl (pv_lenl (tS rfl) rfl) ?_))))
  refine cw_loop (σ := Nat) (fun k => [(2, .pointer (some ⟨N2, 0, none⟩)), (3, .pointer (some ⟨N3, 0, none⟩)), (7, .int .i64 (k : Nat))]) (fun k wr => k ≤ t.aucs.length ∧ Below wn.heap.size wn wr ∧ ∀ (j : Nat) x y, j < k → t.aucs[j]? = some x → u.aucs[j]? = some y → x = y) (fun k => t.aucs.length - k) 0 (by repeat' (first | exact trivial | refine ⟨rfl, ?_⟩)) ⟨Nat.zero_le _, hw, by omega⟩ ?_
  clear hw
  rintro k wr ⟨hk, hw, hn⟩
  by_cases hlt : k < t.aucs.length
  · have hxk : t.aucs[k]? = some t.aucs[k] := List.getElem?_eq_getElem hlt
    have hyk : u.aucs[k]? = some (u.aucs[k]'(by omega)) := List.getElem?_eq_getElem _
    generalize t.aucs[k] = x at hxk
    generalize u.aucs[k]'_ = y at hyk
    obtain ⟨x9, h9k, hR⟩ := HAs.at hxk
    obtain ⟨y9, g9k, hT⟩ := KAs.at hyk
    obtain ⟨ab, ao, rfl, -, -⟩ := HX9.at (by intro h; rw [h] at h9k; simp at h9k)
    obtain ⟨bb, bo, rfl, -, -⟩ := KX9.at (by intro h; rw [h] at g9k; simp at g9k)
    repeat' (first | (refine lw_pure rfl (pv_move rfl) ?_) | (refine is_cw ?_; first | (refine cw_seq ?_) | (refine cw_region ?_) | (refine is_cd ?_; refine cw_true rfl (by first | assumption | exact decide_eq_true (by omega) | exact dec_notT (by omega)) ?_) | (refine cw_skip ?_) | (refine cw_block ?_)) | (refine is_qw ?_; first | (with_reducible refine qw_then ?_)) | (refine lw_nil ?_) | ((refine is_bin ?_; first | (refine lw_pure rfl (pv_lss rfl rfl) ?_))) | ((refine is_load ?_; first | (refine lw_pure rfl (pv_load (t1 rfl) rfl (by first | exact PT.ld0 (HX.mono hw) rfl | exact PT.ld (HX.mono hw) rfl | exact PT.ld0 (HY.mono hw) rfl | exact PT.ld (HY.mono hw) rfl)) ?_))) | ((refine is_fa ?_; first | (refine lw_pure rfl (pv_fa (tF rfl) rfl) ?_))) | ((refine is_bi ?_; first | (refine lw_pure rfl (pv_lenl (tS rfl) rfl) ?_))))
    refine cw_drawn (fun w' => Below wn.heap.size wn w') (by kernel_rfl) (by repeat (first | exact NoPanic.body | with_reducible refine NoPanic.then ?_ | with_reducible refine NoPanic.inBlock ?_)) (fun hNP => ?_)
    have hS := hw.drew
    (refine at0 0 rfl (fun w' hq => pv_fa (tF rfl) rfl) ?_)
    (refine at0 1 rfl (fun w' hq => pv_load (t1 rfl) rfl (by first | exact PT.ld0 (HX.mono hq) rfl | exact PT.ld (HX.mono hq) rfl | exact PT.ld0 (HY.mono hq) rfl | exact PT.ld (HY.mono hq) rfl | exact SlR.ld (HX9.mono hq) h9k rfl | exact SlR.ld1 (HX9.mono hq) h9k rfl | exact SlR.ld (KX9.mono hq) g9k rfl | exact SlR.ld1 (KX9.mono hq) g9k rfl)) ?_)
    (refine at0 2 rfl (fun w' hq => pv_move rfl) ?_)
    (refine at0 3 rfl (fun w' hq => pv_ian (tS rfl) rfl rfl (by omega)) ?_)
    (refine at0 4 rfl (fun w' hq => pv_loada (tA rfl) rfl (by first | exact PT.lda (HX.mono hq) | exact PT.lda (HY.mono hq) | exact SlR.lda (HX9.mono hq) h9k | exact SlR.lda (KX9.mono hq) g9k) (by rfl)) ?_)
    (refine at0 5 rfl (fun w' hq => pv_fa (tF rfl) rfl) ?_)
    (refine at0 6 rfl (fun w' hq => pv_load (t1 rfl) rfl (by first | exact PT.ld0 (HX.mono hq) rfl | exact PT.ld (HX.mono hq) rfl | exact PT.ld0 (HY.mono hq) rfl | exact PT.ld (HY.mono hq) rfl | exact SlR.ld (HX9.mono hq) h9k rfl | exact SlR.ld1 (HX9.mono hq) h9k rfl | exact SlR.ld (KX9.mono hq) g9k rfl | exact SlR.ld1 (KX9.mono hq) g9k rfl)) ?_)
    (refine at0 7 rfl (fun w' hq => pv_move rfl) ?_)
    (refine at0 8 rfl (fun w' hq => pv_ian (tS rfl) rfl rfl (by omega)) ?_)
    (refine at0 9 rfl (fun w' hq => pv_loada (tA rfl) rfl (by first | exact PT.lda (HX.mono hq) | exact PT.lda (HY.mono hq) | exact SlR.lda (HX9.mono hq) h9k | exact SlR.lda (KX9.mono hq) g9k) (by rfl)) ?_)
    refine aw_act 10 (by kernel_rfl) rfl rfl rfl ?_
    refine act_call (f := 53) (by kernel_rfl) rfl (rasame_c (hR.mono hS) (hT.mono hS)) ?_; rintro e w1 ⟨rfl, hb⟩; refine ⟨_, rfl, grow_trans hS hb, fun hS => ?_⟩
    (refine at0 11 rfl (fun w' hq => pv_not rfl) ?_)
    refine aw_done (by kernel_rfl) ?_
    replace hw := hS; clear hS hNP
    by_cases hxy : x = y
    · rw [decide_eq_true hxy]
      repeat' (first | (refine lw_pure rfl (pv_move rfl) ?_) | (refine lw_pure rfl (pv_assign rfl) ?_) | (refine is_cw ?_; first | (refine cw_region ?_) | (refine cw_false rfl rfl ?_) | (refine cw_skip ?_)) | (refine is_qw ?_; first | (with_reducible refine qw_then ?_) | (with_reducible refine qw_in ?_)) | (refine lw_nil ?_) | ((refine is_bin ?_; first | (refine lw_pure rfl (pv_inc rfl rfl (by omega)) ?_))))
      refine qw_round (k + 1) (by repeat' (first | exact trivial | refine ⟨rfl, ?_⟩)) ⟨by omega, hw, ?_⟩ (by omega)
      intro j x' y' hj h1 h2
      by_cases hjk : j = k
      · subst hjk
        rw [hxk] at h1; rw [hyk] at h2
        injection h1 with h1; injection h2 with h2
        rw [← h1, ← h2, hxy]
      · exact hn j x' y' (by omega) h1 h2
    · rw [decide_eq_false hxy]
      repeat' (first | (refine lw_pure rfl (pv_assign rfl) ?_) | (refine is_cw ?_; first | (refine cw_seq ?_) | (refine cw_region ?_) | (refine cw_true rfl rfl ?_) | (refine cw_ret ?_)) | (refine is_qw ?_; first | (with_reducible refine qw_then ?_) | (with_reducible refine qw_then_ret ?_) | (with_reducible refine qw_in_ret ?_)) | (refine lw_nil ?_))
      refine qw_ret1 rfl rfl ⟨ret_bool ?_, (hE.mono hw).b⟩
      rw [decide_eq_false (p := t.aucs = u.aucs) (by intro e; rw [e, hyk] at hxk; injection hxk with hxk; exact hxy hxk.symm)]
      simp
  have hkl : k = t.aucs.length := by omega
  subst hkl
  rw [decide_eq_true (p := t.aucs = u.aucs) (all_ext (by omega) fun j x y h1 h2 => hn j x y (List.getElem?_eq_some_iff.1 h1).1 h1 h2)]
  clear hn hk hlt
  repeat' (first | (refine lw_pure rfl (pv_move rfl) ?_) | (refine lw_pure rfl (pv_assign rfl) ?_) | (refine is_cw ?_; first | (refine cw_seq ?_) | (refine cw_region ?_) | (refine is_cd ?_; refine cw_false rfl (by first | assumption | exact decide_eq_false (by omega) | exact dec_notF (by omega)) ?_) | (refine cw_exit ?_) | (refine cw_ret ?_)) | (refine is_qw ?_; first | (with_reducible refine qw_then ?_) | (with_reducible refine qw_in_hit ?_) | (with_reducible refine qw_then_exit ?_)) | (refine lw_nil ?_) | ((refine is_bin ?_; first | (refine lw_pure rfl (pv_lss rfl rfl) ?_))) | ((refine is_load ?_; first | (refine lw_pure rfl (pv_load (t1 rfl) rfl (by first | exact PT.ld0 (HX.mono hw) rfl | exact PT.ld (HX.mono hw) rfl | exact PT.ld0 (HY.mono hw) rfl | exact PT.ld (HY.mono hw) rfl)) ?_))) | ((refine is_fa ?_; first | (refine lw_pure rfl (pv_fa (tF rfl) rfl) ?_))) | ((refine is_bi ?_; first | (refine lw_pure rfl (pv_lenl (tS rfl) rfl) ?_))))
  exact qw_ret1 rfl rfl ⟨rfl, (hE.mono hw).b⟩

set_option maxRecDepth 20000 in
theorem rin17_c (n m : Int) (w : World) : Calls Tryz.prog 87 #[.int .i64 n, .int .i64 m] w fun e w' => e = .returned (.bool (decide (1 ≤ n ∧ n ≤ m))) ∧ Below w.heap.size w w' := by
  have hw := Below.refl w.heap.size w
  refine fn_enter 12 Tryz.func87 rfl rfl rfl ?_
  by_cases h1 : 1 ≤ n
  · repeat' (first | (refine lw_pure rfl (pv_move rfl) ?_) | (refine lw_pure rfl (pv_assign rfl) ?_) | (refine is_cw ?_; first | (refine cw_seq ?_) | (refine cw_region ?_) | (refine cw_ret ?_)) | (refine is_qw ?_; first | (with_reducible refine qw_then ?_)) | (refine lw_nil ?_) | (refine is_guarded ?_; first | (refine lw_on rfl rfl (by first | assumption | exact decide_eq_true (by omega) | exact decide_eq_false (by omega) | exact dec_notT (by omega) | exact dec_notF (by omega)) ?_)) | ((refine is_bin ?_; first | (refine lw_pure rfl (pv_leq rfl rfl) ?_) | (refine lw_pure rfl (pv_geq rfl rfl) ?_))) | (refine is_pk ?_; refine lw_pure rfl (pv_pick_t rfl (by first | assumption | exact decide_eq_true (by omega) | exact dec_notT (by omega)) rfl) ?_))
    all_goals exact qw_ret1 rfl rfl ⟨ret_bool (by simp [h1]), hw⟩
  · repeat' (first | (refine lw_pure rfl (pv_move rfl) ?_) | (refine lw_pure rfl (pv_assign rfl) ?_) | (refine is_cw ?_; first | (refine cw_seq ?_) | (refine cw_region ?_) | (refine cw_ret ?_)) | (refine is_qw ?_; first | (with_reducible refine qw_then ?_)) | (refine lw_nil ?_) | (refine is_guarded ?_; first | (refine lw_not rfl rfl rfl (by first | assumption | exact decide_eq_true (by omega) | exact decide_eq_false (by omega) | exact dec_notT (by omega) | exact dec_notF (by omega)) ?_)) | ((refine is_bin ?_; first | (refine lw_pure rfl (pv_geq rfl rfl) ?_))) | (refine is_pk ?_; refine lw_pure rfl (pv_pick_f rfl (by first | assumption | exact decide_eq_false (by omega) | exact dec_notF (by omega)) rfl) ?_))
    all_goals exact qw_ret1 rfl rfl ⟨ret_bool (by simp [h1]), hw⟩
def HeadP (h : AuH) : Prop := (1 ≤ h.id ∧ h.id ≤ 1099511627776) ∧ (1 ≤ h.seller ∧ h.seller ≤ 64) ∧ (1 ≤ h.inst ∧ h.inst ≤ 16) ∧ (1 ≤ h.qty ∧ h.qty ≤ 1048576) ∧ (1 ≤ h.reserve ∧ h.reserve ≤ 1125899906842624) ∧ (1 ≤ h.fin ∧ h.fin ≤ 1099511627776)
def BidP (h : AuH) (b : Bid) : Prop := (1 ≤ b.acct ∧ b.acct ≤ 64) ∧ b.acct ≠ h.seller ∧ (1 ≤ b.amt ∧ b.amt ≤ 1125899906842624) ∧ (h.shut = false → h.reserve ≤ b.amt)
def ManP (a : Auc) : Prop := if a.h.shut then a.h.step = 0 ∧ a.bids.length ≤ 16 else (1 ≤ a.h.step ∧ a.h.step ≤ 1125899906842624) ∧ a.bids.length ≤ 1
theorem mayAu_ref {a : Auc} : mayAu a = true ↔ HeadP a.h ∧ ManP a ∧ ∀ (i : Nat) b, a.bids[i]? = some b → BidP a.h b ∧ ∀ (j : Nat) c, j < i → a.bids[j]? = some c → c.acct ≠ b.acct := by
  rw [mayAu_iff, headB_iff, bidsB_iff, nodup_get]
  unfold HeadP BidP ManP mannB
  cases hs : a.h.shut
  · simp only [Bool.false_eq_true, if_false, Bool.and_eq_true, btw_iff, decide_eq_true_eq, List.all_eq_true, forall_const]
    constructor
    · rintro ⟨h1, ⟨⟨h2, h3⟩, h4⟩, h5, h6⟩
      exact ⟨h1, ⟨h2, h3⟩, fun i b hb => ⟨⟨(bidB_iff.1 (h5 b (List.mem_of_getElem? hb))).1, (bidB_iff.1 (h5 b (List.mem_of_getElem? hb))).2.1, (bidB_iff.1 (h5 b (List.mem_of_getElem? hb))).2.2, h4 b (List.mem_of_getElem? hb)⟩, fun j c hj hc => h6 j i c b hj hc hb⟩⟩
    · rintro ⟨h1, ⟨h2, h3⟩, h4⟩
      exact ⟨h1, ⟨⟨h2, h3⟩, all_get fun j b hb => (h4 j b hb).1.2.2.2⟩, all_get fun j b hb => bidB_iff.2 ⟨(h4 j b hb).1.1, (h4 j b hb).1.2.1, (h4 j b hb).1.2.2.1⟩, fun i j x y hij hx hy => (h4 j y hy).2 i x hij hx⟩
  · simp only [if_true, Bool.and_eq_true, decide_eq_true_eq, reduceCtorEq, false_imp_iff, and_true]
    constructor
    · rintro ⟨h1, ⟨h2, h3⟩, h5, h6⟩
      exact ⟨h1, ⟨h2, h3⟩, fun i b hb => ⟨⟨(bidB_iff.1 (h5 b (List.mem_of_getElem? hb))).1, (bidB_iff.1 (h5 b (List.mem_of_getElem? hb))).2.1, (bidB_iff.1 (h5 b (List.mem_of_getElem? hb))).2.2⟩, fun j c hj hc => h6 j i c b hj hc hb⟩⟩
    · rintro ⟨h1, ⟨h2, h3⟩, h4⟩
      exact ⟨h1, ⟨h2, h3⟩, all_get fun j b hb => bidB_iff.2 ⟨(h4 j b hb).1.1, (h4 j b hb).1.2.1, (h4 j b hb).1.2.2⟩, fun i j x y hij hx hy => (h4 j y hy).2 i x hij hx⟩
theorem mayAu_f {a : Auc} (h : mayAu a = true → False) : mayAu a = false := by
  cases hm : mayAu a with
  | false => rfl
  | true => exact (h hm).elim
set_option maxRecDepth 20000 in
set_option maxHeartbeats 8000000 in
theorem ramay_c {x : AucC} {a : Auc} {w : World} (hR : AuR w x a) : Calls Tryz.prog 62 #[.agg (encC x).toArray] w fun e w' => e = .returned (.bool (mayAu a)) ∧ Below w.heap.size w w' := by
  have hE := Ext.refl w
  have hw := Below.refl w.heap.size w
  obtain ⟨⟨x1, x2, x3, x4, x5, x6, x7, x8⟩, xa, xm, xc⟩ := x
  obtain ⟨xh, xs⟩ := a
  obtain ⟨e, hm, HA⟩ := hR
  simp only at e hm HA
  subst e hm
  refine fn_enter 128 Tryz.func62 rfl rfl rfl ?_
  repeat' (first | (refine is_cw ?_; first | (refine cw_seq ?_) | (refine cw_region ?_)))
  refine lw_boxN rfl rfl (cs := [.int .i64 x1, .int .i64 x2, .int .i64 x3, .bool x4, .int .i64 x5, .int .i64 x6, .int .i64 x7, .int .i64 x8, .slice xa xs.length xc]) rfl ?_; intro N1 wn hN1 HX hb; replace hN1 := Nat.le_trans hw.size hN1; replace hw := grow_trans hw hb; clear hb
  replace hE := hE.mono hw; replace HA := HA.mono hw; clear hw; have hw := Below.refl wn.heap.size wn
  by_cases hh : HeadP ⟨x1, x2, x3, x4, x5, x6, x7, x8⟩
  rotate_left
  · have hno : mayAu (⟨⟨x1, x2, x3, x4, x5, x6, x7, x8⟩, xs⟩ : Auc) = false := mayAu_f fun hm => hh (mayAu_ref.1 hm).1
    unfold HeadP at hh
    dsimp only at hh
    repeat' (first | (refine lw_pure rfl (pv_move rfl) ?_) | (refine lw_pure rfl (pv_assign rfl) ?_) | (refine lw_call (f := 87) (by kernel_rfl) rfl rfl (rin17_c _ _ _) ?_; rintro e w1 ⟨rfl, hb⟩; refine ⟨_, rfl, ?_⟩; replace hw := grow_trans hw hb; clear hb) | (refine is_cw ?_; first | (refine cw_seq ?_) | (refine cw_region ?_) | (refine cw_true rfl rfl ?_) | (refine is_cd ?_; refine cw_true rfl (by first | assumption | exact decide_eq_true (by omega) | exact dec_notT (by omega)) ?_) | (refine cw_ret ?_)) | (refine is_qw ?_; first | (with_reducible refine qw_then ?_) | (with_reducible refine qw_then_ret ?_)) | (refine lw_nil ?_) | (refine is_guarded ?_; first | (refine lw_not rfl rfl rfl rfl ?_) | (refine lw_on rfl rfl (by first | assumption | exact decide_eq_true (by omega) | exact decide_eq_false (by omega) | exact dec_notT (by omega) | exact dec_notF (by omega)) ?_) | (refine lw_not rfl rfl rfl (by first | assumption | exact decide_eq_true (by omega) | exact decide_eq_false (by omega) | exact dec_notT (by omega) | exact dec_notF (by omega)) ?_) | (refine lw_gs_f rfl rfl rfl (fun hc => ?_) (fun hc => ?_) <;> (first | replace hc := of_decide_eq_true hc | replace hc := of_decide_eq_false hc | replace hc := dec_nT hc | replace hc := dec_nF hc | skip) <;> (try (exfalso; omega)))) | ((refine is_load ?_; first | (refine lw_pure rfl (pv_load (t1 rfl) rfl (by first | exact PT.ld0 (HX.mono hw) rfl | exact PT.ld (HX.mono hw) rfl)) ?_))) | ((refine is_fa ?_; first | (refine lw_pure rfl (pv_fa (tF rfl) rfl) ?_))) | ((refine is_un ?_; first | (refine lw_pure rfl (pv_not rfl) ?_))) | (refine is_pk ?_; refine lw_pure rfl (pv_pick_t rfl rfl rfl) ?_) | (refine is_pk ?_; refine lw_pure rfl (pv_pick_t rfl (by first | assumption | exact decide_eq_true (by omega) | exact dec_notT (by omega)) rfl) ?_) | (refine is_pk ?_; refine lw_pure rfl (pv_pick_f rfl (by first | assumption | exact decide_eq_false (by omega) | exact dec_notF (by omega)) rfl) ?_))
    all_goals exact qw_ret1 rfl rfl ⟨ret_bool hno.symm, (hE.mono hw).b⟩
  have hh2 := hh
  unfold HeadP at hh2
  dsimp only at hh2
  obtain ⟨h1, h2, h3, h4, h5, h6⟩ := hh2
  obtain ⟨z, hz1, hz0⟩ : ∃ z : Int, (x4 = true → z = 1) ∧ (x4 = false → z = 0) := by
    cases x4
    · exact ⟨0, (fun h => by cases h), fun _ => rfl⟩
    · exact ⟨1, fun _ => rfl, (fun h => by cases h)⟩
  have hBP : ∀ b, BidP ⟨x1, x2, x3, x4, x5, x6, x7, x8⟩ b ↔ (1 ≤ b.acct ∧ b.acct ≤ 64) ∧ b.acct ≠ x2 ∧ (1 ≤ b.amt ∧ b.amt ≤ 1125899906842624) ∧ (z = 1 ∨ x6 ≤ b.amt) := fun b => by
    unfold BidP
    dsimp only
    cases x4
    · have := hz0 rfl; subst this; simp
    · have := hz1 rfl; subst this; simp
  by_cases hman : (x4 = true ∧ x7 = 0 ∧ xs.length ≤ 16) ∨ (x4 = false ∧ (1 ≤ x7 ∧ x7 ≤ 1125899906842624) ∧ xs.length ≤ 1)
  rotate_left
  · have hno : mayAu (⟨⟨x1, x2, x3, x4, x5, x6, x7, x8⟩, xs⟩ : Auc) = false := mayAu_f fun hm => hman (by
      have := (mayAu_ref.1 hm).2.1
      unfold ManP at this
      dsimp only at this
      cases x4
      · exact Or.inr ⟨rfl, this⟩
      · exact Or.inl ⟨rfl, this⟩)
    have hs9 : x4 = true ∨ x4 = false := by cases x4 <;> simp
    rcases hs9 with hs | hs
    · have hs2 : (!x4) = false := by simp [hs]
      have hm2 : ¬ (x7 = 0 ∧ xs.length ≤ 16) := fun h => hman (Or.inl ⟨hs, h⟩)
      clear hman
      repeat' (first | (refine lw_pure rfl (pv_move rfl) ?_) | (refine lw_pure rfl (pv_assign rfl) ?_) | (refine lw_call (f := 87) (by kernel_rfl) rfl rfl (rin17_c _ _ _) ?_; rintro e w1 ⟨rfl, hb⟩; refine ⟨_, rfl, ?_⟩; replace hw := grow_trans hw hb; clear hb) | (refine is_cw ?_; first | (refine cw_seq ?_) | (refine cw_region ?_) | (refine cw_true rfl rfl ?_) | (refine cw_false rfl rfl ?_) | (refine is_cd ?_; refine cw_false rfl (by first | assumption | exact decide_eq_false (by omega) | exact dec_notF (by omega)) ?_) | (refine cw_skip ?_) | (refine cw_ret ?_)) | (refine is_qw ?_; first | (with_reducible refine qw_then ?_) | (with_reducible refine qw_then_ret ?_)) | (refine lw_nil ?_) | (refine is_guarded ?_; first | (refine lw_not_u rfl rfl rfl ?_) | (refine lw_on rfl rfl (by first | assumption | exact decide_eq_true (by omega) | exact decide_eq_false (by omega) | exact dec_notT (by omega) | exact dec_notF (by omega)) ?_) | (refine lw_not rfl rfl rfl (by first | assumption | exact decide_eq_true (by omega) | exact decide_eq_false (by omega) | exact dec_notT (by omega) | exact dec_notF (by omega)) ?_) | (refine lw_gs_f rfl rfl rfl (fun hc => ?_) (fun hc => ?_) <;> (first | replace hc := of_decide_eq_true hc | replace hc := of_decide_eq_false hc | replace hc := dec_nT hc | replace hc := dec_nF hc | skip) <;> (try (exfalso; omega)))) | ((refine is_bin ?_; first | (refine lw_pure rfl (pv_neq rfl rfl) ?_) | (refine lw_pure rfl (pv_gtr rfl rfl) ?_))) | ((refine is_load ?_; first | (refine lw_pure rfl (pv_load (t1 rfl) rfl (by first | exact PT.ld0 (HX.mono hw) rfl | exact PT.ld (HX.mono hw) rfl)) ?_))) | ((refine is_fa ?_; first | (refine lw_pure rfl (pv_fa (tF rfl) rfl) ?_))) | ((refine is_un ?_; first | (refine lw_pure rfl (pv_not rfl) ?_))) | ((refine is_bi ?_; first | (refine lw_pure rfl (pv_lenl (tS rfl) rfl) ?_))) | (refine is_pk ?_; refine lw_pure rfl (pv_pick_t rfl (by first | assumption | exact decide_eq_true (by omega) | exact dec_notT (by omega)) rfl) ?_) | (refine is_pk ?_; refine lw_pure rfl (pv_pick_f rfl (by first | assumption | exact decide_eq_false (by omega) | exact dec_notF (by omega)) rfl) ?_))
      all_goals exact qw_ret1 rfl rfl ⟨ret_bool hno.symm, (hE.mono hw).b⟩
    · have hs2 : (!x4) = true := by simp [hs]
      have hm2 : ¬ ((1 ≤ x7 ∧ x7 ≤ 1125899906842624) ∧ xs.length ≤ 1) := fun h => hman (Or.inr ⟨hs, h⟩)
      clear hman
      repeat' (first | (refine lw_pure rfl (pv_move rfl) ?_) | (refine lw_pure rfl (pv_assign rfl) ?_) | (refine lw_call (f := 87) (by kernel_rfl) rfl rfl (rin17_c _ _ _) ?_; rintro e w1 ⟨rfl, hb⟩; refine ⟨_, rfl, ?_⟩; replace hw := grow_trans hw hb; clear hb) | (refine is_cw ?_; first | (refine cw_seq ?_) | (refine cw_region ?_) | (refine cw_true rfl rfl ?_) | (refine is_cd ?_; refine cw_true rfl (by first | assumption | exact decide_eq_true (by omega) | exact dec_notT (by omega)) ?_) | (refine is_cd ?_; refine cw_false rfl (by first | assumption | exact decide_eq_false (by omega) | exact dec_notF (by omega)) ?_) | (refine cw_skip ?_) | (refine cw_ret ?_)) | (refine is_qw ?_; first | (with_reducible refine qw_then ?_) | (with_reducible refine qw_then_ret ?_)) | (refine lw_nil ?_) | (refine is_guarded ?_; first | (refine lw_not_u rfl rfl rfl ?_) | (refine lw_on rfl rfl rfl ?_) | (refine lw_on rfl rfl (by first | assumption | exact decide_eq_true (by omega) | exact decide_eq_false (by omega) | exact dec_notT (by omega) | exact dec_notF (by omega)) ?_) | (refine lw_not rfl rfl rfl (by first | assumption | exact decide_eq_true (by omega) | exact decide_eq_false (by omega) | exact dec_notT (by omega) | exact dec_notF (by omega)) ?_) | (refine lw_gs_f rfl rfl rfl (fun hc => ?_) (fun hc => ?_) <;> (first | replace hc := of_decide_eq_true hc | replace hc := of_decide_eq_false hc | replace hc := dec_nT hc | replace hc := dec_nF hc | skip) <;> (try (exfalso; omega)))) | ((refine is_bin ?_; first | (refine lw_pure rfl (pv_gtr rfl rfl) ?_))) | ((refine is_load ?_; first | (refine lw_pure rfl (pv_load (t1 rfl) rfl (by first | exact PT.ld0 (HX.mono hw) rfl | exact PT.ld (HX.mono hw) rfl)) ?_))) | ((refine is_fa ?_; first | (refine lw_pure rfl (pv_fa (tF rfl) rfl) ?_))) | ((refine is_un ?_; first | (refine lw_pure rfl (pv_not rfl) ?_))) | ((refine is_bi ?_; first | (refine lw_pure rfl (pv_lenl (tS rfl) rfl) ?_))) | (refine is_pk ?_; refine lw_pure rfl (pv_pick_f rfl rfl rfl) ?_) | (refine is_pk ?_; refine lw_pure rfl (pv_pick_t rfl (by first | assumption | exact decide_eq_true (by omega) | exact dec_notT (by omega)) rfl) ?_) | (refine is_pk ?_; refine lw_pure rfl (pv_pick_f rfl (by first | assumption | exact decide_eq_false (by omega) | exact dec_notF (by omega)) rfl) ?_) | (refine is_cw ?_; refine cw_split rfl (fun hc => ?_) (fun hc => ?_) <;> (first | replace hc := of_decide_eq_true hc | replace hc := of_decide_eq_false hc | replace hc := dec_nT hc | replace hc := dec_nF hc | skip) <;> (try (exfalso; omega))))
      all_goals exact qw_ret1 rfl rfl ⟨ret_bool hno.symm, (hE.mono hw).b⟩
  have hmp : ManP (⟨⟨x1, x2, x3, x4, x5, x6, x7, x8⟩, xs⟩ : Auc) := by
    unfold ManP
    dsimp only
    rcases hman with ⟨hs, h⟩ | ⟨hs, h⟩
    · rw [if_pos hs]; exact h
    · rw [hs, if_neg (by simp)]; exact h
  have hl16 : xs.length ≤ 16 := by rcases hman with ⟨-, h⟩ | ⟨-, h⟩ <;> omega
  rcases hman with ⟨hs, q1, q2⟩ | ⟨hs, q1, q2⟩
  all_goals
    first | have hz := hz1 hs | have hz := hz0 hs
    first | have hs2 : (!x4) = false := by rw [hs]; rfl | have hs2 : (!x4) = true := by rw [hs]; rfl
    repeat' (first | (refine lw_pure rfl (pv_move rfl) ?_) | (refine lw_pure rfl (pv_assign rfl) ?_) | (refine lw_call (f := 87) (by kernel_rfl) rfl rfl (rin17_c _ _ _) ?_; rintro e w1 ⟨rfl, hb⟩; refine ⟨_, rfl, ?_⟩; replace hw := grow_trans hw hb; clear hb) | (refine is_cw ?_; first | (refine cw_seq ?_) | (refine cw_region ?_) | (refine cw_false rfl rfl ?_) | (refine is_cd ?_; refine cw_false rfl (by first | assumption | exact decide_eq_false (by omega) | exact dec_notF (by omega)) ?_) | (refine cw_skip ?_) | (refine cw_block ?_)) | (refine is_qw ?_; first | (with_reducible refine qw_then ?_)) | (refine lw_nil ?_) | (refine is_guarded ?_; first | (refine lw_on rfl rfl rfl ?_) | (refine lw_on rfl rfl (by first | assumption | exact decide_eq_true (by omega) | exact decide_eq_false (by omega) | exact dec_notT (by omega) | exact dec_notF (by omega)) ?_) | (refine lw_not rfl rfl rfl (by first | assumption | exact decide_eq_true (by omega) | exact decide_eq_false (by omega) | exact dec_notT (by omega) | exact dec_notF (by omega)) ?_)) | ((refine is_bin ?_; first | (refine lw_pure rfl (pv_neq rfl rfl) ?_) | (refine lw_pure rfl (pv_gtr rfl rfl) ?_))) | ((refine is_load ?_; first | (refine lw_pure rfl (pv_load (t1 rfl) rfl (by first | exact PT.ld0 (HX.mono hw) rfl | exact PT.ld (HX.mono hw) rfl)) ?_))) | ((refine is_fa ?_; first | (refine lw_pure rfl (pv_fa (tF rfl) rfl) ?_))) | ((refine is_un ?_; first | (refine lw_pure rfl (pv_not rfl) ?_))) | ((refine is_bi ?_; first | (refine lw_pure rfl (pv_lenl (tS rfl) rfl) ?_))) | (refine is_pk ?_; refine lw_pure rfl (pv_pick_f rfl rfl rfl) ?_) | (refine is_pk ?_; refine lw_pure rfl (pv_pick_t rfl (by first | assumption | exact decide_eq_true (by omega) | exact dec_notT (by omega)) rfl) ?_) | (refine is_pk ?_; refine lw_pure rfl (pv_pick_f rfl (by first | assumption | exact decide_eq_false (by omega) | exact dec_notF (by omega)) rfl) ?_))
    refine cw_loop (σ := Nat) (fun k => [(1, .pointer (some ⟨N1, 0, none⟩)), (3, .int .i64 (k : Nat))]) (fun k wr => k ≤ xs.length ∧ Below wn.heap.size wn wr ∧ ∀ (i : Nat) b, i < k → xs[i]? = some b → BidP ⟨x1, x2, x3, x4, x5, x6, x7, x8⟩ b ∧ ∀ (j : Nat) c, j < i → xs[j]? = some c → c.acct ≠ b.acct) (fun k => xs.length - k) 0 (by repeat' (first | exact trivial | refine ⟨rfl, ?_⟩)) ⟨Nat.zero_le _, hw, fun i b hi => by omega⟩ ?_
    clear hw
    rintro k wr ⟨hk, hw, hn⟩
    by_cases hlt : k < xs.length
    rotate_left
    · have hok : mayAu (⟨⟨x1, x2, x3, x4, x5, x6, x7, x8⟩, xs⟩ : Auc) = true := mayAu_ref.2 ⟨hh, hmp, fun i b hb => hn i b (by have := (List.getElem?_eq_some_iff.1 hb).1; dsimp only at this; omega) hb⟩
      repeat' (first | (refine lw_pure rfl (pv_move rfl) ?_) | (refine lw_pure rfl (pv_assign rfl) ?_) | (refine is_cw ?_; first | (refine cw_seq ?_) | (refine cw_region ?_) | (refine is_cd ?_; refine cw_false rfl (by first | assumption | exact decide_eq_false (by omega) | exact dec_notF (by omega)) ?_) | (refine cw_exit ?_) | (refine cw_ret ?_)) | (refine is_qw ?_; first | (with_reducible refine qw_then ?_) | (with_reducible refine qw_in_hit ?_) | (with_reducible refine qw_then_exit ?_)) | (refine lw_nil ?_) | ((refine is_bin ?_; first | (refine lw_pure rfl (pv_lss rfl rfl) ?_))) | ((refine is_load ?_; first | (refine lw_pure rfl (pv_load (t1 rfl) rfl (by first | exact PT.ld0 (HX.mono hw) rfl | exact PT.ld (HX.mono hw) rfl)) ?_))) | ((refine is_fa ?_; first | (refine lw_pure rfl (pv_fa (tF rfl) rfl) ?_))) | ((refine is_bi ?_; first | (refine lw_pure rfl (pv_lenl (tS rfl) rfl) ?_))))
      exact qw_ret1 rfl rfl ⟨ret_bool hok.symm, (hE.mono hw).b⟩
    have hbk : xs[k]? = some (xs[k]'(by omega)) := List.getElem?_eq_getElem _
    generalize xs[k]'(by omega) = b at hbk
    have hG := Ext.mk hw
    have HA2 := HA.mono hw
    have HX2 := HX.mono hw
    clear hw
    have hw := Below.refl wr.heap.size wr
    obtain ⟨ab, ao, rfl, -, -⟩ := HA.at (by intro h; rw [h] at hlt; simp at hlt)
    repeat' (first | (refine lw_pure rfl (pv_move rfl) ?_) | (refine is_cw ?_; first | (refine cw_seq ?_) | (refine cw_region ?_) | (refine is_cd ?_; refine cw_true rfl (by first | assumption | exact decide_eq_true (by omega) | exact dec_notT (by omega)) ?_) | (refine cw_skip ?_) | (refine cw_block ?_)) | (refine is_qw ?_; first | (with_reducible refine qw_then ?_)) | (refine lw_nil ?_) | ((refine is_bin ?_; first | (refine lw_pure rfl (pv_lss rfl rfl) ?_))) | ((refine is_load ?_; first | (refine lw_pure rfl (pv_load (t1 rfl) rfl (by first | exact PT.ld0 (HX2.mono hw) rfl | exact PT.ld (HX2.mono hw) rfl | exact SlR.ld (HA2.mono hw) hbk rfl | exact SlR.ld1 (HA2.mono hw) hbk rfl)) ?_) | (refine lw_pure rfl (pv_loada (tA rfl) rfl (by first | exact PT.lda (HX2.mono hw) | exact SlR.lda (HA2.mono hw) hbk) (by rfl)) ?_))) | ((refine is_fa ?_; first | (refine lw_pure rfl (pv_fa (tF rfl) rfl) ?_))) | ((refine is_ia ?_; first | (refine lw_pure rfl (pv_ian (tS rfl) rfl rfl (by omega)) ?_))) | ((refine is_bi ?_; first | (refine lw_pure rfl (pv_lenl (tS rfl) rfl) ?_))))
    refine lw_varN rfl (by first | exact tyv_29 | exact tyv_30 | exact tyv_33 | exact tyv_34 | exact tyv_36 | exact tyv_37 | exact tyv_38 | exact tyv_39 | exact tyv_40 | exact tyv_41 | exact tyv_43 | exact tyv_44 | exact tyv_45 | exact tyv_46 | exact tyv_73 | exact tyv_74 | exact tyv_80 | exact tyv_81 | exact tyv_107 | exact tyv_108 | exact tyv_123 | exact tyv_146 | exact tyv_147 | exact tyv_148 | exact tyv_149) rfl (tZ rfl) (fun _ => rfl) rfl rfl ?_; intro N4 w4 hN4 H4 hb4
    replace H4 : PT w4 N4 46 (encD b) := H4
    replace hw := grow_trans hw hb4
    have HX4 := HX2.mono hw
    have HA4 := HA2.mono hw
    replace hG := hG.mono hw
    clear hw hb4
    have hw := Below.refl w4.heap.size w4
    by_cases hP : (1 ≤ b.acct ∧ b.acct ≤ 64) ∧ b.acct ≠ x2 ∧ (1 ≤ b.amt ∧ b.amt ≤ 1125899906842624) ∧ (z = 1 ∨ x6 ≤ b.amt)
    rotate_left
    · have hno : mayAu (⟨⟨x1, x2, x3, x4, x5, x6, x7, x8⟩, xs⟩ : Auc) = false := mayAu_f fun hm => hP ((hBP b).1 ((mayAu_ref.1 hm).2.2 k b hbk).1)
      repeat' (first | (refine lw_pure rfl (pv_move rfl) ?_) | (refine lw_pure rfl (pv_assign rfl) ?_) | (refine lw_call (f := 87) (by kernel_rfl) rfl rfl (rin17_c _ _ _) ?_; rintro e w1 ⟨rfl, hb⟩; refine ⟨_, rfl, ?_⟩; replace hw := grow_trans hw hb; clear hb) | (refine is_cw ?_; first | (refine cw_seq ?_) | (refine cw_region ?_) | (refine cw_true rfl rfl ?_) | (refine is_cd ?_; refine cw_true rfl (by first | assumption | exact decide_eq_true (by omega) | exact dec_notT (by omega)) ?_) | (refine cw_ret ?_)) | (refine is_qw ?_; first | (with_reducible refine qw_then ?_) | (with_reducible refine qw_then_ret ?_) | (with_reducible refine qw_in_ret ?_)) | (refine lw_nil ?_) | (refine is_guarded ?_; first | (refine lw_not rfl rfl rfl rfl ?_) | (refine lw_not_u rfl rfl rfl ?_) | (refine lw_on rfl rfl (by first | assumption | exact decide_eq_true (by omega) | exact decide_eq_false (by omega) | exact dec_notT (by omega) | exact dec_notF (by omega)) ?_) | (refine lw_not rfl rfl rfl (by first | assumption | exact decide_eq_true (by omega) | exact decide_eq_false (by omega) | exact dec_notT (by omega) | exact dec_notF (by omega)) ?_) | (refine lw_gs_f rfl rfl rfl (fun hc => ?_) (fun hc => ?_) <;> (first | replace hc := of_decide_eq_true hc | replace hc := of_decide_eq_false hc | replace hc := dec_nT hc | replace hc := dec_nF hc | skip) <;> (try (exfalso; omega)))) | ((refine is_bin ?_; first | (refine lw_pure rfl (pv_lss rfl rfl) ?_) | (refine lw_pure rfl (pv_eql rfl rfl) ?_))) | ((refine is_load ?_; first | (refine lw_pure rfl (pv_load (t1 rfl) rfl (by first | exact PT.ld0 (HX4.mono hw) rfl | exact PT.ld (HX4.mono hw) rfl | exact PT.ld0 (H4.mono hw) rfl | exact PT.ld (H4.mono hw) rfl)) ?_))) | ((refine is_fa ?_; first | (refine lw_pure rfl (pv_fa (tF rfl) rfl) ?_))) | ((refine is_un ?_; first | (refine lw_pure rfl (pv_not rfl) ?_))) | (refine is_pk ?_; refine lw_pure rfl (pv_pick_t rfl rfl rfl) ?_) | (refine is_pk ?_; refine lw_pure rfl (pv_pick_t rfl (by first | assumption | exact decide_eq_true (by omega) | exact dec_notT (by omega)) rfl) ?_) | (refine is_pk ?_; refine lw_pure rfl (pv_pick_f rfl (by first | assumption | exact decide_eq_false (by omega) | exact dec_notF (by omega)) rfl) ?_))
      all_goals exact qw_ret1 rfl rfl ⟨ret_bool hno.symm, (hE.mono (hG.mono hw).b).b⟩
    have hbp := (hBP b).2 hP
    obtain ⟨p1, p2, p3, p4⟩ := hP
    repeat' (first | (refine lw_pure rfl (pv_move rfl) ?_) | (refine lw_pure rfl (pv_assign rfl) ?_) | (refine lw_call (f := 87) (by kernel_rfl) rfl rfl (rin17_c _ _ _) ?_; rintro e w1 ⟨rfl, hb⟩; refine ⟨_, rfl, ?_⟩; replace hw := grow_trans hw hb; clear hb) | (refine is_cw ?_; first | (refine cw_seq ?_) | (refine cw_region ?_) | (refine cw_false rfl rfl ?_) | (refine is_cd ?_; refine cw_false rfl (by first | assumption | exact decide_eq_false (by omega) | exact dec_notF (by omega)) ?_) | (refine cw_skip ?_) | (refine cw_block ?_)) | (refine is_qw ?_; first | (with_reducible refine qw_then ?_)) | (refine lw_nil ?_) | (refine is_guarded ?_; first | (refine lw_on rfl rfl (by first | assumption | exact decide_eq_true (by omega) | exact decide_eq_false (by omega) | exact dec_notT (by omega) | exact dec_notF (by omega)) ?_) | (refine lw_not rfl rfl rfl (by first | assumption | exact decide_eq_true (by omega) | exact decide_eq_false (by omega) | exact dec_notT (by omega) | exact dec_notF (by omega)) ?_)) | ((refine is_bin ?_; first | (refine lw_pure rfl (pv_lss rfl rfl) ?_) | (refine lw_pure rfl (pv_eql rfl rfl) ?_))) | ((refine is_load ?_; first | (refine lw_pure rfl (pv_load (t1 rfl) rfl (by first | exact PT.ld0 (HX4.mono hw) rfl | exact PT.ld (HX4.mono hw) rfl | exact PT.ld0 (H4.mono hw) rfl | exact PT.ld (H4.mono hw) rfl)) ?_))) | ((refine is_fa ?_; first | (refine lw_pure rfl (pv_fa (tF rfl) rfl) ?_))) | ((refine is_un ?_; first | (refine lw_pure rfl (pv_not rfl) ?_))) | (refine is_pk ?_; refine lw_pure rfl (pv_pick_t rfl (by first | assumption | exact decide_eq_true (by omega) | exact dec_notT (by omega)) rfl) ?_) | (refine is_pk ?_; refine lw_pure rfl (pv_pick_f rfl (by first | assumption | exact decide_eq_false (by omega) | exact dec_notF (by omega)) rfl) ?_))
    refine cw_loop (σ := Nat) (fun j => [(1, .pointer (some ⟨N1, 0, none⟩)), (3, .int .i64 (k : Nat)), (4, .pointer (some ⟨N4, 0, none⟩)), (5, .int .i64 (j : Nat))]) (fun j wq => j ≤ k ∧ Below w4.heap.size w4 wq ∧ ∀ (i : Nat) c, i < j → xs[i]? = some c → c.acct ≠ b.acct) (fun j => k - j) 0 (by repeat' (first | exact trivial | refine ⟨rfl, ?_⟩)) ⟨Nat.zero_le _, hw, fun i b hi => by omega⟩ ?_
    clear hw
    rintro j wq ⟨hj, hw, hm⟩
    by_cases hlj : j < k
    rotate_left
    · repeat' (first | (refine lw_pure rfl (pv_move rfl) ?_) | (refine lw_pure rfl (pv_assign rfl) ?_) | (refine is_cw ?_; first | (refine cw_seq ?_) | (refine cw_region ?_) | (refine is_cd ?_; refine cw_false rfl (by first | assumption | exact decide_eq_false (by omega) | exact dec_notF (by omega)) ?_) | (refine cw_exit ?_)) | (refine is_qw ?_; first | (with_reducible refine qw_then ?_) | (with_reducible refine qw_in ?_) | (with_reducible refine qw_in_hit ?_) | (with_reducible refine qw_then_exit ?_)) | (refine lw_nil ?_) | ((refine is_bin ?_; first | (refine lw_pure rfl (pv_lss rfl rfl) ?_) | (refine lw_pure rfl (pv_inc rfl rfl (by omega)) ?_))))
      refine qw_round (k + 1) (by repeat' (first | exact trivial | refine ⟨rfl, ?_⟩)) ⟨by omega, (hG.mono hw).b, fun i c hi hc => ?_⟩ (by omega)
      by_cases hik : i = k
      · subst hik
        rw [hbk] at hc; injection hc with hc; subst hc
        exact ⟨hbp, fun j' c' hj' hc' => hm j' c' (by omega) hc'⟩
      · exact hn i c (by omega) hc
    have hcj : xs[j]? = some (xs[j]'(by omega)) := List.getElem?_eq_getElem _
    generalize xs[j]'(by omega) = c at hcj
    repeat' (first | (refine lw_pure rfl (pv_move rfl) ?_) | (refine is_cw ?_; first | (refine cw_seq ?_) | (refine cw_region ?_) | (refine is_cd ?_; refine cw_true rfl (by first | assumption | exact decide_eq_true (by omega) | exact dec_notT (by omega)) ?_) | (refine cw_skip ?_) | (refine cw_block ?_)) | (refine is_qw ?_; first | (with_reducible refine qw_then ?_)) | (refine lw_nil ?_) | ((refine is_bin ?_; first | (refine lw_pure rfl (pv_lss rfl rfl) ?_))))
    refine cw_drawn (fun w' => Below w4.heap.size w4 w') (by kernel_rfl) (by repeat (first | exact NoPanic.body | with_reducible refine NoPanic.then ?_ | with_reducible refine NoPanic.inBlock ?_)) (fun hNP => ?_)
    have hS := hw.drew
    (refine at0 0 rfl (fun w' hq => pv_fa (tF rfl) rfl) ?_)
    (refine at0 1 rfl (fun w' hq => pv_load (t1 rfl) rfl (by first | exact PT.ld0 (HX4.mono hq) rfl | exact PT.ld (HX4.mono hq) rfl | exact PT.ld0 (H4.mono hq) rfl | exact PT.ld (H4.mono hq) rfl | exact SlR.ld (HA4.mono hq) hcj rfl | exact SlR.ld1 (HA4.mono hq) hcj rfl)) ?_)
    (refine at0 2 rfl (fun w' hq => pv_move rfl) ?_)
    (refine at0 3 rfl (fun w' hq => pv_ian (tS rfl) rfl rfl (by omega)) ?_)
    (refine at0 4 rfl (fun w' hq => pv_fa (tF rfl) rfl) ?_)
    (refine at0 5 rfl (fun w' hq => pv_load (t1 rfl) rfl (by first | exact PT.ld0 (HX4.mono hq) rfl | exact PT.ld (HX4.mono hq) rfl | exact PT.ld0 (H4.mono hq) rfl | exact PT.ld (H4.mono hq) rfl | exact SlR.ld (HA4.mono hq) hcj rfl | exact SlR.ld1 (HA4.mono hq) hcj rfl)) ?_)
    (refine at0 6 rfl (fun w' hq => pv_fa (tF rfl) rfl) ?_)
    (refine at0 7 rfl (fun w' hq => pv_load (t1 rfl) rfl (by first | exact PT.ld0 (HX4.mono hq) rfl | exact PT.ld (HX4.mono hq) rfl | exact PT.ld0 (H4.mono hq) rfl | exact PT.ld (H4.mono hq) rfl | exact SlR.ld (HA4.mono hq) hcj rfl | exact SlR.ld1 (HA4.mono hq) hcj rfl)) ?_)
    (refine at0 8 rfl (fun w' hq => pv_eql rfl rfl) ?_)
    refine aw_done (by kernel_rfl) ?_
    replace hw := hS; clear hS hNP
    by_cases hca : c.acct = b.acct
    · have hno : mayAu (⟨⟨x1, x2, x3, x4, x5, x6, x7, x8⟩, xs⟩ : Auc) = false := mayAu_f fun hm => ((mayAu_ref.1 hm).2.2 k b hbk).2 j c hlj hcj hca
      repeat' (first | (refine lw_pure rfl (pv_assign rfl) ?_) | (refine is_cw ?_; first | (refine cw_seq ?_) | (refine cw_region ?_) | (refine is_cd ?_; refine cw_true rfl (by first | assumption | exact decide_eq_true (by omega) | exact dec_notT (by omega)) ?_) | (refine cw_ret ?_)) | (refine is_qw ?_; first | (with_reducible refine qw_then ?_) | (with_reducible refine qw_then_ret ?_) | (with_reducible refine qw_in_ret ?_)) | (refine lw_nil ?_))
      exact qw_ret1 rfl rfl ⟨ret_bool hno.symm, (hE.mono (hG.mono hw).b).b⟩
    · have hnx : ∀ (i : Nat) c', i < j + 1 → xs[i]? = some c' → c'.acct ≠ b.acct := fun i c' hi hc' => by
        by_cases hij : i = j
        · subst hij
          rw [hcj] at hc'; injection hc' with hc'; subst hc'; exact hca
        · exact hm i c' (by omega) hc'
      repeat' (first | (refine lw_pure rfl (pv_move rfl) ?_) | (refine lw_pure rfl (pv_assign rfl) ?_) | (refine is_cw ?_; first | (refine cw_seq ?_) | (refine cw_region ?_) | (refine is_cd ?_; refine cw_true rfl (by first | assumption | exact decide_eq_true (by omega) | exact dec_notT (by omega)) ?_) | (refine is_cd ?_; refine cw_false rfl (by first | assumption | exact decide_eq_false (by omega) | exact dec_notF (by omega)) ?_) | (refine cw_skip ?_) | (refine cw_ret ?_)) | (refine is_qw ?_; first | (with_reducible refine qw_then ?_) | (with_reducible refine qw_in ?_) | (with_reducible refine qw_then_ret ?_) | (with_reducible refine qw_in_ret ?_)) | (refine lw_nil ?_) | ((refine is_bin ?_; first | (refine lw_pure rfl (pv_inc rfl rfl (by omega)) ?_))))
      first | exact qw_round (j + 1) (by repeat' (first | exact trivial | refine ⟨rfl, ?_⟩)) ⟨by omega, hw, hnx⟩ (by omega) | exact qw_ret1 rfl rfl (by exfalso; omega)
theorem mayAus_ref {l : List Auc} : mayAus l = true ↔ (∀ (i : Nat) a, l[i]? = some a → mayAu a = true ∧ ∀ b, 0 < i → l[i - 1]? = some b → b.h.id < a.h.id) ∧ l.length ≤ 32 := by
  rw [mayAus_iff]
  constructor
  · rintro ⟨h1, h2, h3⟩
    exact ⟨fun i a ha => ⟨h1 a (List.mem_of_getElem? ha), fun b hi hb => rise_at (f := fun a : Auc => a.h.id) h2 hb ha (by omega)⟩, h3⟩
  · rintro ⟨h1, h2⟩
    exact ⟨all_get fun j a ha => (h1 j a ha).1, rise_adj (fun a : Auc => a.h.id) l fun j x y hx hy => (h1 (j + 1) y hy).2 x (by omega) hx, h2⟩
theorem ramay_e {x : AucC} {a : Auc} {b : Bool} {w : World} (h : mayAu a = b) (hR : AuR w x a) : Calls Tryz.prog 62 #[.agg (encC x).toArray] w fun e w' => e = .returned (.bool b) ∧ Below w.heap.size w w' := by subst h; exact ramay_c hR
set_option maxRecDepth 20000 in
set_option maxHeartbeats 4000000 in
theorem ramayAll_c {xs : List AucC} {l : List Auc} {m : Nat} {ad : Option Addr} {cap : Nat} {w : World} (hm : l.length = m) (HS : SlR encC 9 w ad cap xs) (HA : AusR w xs l) : Calls Tryz.prog 84 #[.slice ad m cap] w fun e w' => e = .returned (.bool (mayAus l)) ∧ Below w.heap.size w w' := by
  subst hm
  have hE := Ext.refl w
  have hw := Below.refl w.heap.size w
  have hla := HS.le
  have hma := HS.max
  have hln := HA.1
  refine fn_enter 37 Tryz.func84 rfl rfl rfl ?_
  repeat' (first | (refine lw_pure rfl (pv_assign rfl) ?_) | (refine is_cw ?_; first | (refine cw_seq ?_) | (refine cw_region ?_) | (refine cw_block ?_)) | (refine is_qw ?_; first | (with_reducible refine qw_then ?_)) | (refine lw_nil ?_))
  refine cw_loop (σ := Nat) (fun k => [(0, .slice ad l.length cap), (3, .int .i64 (k : Nat))]) (fun k wr => k ≤ l.length ∧ Below w.heap.size w wr ∧ ∀ (i : Nat) a, i < k → l[i]? = some a → mayAu a = true ∧ ∀ b, 0 < i → l[i - 1]? = some b → b.h.id < a.h.id) (fun k => l.length - k) 0 (by repeat' (first | exact trivial | refine ⟨rfl, ?_⟩)) ⟨Nat.zero_le _, hw, fun i b hi => by omega⟩ ?_
  clear hw
  rintro k wr ⟨hk, hw, hn⟩
  by_cases hlt : k < l.length
  rotate_left
  · have hok : mayAus l = decide (l.length ≤ 32) := by
      have h1 : ∀ (i : Nat) a, l[i]? = some a → mayAu a = true ∧ ∀ b, 0 < i → l[i - 1]? = some b → b.h.id < a.h.id := fun i a ha => hn i a (by have := (List.getElem?_eq_some_iff.1 ha).1; omega) ha
      rw [Bool.eq_iff_iff, mayAus_ref, decide_eq_true_eq]
      exact ⟨fun h => h.2, fun h => ⟨h1, h⟩⟩
    repeat' (first | (refine lw_pure rfl (pv_move rfl) ?_) | (refine lw_pure rfl (pv_assign rfl) ?_) | (refine is_cw ?_; first | (refine cw_seq ?_) | (refine cw_region ?_) | (refine is_cd ?_; refine cw_false rfl (by first | assumption | exact decide_eq_false (by omega) | exact dec_notF (by omega)) ?_) | (refine cw_exit ?_) | (refine cw_ret ?_)) | (refine is_qw ?_; first | (with_reducible refine qw_then ?_) | (with_reducible refine qw_in_hit ?_) | (with_reducible refine qw_then_exit ?_)) | (refine lw_nil ?_) | ((refine is_bin ?_; first | (refine lw_pure rfl (pv_lss rfl rfl) ?_) | (refine lw_pure rfl (pv_leq rfl rfl) ?_))) | ((refine is_bi ?_; first | (refine lw_pure rfl (pv_lenl (tS rfl) rfl) ?_))))
    exact qw_ret1 rfl rfl ⟨ret_bool (by rw [hok, Bool.eq_iff_iff]; simp only [decide_eq_true_eq]; omega), hw⟩
  have hak : l[k]? = some (l[k]'(by omega)) := List.getElem?_eq_getElem _
  generalize l[k]'(by omega) = a at hak
  obtain ⟨x, hxk, hR⟩ := HA.at hak
  obtain ⟨ab, ao, rfl, -, -⟩ := HS.at (by intro h; rw [h] at hxk; simp at hxk)
  have hE2 := hE.mono hw
  have HSr := HS.mono hw
  have hRr := hR.mono hw
  have hxa : x.h = a.h := hR.h
  clear hw
  have hw := Below.refl wr.heap.size wr
  repeat' (first | (refine lw_pure rfl (pv_move rfl) ?_) | (refine is_cw ?_; first | (refine cw_seq ?_) | (refine cw_region ?_) | (refine is_cd ?_; refine cw_true rfl (by first | assumption | exact decide_eq_true (by omega) | exact dec_notT (by omega)) ?_) | (refine cw_skip ?_) | (refine cw_block ?_)) | (refine is_qw ?_; first | (with_reducible refine qw_then ?_)) | (refine lw_nil ?_) | ((refine is_bin ?_; first | (refine lw_pure rfl (pv_lss rfl rfl) ?_))) | ((refine is_bi ?_; first | (refine lw_pure rfl (pv_lenl (tS rfl) rfl) ?_))))
  cases hma2 : mayAu a with
  | false =>
    have hno : mayAus l = false := mayAus_no1 hak hma2
    refine cw_drawn (fun w' => Below wr.heap.size wr w') (by kernel_rfl) (by repeat (first | exact NoPanic.body | with_reducible refine NoPanic.then ?_ | with_reducible refine NoPanic.inBlock ?_)) (fun hNP => ?_)
    have hS := hw.drew
    all_goals (refine at0 0 rfl (fun w' hq => pv_move rfl) ?_)
    all_goals (refine at0 1 rfl (fun w' hq => pv_move rfl) ?_)
    all_goals (refine at0 2 rfl (fun w' hq => pv_ian (tS rfl) rfl rfl (by omega)) ?_)
    all_goals (refine at0 3 rfl (fun w' hq => pv_loada (tA rfl) rfl (by first | exact SlR.lda (HSr.mono hq) hxk) (by rfl)) ?_)
    all_goals (refine aw_act 4 (by kernel_rfl) rfl rfl rfl ?_; refine act_call (f := 62) (by kernel_rfl) rfl (ramay_e hma2 (hRr.mono hS)) ?_; rintro e w1 ⟨rfl, hb⟩; refine ⟨_, rfl, grow_trans hS hb, fun hS => ?_⟩)
    all_goals (refine at0 5 rfl (fun w' hq => pv_not rfl) ?_)
    all_goals (refine at0 6 rfl (fun w' hq => pv_move rfl) ?_)
    all_goals (refine an1 7 rfl rfl rfl rfl ?_)
    all_goals (refine an1 8 rfl rfl rfl rfl ?_)
    all_goals (refine an1 9 rfl rfl rfl rfl ?_)
    all_goals (refine an0 10 rfl rfl rfl ?_)
    all_goals (refine an0 11 rfl rfl rfl ?_)
    all_goals (refine an0 12 rfl rfl rfl ?_)
    all_goals (refine an0 13 rfl rfl rfl ?_)
    all_goals (refine an0 14 rfl rfl rfl ?_)
    all_goals (refine an0 15 rfl rfl rfl ?_)
    all_goals (refine an0 16 rfl rfl rfl ?_)
    all_goals (refine an0 17 rfl rfl rfl ?_)
    all_goals (refine an0 18 rfl rfl rfl ?_)
    all_goals (refine an0 19 rfl rfl rfl ?_)
    all_goals (refine an0 20 rfl rfl rfl ?_)
    all_goals (refine an0 21 rfl rfl rfl ?_)
    all_goals (refine an1 22 rfl rfl rfl rfl ?_)
    all_goals (refine at0 23 rfl (fun w' hq => pv_pick_t rfl rfl rfl) ?_)
    all_goals (refine aw_done (by kernel_rfl) ?_; replace hw := hS; clear hS hNP)
    repeat' (first | (refine lw_pure rfl (pv_assign rfl) ?_) | (refine is_cw ?_; first | (refine cw_seq ?_) | (refine cw_region ?_) | (refine cw_true rfl rfl ?_) | (refine cw_ret ?_)) | (refine is_qw ?_; first | (with_reducible refine qw_then ?_) | (with_reducible refine qw_then_ret ?_) | (with_reducible refine qw_in_ret ?_)) | (refine lw_nil ?_))
    exact qw_ret1 rfl rfl ⟨ret_bool hno.symm, (hE2.mono hw).b⟩
  | true =>
    by_cases hk0 : 0 < k
    · have hpk : l[k - 1]? = some (l[k - 1]'(by omega)) := List.getElem?_eq_getElem _
      generalize l[k - 1]'(by omega) = p at hpk
      obtain ⟨y, hyk, hT⟩ := HA.at hpk
      have hya : y.h = p.h := hT.h
      have hidx : ((k : Nat) : Int) - 1 = ((k - 1 : Nat) : Int) := by omega
      have hlt1 : k - 1 < l.length := by omega
      by_cases hle : x.h.id ≤ y.h.id
      · have hno : mayAus l = false := by
          cases hq : mayAus l with
          | false => rfl
          | true =>
            have := ((mayAus_ref.1 hq).1 k a hak).2 p hk0 hpk
            rw [hxa, hya] at hle; omega
        refine cw_drawn (fun w' => Below wr.heap.size wr w') (by kernel_rfl) (by repeat (first | exact NoPanic.body | with_reducible refine NoPanic.then ?_ | with_reducible refine NoPanic.inBlock ?_)) (fun hNP => ?_)
        have hS := hw.drew
        all_goals (refine at0 0 rfl (fun w' hq => pv_move rfl) ?_)
        all_goals (refine at0 1 rfl (fun w' hq => pv_move rfl) ?_)
        all_goals (refine at0 2 rfl (fun w' hq => pv_ian (tS rfl) rfl rfl (by omega)) ?_)
        all_goals (refine at0 3 rfl (fun w' hq => pv_loada (tA rfl) rfl (by first | exact SlR.lda (HSr.mono hq) hxk | exact SlR.lda (HSr.mono hq) hyk) (by rfl)) ?_)
        all_goals (refine aw_act 4 (by kernel_rfl) rfl rfl rfl ?_; refine act_call (f := 62) (by kernel_rfl) rfl (ramay_e hma2 (hRr.mono hS)) ?_; rintro e w1 ⟨rfl, hb⟩; refine ⟨_, rfl, grow_trans hS hb, fun hS => ?_⟩)
        all_goals (refine at0 5 rfl (fun w' hq => pv_not rfl) ?_)
        all_goals (refine at0 6 rfl (fun w' hq => pv_move rfl) ?_)
        all_goals (refine at1 7 rfl rfl rfl rfl (fun w' hq => pv_move rfl) ?_)
        all_goals (refine at1 8 rfl rfl rfl rfl (fun w' hq => pv_gtr rfl rfl) ?_)
        all_goals (refine at1 9 rfl rfl rfl rfl (fun w' hq => pv_move rfl) ?_)
        all_goals (refine at2 10 rfl rfl rfl (fun w' hq => pv_move rfl) ?_)
        all_goals (refine at2 11 rfl rfl rfl (fun w' hq => pv_move rfl) ?_)
        all_goals (refine at2 12 rfl rfl rfl (fun w' hq => pv_ian (tS rfl) rfl rfl (by omega)) ?_)
        all_goals (refine at2 13 rfl rfl rfl (fun w' hq => pv_fa (tF rfl) rfl) ?_)
        all_goals (refine at2 14 rfl rfl rfl (fun w' hq => pv_load (t1 rfl) rfl (by first | exact SlR.ld (HSr.mono hq) hxk rfl | exact SlR.ld1 (HSr.mono hq) hxk rfl | exact SlR.ld (HSr.mono hq) hyk rfl | exact SlR.ld1 (HSr.mono hq) hyk rfl)) ?_)
        all_goals (refine at2 15 rfl rfl rfl (fun w' hq => pv_move rfl) ?_)
        all_goals (refine at2 16 rfl rfl rfl (fun w' hq => pv_move rfl) ?_)
        all_goals (refine at2 17 rfl rfl rfl (fun w' hq => pv_sub rfl rfl (by omega)) ?_)
        all_goals (refine at2 18 rfl rfl rfl (fun w' hq => pv_iap hidx (tS rfl) rfl rfl hlt1) ?_)
        all_goals (refine at2 19 rfl rfl rfl (fun w' hq => pv_fa (tF rfl) rfl) ?_)
        all_goals (refine at2 20 rfl rfl rfl (fun w' hq => pv_load (t1 rfl) rfl (by first | exact SlR.ld (HSr.mono hq) hxk rfl | exact SlR.ld1 (HSr.mono hq) hxk rfl | exact SlR.ld (HSr.mono hq) hyk rfl | exact SlR.ld1 (HSr.mono hq) hyk rfl)) ?_)
        all_goals (refine at2 21 rfl rfl rfl (fun w' hq => pv_leq rfl rfl) ?_)
        all_goals (refine at1 22 rfl rfl rfl rfl (fun w' hq => pv_pick_t rfl (by first | assumption | exact decide_eq_true (by omega) | exact dec_notT (by omega)) rfl) ?_)
        all_goals (refine at0 23 rfl (fun w' hq => pv_pick_f rfl rfl rfl) ?_)
        all_goals (refine aw_done (by kernel_rfl) ?_; replace hw := hS; clear hS hNP)
        repeat' (first | (refine lw_pure rfl (pv_assign rfl) ?_) | (refine is_cw ?_; first | (refine cw_seq ?_) | (refine cw_region ?_) | (refine is_cd ?_; refine cw_true rfl (by first | assumption | exact decide_eq_true (by omega) | exact dec_notT (by omega)) ?_) | (refine cw_ret ?_)) | (refine is_qw ?_; first | (with_reducible refine qw_then ?_) | (with_reducible refine qw_then_ret ?_) | (with_reducible refine qw_in_ret ?_)) | (refine lw_nil ?_))
        exact qw_ret1 rfl rfl ⟨ret_bool hno.symm, (hE2.mono hw).b⟩
      · skip
        refine cw_drawn (fun w' => Below wr.heap.size wr w') (by kernel_rfl) (by repeat (first | exact NoPanic.body | with_reducible refine NoPanic.then ?_ | with_reducible refine NoPanic.inBlock ?_)) (fun hNP => ?_)
        have hS := hw.drew
        all_goals (refine at0 0 rfl (fun w' hq => pv_move rfl) ?_)
        all_goals (refine at0 1 rfl (fun w' hq => pv_move rfl) ?_)
        all_goals (refine at0 2 rfl (fun w' hq => pv_ian (tS rfl) rfl rfl (by omega)) ?_)
        all_goals (refine at0 3 rfl (fun w' hq => pv_loada (tA rfl) rfl (by first | exact SlR.lda (HSr.mono hq) hxk | exact SlR.lda (HSr.mono hq) hyk) (by rfl)) ?_)
        all_goals (refine aw_act 4 (by kernel_rfl) rfl rfl rfl ?_; refine act_call (f := 62) (by kernel_rfl) rfl (ramay_e hma2 (hRr.mono hS)) ?_; rintro e w1 ⟨rfl, hb⟩; refine ⟨_, rfl, grow_trans hS hb, fun hS => ?_⟩)
        all_goals (refine at0 5 rfl (fun w' hq => pv_not rfl) ?_)
        all_goals (refine at0 6 rfl (fun w' hq => pv_move rfl) ?_)
        all_goals (refine at1 7 rfl rfl rfl rfl (fun w' hq => pv_move rfl) ?_)
        all_goals (refine at1 8 rfl rfl rfl rfl (fun w' hq => pv_gtr rfl rfl) ?_)
        all_goals (refine at1 9 rfl rfl rfl rfl (fun w' hq => pv_move rfl) ?_)
        all_goals (refine at2 10 rfl rfl rfl (fun w' hq => pv_move rfl) ?_)
        all_goals (refine at2 11 rfl rfl rfl (fun w' hq => pv_move rfl) ?_)
        all_goals (refine at2 12 rfl rfl rfl (fun w' hq => pv_ian (tS rfl) rfl rfl (by omega)) ?_)
        all_goals (refine at2 13 rfl rfl rfl (fun w' hq => pv_fa (tF rfl) rfl) ?_)
        all_goals (refine at2 14 rfl rfl rfl (fun w' hq => pv_load (t1 rfl) rfl (by first | exact SlR.ld (HSr.mono hq) hxk rfl | exact SlR.ld1 (HSr.mono hq) hxk rfl | exact SlR.ld (HSr.mono hq) hyk rfl | exact SlR.ld1 (HSr.mono hq) hyk rfl)) ?_)
        all_goals (refine at2 15 rfl rfl rfl (fun w' hq => pv_move rfl) ?_)
        all_goals (refine at2 16 rfl rfl rfl (fun w' hq => pv_move rfl) ?_)
        all_goals (refine at2 17 rfl rfl rfl (fun w' hq => pv_sub rfl rfl (by omega)) ?_)
        all_goals (refine at2 18 rfl rfl rfl (fun w' hq => pv_iap hidx (tS rfl) rfl rfl hlt1) ?_)
        all_goals (refine at2 19 rfl rfl rfl (fun w' hq => pv_fa (tF rfl) rfl) ?_)
        all_goals (refine at2 20 rfl rfl rfl (fun w' hq => pv_load (t1 rfl) rfl (by first | exact SlR.ld (HSr.mono hq) hxk rfl | exact SlR.ld1 (HSr.mono hq) hxk rfl | exact SlR.ld (HSr.mono hq) hyk rfl | exact SlR.ld1 (HSr.mono hq) hyk rfl)) ?_)
        all_goals (refine at2 21 rfl rfl rfl (fun w' hq => pv_leq rfl rfl) ?_)
        all_goals (refine at1 22 rfl rfl rfl rfl (fun w' hq => pv_pick_t rfl (by first | assumption | exact decide_eq_true (by omega) | exact dec_notT (by omega)) rfl) ?_)
        all_goals (refine at0 23 rfl (fun w' hq => pv_pick_f rfl rfl rfl) ?_)
        all_goals (refine aw_done (by kernel_rfl) ?_; replace hw := hS; clear hS hNP)
        repeat' (first | (refine lw_pure rfl (pv_move rfl) ?_) | (refine lw_pure rfl (pv_assign rfl) ?_) | (refine is_cw ?_; first | (refine cw_region ?_) | (refine is_cd ?_; refine cw_false rfl (by first | assumption | exact decide_eq_false (by omega) | exact dec_notF (by omega)) ?_) | (refine cw_skip ?_)) | (refine is_qw ?_; first | (with_reducible refine qw_then ?_) | (with_reducible refine qw_in ?_)) | (refine lw_nil ?_) | ((refine is_bin ?_; first | (refine lw_pure rfl (pv_inc rfl rfl (by omega)) ?_))))
        refine qw_round (k + 1) (by repeat' (first | exact trivial | refine ⟨rfl, ?_⟩)) ⟨by omega, (hE2.mono hw).b, fun i c hi hc => ?_⟩ (by omega)
        by_cases hik : i = k
        · subst hik
          rw [hak] at hc; injection hc with hc; subst hc
          exact ⟨hma2, fun b _ hb => by rw [hpk] at hb; injection hb with hb; subst hb; rw [← hxa, ← hya]; omega⟩
        · exact hn i c (by omega) hc
    · skip
      refine cw_drawn (fun w' => Below wr.heap.size wr w') (by kernel_rfl) (by repeat (first | exact NoPanic.body | with_reducible refine NoPanic.then ?_ | with_reducible refine NoPanic.inBlock ?_)) (fun hNP => ?_)
      have hS := hw.drew
      all_goals (refine at0 0 rfl (fun w' hq => pv_move rfl) ?_)
      all_goals (refine at0 1 rfl (fun w' hq => pv_move rfl) ?_)
      all_goals (refine at0 2 rfl (fun w' hq => pv_ian (tS rfl) rfl rfl (by omega)) ?_)
      all_goals (refine at0 3 rfl (fun w' hq => pv_loada (tA rfl) rfl (by first | exact SlR.lda (HSr.mono hq) hxk) (by rfl)) ?_)
      all_goals (refine aw_act 4 (by kernel_rfl) rfl rfl rfl ?_; refine act_call (f := 62) (by kernel_rfl) rfl (ramay_e hma2 (hRr.mono hS)) ?_; rintro e w1 ⟨rfl, hb⟩; refine ⟨_, rfl, grow_trans hS hb, fun hS => ?_⟩)
      all_goals (refine at0 5 rfl (fun w' hq => pv_not rfl) ?_)
      all_goals (refine at0 6 rfl (fun w' hq => pv_move rfl) ?_)
      all_goals (refine at1 7 rfl rfl rfl rfl (fun w' hq => pv_move rfl) ?_)
      all_goals (refine at1 8 rfl rfl rfl rfl (fun w' hq => pv_gtr rfl rfl) ?_)
      all_goals (refine at1 9 rfl rfl rfl rfl (fun w' hq => pv_move rfl) ?_)
      all_goals (refine an2 10 rfl rfl rfl ?_)
      all_goals (refine an2 11 rfl rfl rfl ?_)
      all_goals (refine an2 12 rfl rfl rfl ?_)
      all_goals (refine an2 13 rfl rfl rfl ?_)
      all_goals (refine an2 14 rfl rfl rfl ?_)
      all_goals (refine an2 15 rfl rfl rfl ?_)
      all_goals (refine an2 16 rfl rfl rfl ?_)
      all_goals (refine an2 17 rfl rfl rfl ?_)
      all_goals (refine an2 18 rfl rfl rfl ?_)
      all_goals (refine an2 19 rfl rfl rfl ?_)
      all_goals (refine an2 20 rfl rfl rfl ?_)
      all_goals (refine an2 21 rfl rfl rfl ?_)
      all_goals (refine at1 22 rfl rfl rfl rfl (fun w' hq => pv_pick_f rfl (by first | assumption | exact decide_eq_false (by omega) | exact dec_notF (by omega)) rfl) ?_)
      all_goals (refine at0 23 rfl (fun w' hq => pv_pick_f rfl rfl rfl) ?_)
      all_goals (refine aw_done (by kernel_rfl) ?_; replace hw := hS; clear hS hNP)
      repeat' (first | (refine lw_pure rfl (pv_move rfl) ?_) | (refine lw_pure rfl (pv_assign rfl) ?_) | (refine is_cw ?_; first | (refine cw_region ?_) | (refine cw_false rfl rfl ?_) | (refine cw_skip ?_)) | (refine is_qw ?_; first | (with_reducible refine qw_then ?_) | (with_reducible refine qw_in ?_)) | (refine lw_nil ?_) | ((refine is_bin ?_; first | (refine lw_pure rfl (pv_inc rfl rfl (by omega)) ?_))))
      refine qw_round (k + 1) (by repeat' (first | exact trivial | refine ⟨rfl, ?_⟩)) ⟨by omega, (hE2.mono hw).b, fun i c hi hc => ?_⟩ (by omega)
      by_cases hik : i = k
      · subst hik
        rw [hak] at hc; injection hc with hc; subst hc
        exact ⟨hma2, fun b hb0 _ => absurd hb0 hk0⟩
      · exact hn i c (by omega) hc

theorem heldL_one (k : Int × Int) (n : Int) (q : Int × Int) : heldL [(k, n)] q = if k = q then n else 0 := by
  rw [heldL_cons]; simp [heldL]
theorem heldL_partO (o : Ord) (a i : Int) : heldL (partO o) (a, i) = if o.acct = a ∧ holdsA o = i then holdsN o else 0 := by
  unfold partO
  have h0 := (holdsN_bd o).1
  split
  · rw [heldL_one]; simp [Prod.mk.injEq]
  · have : holdsN o = 0 := by omega
    rw [this]; simp [heldL]
theorem take_flat {α β : Type} (f : α → List β) (l : List α) (k : Nat) : ((l.take k).flatMap f).length ≤ (l.flatMap f).length := by
  have h : l.flatMap f = (l.take k).flatMap f ++ (l.drop k).flatMap f := by rw [← List.flatMap_append, List.take_append_drop]
  rw [h, List.length_append]; omega
theorem take_flat1 {α β : Type} (f : α → List β) {l : List α} {k : Nat} {x : α} (h : l[k]? = some x) : (l.take (k + 1)).flatMap f = (l.take k).flatMap f ++ f x := by
  rw [List.take_add_one, h]; simp
def partB (b : Bid) : PartT := ((b.acct, 0), b.amt)
def partAk (a : Auc) (j : Nat) : List PartT := ((a.h.seller, a.h.inst), a.h.qty) :: (a.bids.take j).map partB
theorem partA_yes {a : Auc} (h : mayAu a = true) : partA a = partAk a a.bids.length := by
  unfold partA partAk; rw [if_pos h, List.take_length]; rfl
theorem partA_no {a : Auc} (h : mayAu a = false) : partA a = [] := by
  unfold partA; rw [h]; rfl
theorem partAk_step {a : Auc} {j : Nat} {b : Bid} (h : a.bids[j]? = some b) : partAk a (j + 1) = partAk a j ++ [partB b] := by
  unfold partAk; rw [List.take_add_one, h]; simp
theorem partAk_len (a : Auc) {j : Nat} (hj : j ≤ a.bids.length) : (partAk a j).length = j + 1 := by
  unfold partAk; simp; omega
theorem heldL_B (b : Bid) (a i : Int) : heldL [partB b] (a, i) = if b.acct = a ∧ i = 0 then b.amt else 0 := by
  unfold partB; rw [heldL_one]; simp only [Prod.mk.injEq]
  by_cases h : b.acct = a <;> by_cases h2 : i = 0
  · subst h h2; simp
  · rw [if_neg (by omega), if_neg (by omega)]
  · rw [if_neg (by omega), if_neg (by omega)]
  · rw [if_neg (by omega), if_neg (by omega)]
theorem heldL_A0 (x : Auc) (a i : Int) : heldL (partAk x 0) (a, i) = if x.h.seller = a ∧ x.h.inst = i then x.h.qty else 0 := by
  unfold partAk; simp only [List.take_zero, List.map_nil]; rw [heldL_one]; simp [Prod.mk.injEq]
theorem bd_of {l : List PartT} {k : Int × Int} (h : ∀ p ∈ l, 1 ≤ p.2 ∧ p.2 ≤ 1125899906842624) (hl : l.length ≤ 8000) : 0 ≤ heldL l k ∧ heldL l k ≤ 9007199254740992000 := by
  have := heldL_bd (k := k) h
  omega
theorem partAk_mem {a : Auc} (h : mayAu a = true) {j : Nat} : ∀ p ∈ partAk a j, 1 ≤ p.2 ∧ p.2 ≤ 1125899906842624 := fun p hp => by
  refine (partA_in (a := a) p ?_).2.2
  rw [partA_yes h]
  unfold partAk at hp ⊢
  rw [List.take_length]
  rcases List.mem_cons.1 hp with h1 | h1
  · exact List.mem_cons.2 (Or.inl h1)
  · refine List.mem_cons.2 (Or.inr ?_)
    obtain ⟨b, hb, rfl⟩ := List.mem_map.1 h1
    exact List.mem_map.2 ⟨b, List.mem_of_mem_take hb, rfl⟩
set_option maxRecDepth 20000 in
set_option maxHeartbeats 8000000 in
theorem rheld_c {s : SttC} {t : Stt} {a i : Int} {w : World} (hS0 : StR w s t) (hN : (partsP t.ords t.aucs).length ≤ 8000) : Calls Tryz.prog 27 #[(.agg (encS s).toArray), .int .i64 a, .int .i64 i] w fun e w' => e = .returned (.int .i64 (heldP t a i)) ∧ Below w.heap.size w w' := by
  have hE := Ext.refl w
  have hw := Below.refl w.heap.size w
  obtain ⟨c1, c2, c3, c4, pa, ma, ca, pi, mi, ci, pr, mr, cr, po, mo, co, px, mx, cx⟩ := s; obtain ⟨⟨e1, e2, e3, e4⟩, hma, hmi, hmr, hmo, hmx, HA, HI, HR, HO, HXs⟩ := hS0; simp only at e1 e2 e3 e4 hma hmi hmr hmo hmx HA HI HR HO HXs; subst e1 e2 e3 e4 hma hmi hmr hmo hmx
  obtain ⟨xs, HX9, HAs⟩ := HXs
  have hol := HO.le
  have hom := HO.max
  have hxl := HX9.le
  have hxm := HX9.max
  have hxn := HAs.1
  have hNl : (t.ords.flatMap partO).length + (t.aucs.flatMap partA).length ≤ 8000 := by
    have := hN; unfold partsP at this; rwa [List.length_append] at this
  refine fn_enter 103 Tryz.func27 rfl rfl rfl ?_
  repeat' (first | (refine is_cw ?_; first | (refine cw_seq ?_) | (refine cw_region ?_)))
  refine lw_boxN rfl rfl (cs := [.int .i64 t.clock, .int .i64 t.fee, .int .i64 t.nord, .int .i64 t.nauc, .slice pa t.accs.length ca, .slice pi t.inss.length ci, .slice pr t.rows.length cr, .slice po t.ords.length co, .slice px t.aucs.length cx]) rfl ?_; intro N3 wn hN3 HX hb; replace hN3 := Nat.le_trans hw.size hN3; replace hw := grow_trans hw hb; clear hb
  replace hE := hE.mono hw; replace HO := HO.mono hw; replace HX9 := HX9.mono hw; replace HAs := HAs.mono hw; clear hw; have hw := Below.refl wn.heap.size wn
  repeat' (first | (refine lw_pure rfl (pv_assign rfl) ?_) | (refine is_cw ?_; first | (refine cw_seq ?_) | (refine cw_region ?_) | (refine cw_block ?_)) | (refine is_qw ?_; first | (with_reducible refine qw_then ?_)) | (refine lw_nil ?_))
  refine cw_loop (σ := Nat) (fun k => [(1, .int .i64 a), (2, .int .i64 i), (3, .pointer (some ⟨N3, 0, none⟩)), (7, .int .i64 (heldL ((t.ords.take k).flatMap partO) (a, i))), (8, .int .i64 (k : Nat))]) (fun k wr => k ≤ t.ords.length ∧ Below wn.heap.size wn wr) (fun k => t.ords.length - k) 0 (by repeat' (first | exact trivial | refine ⟨rfl, ?_⟩)) ⟨Nat.zero_le _, hw⟩ ?_
  clear hw
  rintro k wr ⟨hk, hw⟩
  by_cases hlt : k < t.ords.length
  · have hok : t.ords[k]? = some (t.ords[k]'(by omega)) := List.getElem?_eq_getElem _
    generalize t.ords[k]'(by omega) = o at hok
    obtain ⟨ab, ao, rfl, -, -⟩ := HO.at (by intro h; rw [h] at hlt; simp at hlt)
    have hst := take_flat1 partO hok
    have h1 := bd_of (k := (a, i)) (l := (t.ords.take (k + 1)).flatMap partO) (fun p hp => by obtain ⟨o', _, ho'⟩ := List.mem_flatMap.1 hp; exact partO_bd p ho') (Nat.le_trans (take_flat _ _ _) (by omega))
    have h2 := bd_of (k := (a, i)) (l := (t.ords.take k).flatMap partO) (fun p hp => by obtain ⟨o', _, ho'⟩ := List.mem_flatMap.1 hp; exact partO_bd p ho') (Nat.le_trans (take_flat _ _ _) (by omega))
    rw [hst, heldL_app, heldL_partO] at h1
    repeat' (first | (refine lw_pure rfl (pv_move rfl) ?_) | (refine is_cw ?_; first | (refine cw_seq ?_) | (refine cw_region ?_) | (refine is_cd ?_; refine cw_true rfl (by first | assumption | exact decide_eq_true (by omega) | exact dec_notT (by omega)) ?_) | (refine cw_skip ?_) | (refine cw_block ?_)) | (refine is_qw ?_; first | (with_reducible refine qw_then ?_)) | (refine lw_nil ?_) | ((refine is_bin ?_; first | (refine lw_pure rfl (pv_lss rfl rfl) ?_))) | ((refine is_load ?_; first | (refine lw_pure rfl (pv_load (t1 rfl) rfl (by first | exact PT.ld0 (HX.mono hw) rfl | exact PT.ld (HX.mono hw) rfl | exact SlR.ld (HO.mono hw) hok rfl | exact SlR.ld1 (HO.mono hw) hok rfl)) ?_) | (refine lw_pure rfl (pv_loada (tA rfl) rfl (by first | exact PT.lda (HX.mono hw) | exact SlR.lda (HO.mono hw) hok) (by rfl)) ?_))) | ((refine is_fa ?_; first | (refine lw_pure rfl (pv_fa (tF rfl) rfl) ?_))) | ((refine is_ia ?_; first | (refine lw_pure rfl (pv_ian (tS rfl) rfl rfl (by omega)) ?_))) | ((refine is_bi ?_; first | (refine lw_pure rfl (pv_lenl (tS rfl) rfl) ?_))))
    refine lw_call (f := 61) (by kernel_rfl) rfl rfl (rholds_c _ _) ?_; rintro e w1 ⟨rfl, hb⟩; refine ⟨_, rfl, ?_⟩; replace hw := grow_trans hw hb; clear hb
    by_cases hcc : o.acct = a ∧ holdsA o = i
    · rw [if_pos hcc] at h1
      obtain ⟨q1, q2⟩ := hcc
      repeat' (first | (refine lw_pure rfl (pv_move rfl) ?_) | (refine lw_pure rfl (pv_assign rfl) ?_) | (refine is_cw ?_; first | (refine cw_seq ?_) | (refine cw_region ?_) | (refine is_cd ?_; refine cw_true rfl (by first | assumption | exact decide_eq_true (by omega) | exact dec_notT (by omega)) ?_)) | (refine is_qw ?_; first | (with_reducible refine qw_then ?_) | (with_reducible refine qw_in ?_)) | (refine lw_nil ?_) | (refine is_guarded ?_; first | (refine lw_on rfl rfl (by first | assumption | exact decide_eq_true (by omega) | exact decide_eq_false (by omega) | exact dec_notT (by omega) | exact dec_notF (by omega)) ?_)) | ((refine is_bin ?_; first | (refine lw_pure rfl (pv_eql rfl rfl) ?_) | (refine lw_pure rfl (pv_inc rfl rfl (by omega)) ?_) | (refine lw_pure rfl (pv_add rfl rfl (by omega)) ?_))) | ((refine is_load ?_; first | (refine lw_pure rfl (pv_load (t1 rfl) rfl (by first | exact PT.ld0 (HX.mono hw) rfl | exact PT.ld (HX.mono hw) rfl | exact SlR.ld (HO.mono hw) hok rfl | exact SlR.ld1 (HO.mono hw) hok rfl)) ?_))) | ((refine is_fa ?_; first | (refine lw_pure rfl (pv_fa (tF rfl) rfl) ?_))) | ((refine is_ia ?_; first | (refine lw_pure rfl (pv_ian (tS rfl) rfl rfl (by omega)) ?_))) | (refine is_pk ?_; refine lw_pure rfl (pv_pick_t rfl (by first | assumption | exact decide_eq_true (by omega) | exact dec_notT (by omega)) rfl) ?_) | (refine lw_pure rfl (pv_extract rfl rfl) ?_))
      refine qw_round (k + 1) (by rw [hst, heldL_app, heldL_partO, if_pos ⟨q1, q2⟩]; exact (by repeat' (first | exact trivial | refine ⟨rfl, ?_⟩))) ⟨by omega, hw⟩ (by omega)
    · repeat' (first | (refine lw_pure rfl (pv_move rfl) ?_) | (refine lw_pure rfl (pv_assign rfl) ?_) | (refine is_cw ?_; first | (refine cw_seq ?_) | (refine cw_region ?_) | (refine cw_false rfl rfl ?_) | (refine is_cd ?_; refine cw_false rfl (by first | assumption | exact decide_eq_false (by omega) | exact dec_notF (by omega)) ?_) | (refine cw_skip ?_)) | (refine is_qw ?_; first | (with_reducible refine qw_then ?_) | (with_reducible refine qw_in ?_)) | (refine lw_nil ?_) | (refine is_guarded ?_; first | (refine lw_on rfl rfl (by first | assumption | exact decide_eq_true (by omega) | exact decide_eq_false (by omega) | exact dec_notT (by omega) | exact dec_notF (by omega)) ?_) | (refine lw_not rfl rfl rfl (by first | assumption | exact decide_eq_true (by omega) | exact decide_eq_false (by omega) | exact dec_notT (by omega) | exact dec_notF (by omega)) ?_) | (refine lw_gs_t rfl rfl rfl (fun hc => ?_) (fun hc => ?_) <;> (first | replace hc := of_decide_eq_true hc | replace hc := of_decide_eq_false hc | replace hc := dec_nT hc | replace hc := dec_nF hc | skip) <;> (try (exfalso; omega)))) | ((refine is_bin ?_; first | (refine lw_pure rfl (pv_eql rfl rfl) ?_) | (refine lw_pure rfl (pv_inc rfl rfl (by omega)) ?_))) | ((refine is_load ?_; first | (refine lw_pure rfl (pv_load (t1 rfl) rfl (by first | exact PT.ld0 (HX.mono hw) rfl | exact PT.ld (HX.mono hw) rfl | exact SlR.ld (HO.mono hw) hok rfl | exact SlR.ld1 (HO.mono hw) hok rfl)) ?_))) | ((refine is_fa ?_; first | (refine lw_pure rfl (pv_fa (tF rfl) rfl) ?_))) | ((refine is_ia ?_; first | (refine lw_pure rfl (pv_ian (tS rfl) rfl rfl (by omega)) ?_))) | (refine is_pk ?_; refine lw_pure rfl (pv_pick_t rfl (by first | assumption | exact decide_eq_true (by omega) | exact dec_notT (by omega)) rfl) ?_) | (refine is_pk ?_; refine lw_pure rfl (pv_pick_f rfl (by first | assumption | exact decide_eq_false (by omega) | exact dec_notF (by omega)) rfl) ?_) | (refine lw_pure rfl (pv_extract rfl rfl) ?_))
      all_goals refine qw_round (k + 1) (by rw [hst, heldL_app, heldL_partO, if_neg hcc, Int.add_zero]; exact (by repeat' (first | exact trivial | refine ⟨rfl, ?_⟩))) ⟨by omega, hw⟩ (by omega)
  have hke : k = t.ords.length := by omega
  subst hke
  rw [List.take_length]
  clear hk hlt
  have hb3 : ∀ (k : Nat) (j : Nat) (x : Auc), t.aucs[k]? = some x → mayAu x = true → j ≤ x.bids.length → 0 ≤ heldL (t.ords.flatMap partO ++ (t.aucs.take k).flatMap partA ++ partAk x j) (a, i) ∧ heldL (t.ords.flatMap partO ++ (t.aucs.take k).flatMap partA ++ partAk x j) (a, i) ≤ 9007199254740992000 := fun k j x hx hm hj => by
    refine bd_of (fun p hp => ?_) ?_
    · rw [List.mem_append, List.mem_append] at hp
      rcases hp with (hp | hp) | hp
      · obtain ⟨o', _, ho'⟩ := List.mem_flatMap.1 hp; exact partO_bd p ho'
      · obtain ⟨o', _, ho'⟩ := List.mem_flatMap.1 hp; exact (partA_in p ho').2.2
      · exact partAk_mem hm p hp
    · have h1 := take_flat partA t.aucs (k + 1)
      rw [take_flat1 partA hx, List.length_append, partA_yes hm, partAk_len x (Nat.le_refl _)] at h1
      rw [List.length_append, List.length_append, partAk_len x hj]; omega
  repeat' (first | (refine lw_pure rfl (pv_move rfl) ?_) | (refine lw_pure rfl (pv_assign rfl) ?_) | (refine is_cw ?_; first | (refine cw_seq ?_) | (refine cw_region ?_) | (refine is_cd ?_; refine cw_false rfl (by first | assumption | exact decide_eq_false (by omega) | exact dec_notF (by omega)) ?_) | (refine cw_block ?_) | (refine cw_exit ?_)) | (refine is_qw ?_; first | (with_reducible refine qw_then ?_) | (with_reducible refine qw_in_hit ?_) | (with_reducible refine qw_then_exit ?_)) | (refine lw_nil ?_) | ((refine is_bin ?_; first | (refine lw_pure rfl (pv_lss rfl rfl) ?_))) | ((refine is_load ?_; first | (refine lw_pure rfl (pv_load (t1 rfl) rfl (by first | exact PT.ld0 (HX.mono hw) rfl | exact PT.ld (HX.mono hw) rfl)) ?_))) | ((refine is_fa ?_; first | (refine lw_pure rfl (pv_fa (tF rfl) rfl) ?_))) | ((refine is_bi ?_; first | (refine lw_pure rfl (pv_lenl (tS rfl) rfl) ?_))))
  rw [← List.append_nil (t.ords.flatMap partO)]
  refine cw_loop (σ := Nat) (fun k => [(1, .int .i64 a), (2, .int .i64 i), (3, .pointer (some ⟨N3, 0, none⟩)), (7, .int .i64 (heldL (t.ords.flatMap partO ++ (t.aucs.take k).flatMap partA) (a, i))), (11, .int .i64 (k : Nat))]) (fun k wr => k ≤ t.aucs.length ∧ Below wn.heap.size wn wr) (fun k => t.aucs.length - k) 0 (by repeat' (first | exact trivial | refine ⟨rfl, ?_⟩)) ⟨Nat.zero_le _, hw⟩ ?_
  clear hw
  rintro k wr ⟨hk, hw⟩
  by_cases hlt : k < t.aucs.length
  rotate_left
  · have hke : k = t.aucs.length := by omega
    subst hke
    rw [List.take_length]
    repeat' (first | (refine lw_pure rfl (pv_move rfl) ?_) | (refine lw_pure rfl (pv_assign rfl) ?_) | (refine is_cw ?_; first | (refine cw_seq ?_) | (refine cw_region ?_) | (refine is_cd ?_; refine cw_false rfl (by first | assumption | exact decide_eq_false (by omega) | exact dec_notF (by omega)) ?_) | (refine cw_exit ?_) | (refine cw_ret ?_)) | (refine is_qw ?_; first | (with_reducible refine qw_then ?_) | (with_reducible refine qw_in_hit ?_) | (with_reducible refine qw_then_exit ?_)) | (refine lw_nil ?_) | ((refine is_bin ?_; first | (refine lw_pure rfl (pv_lss rfl rfl) ?_))) | ((refine is_load ?_; first | (refine lw_pure rfl (pv_load (t1 rfl) rfl (by first | exact PT.ld0 (HX.mono hw) rfl | exact PT.ld (HX.mono hw) rfl)) ?_))) | ((refine is_fa ?_; first | (refine lw_pure rfl (pv_fa (tF rfl) rfl) ?_))) | ((refine is_bi ?_; first | (refine lw_pure rfl (pv_lenl (tS rfl) rfl) ?_))))
    exact qw_ret1 rfl rfl ⟨rfl, (hE.mono hw).b⟩
  have hak : t.aucs[k]? = some (t.aucs[k]'(by omega)) := List.getElem?_eq_getElem _
  generalize t.aucs[k]'(by omega) = x at hak
  obtain ⟨x9, hxk, hR⟩ := HAs.at hak
  obtain ⟨xh, ba, bm, bc⟩ := x9
  obtain ⟨hh, hm, HB0⟩ := hR
  simp only at hh hm HB0
  subst hh hm
  have hbl := HB0.le
  have hbm := HB0.max
  have hfl := take_flat1 partA hak
  have hb4 := hb3 k
  obtain ⟨ab, ao, rfl, -, -⟩ := HX9.at (by intro h; rw [h] at hxk; simp at hxk)
  have hG := Ext.mk hw
  have HX2 := HX.mono hw
  have HX92 := HX9.mono hw
  have HB2 := HB0.mono hw
  clear hw
  have hw := Below.refl wr.heap.size wr
  repeat' (first | (refine lw_pure rfl (pv_move rfl) ?_) | (refine is_cw ?_; first | (refine cw_seq ?_) | (refine cw_region ?_) | (refine is_cd ?_; refine cw_true rfl (by first | assumption | exact decide_eq_true (by omega) | exact dec_notT (by omega)) ?_) | (refine cw_skip ?_) | (refine cw_block ?_)) | (refine is_qw ?_; first | (with_reducible refine qw_then ?_)) | (refine lw_nil ?_) | ((refine is_bin ?_; first | (refine lw_pure rfl (pv_lss rfl rfl) ?_))) | ((refine is_load ?_; first | (refine lw_pure rfl (pv_load (t1 rfl) rfl (by first | exact PT.ld0 (HX2.mono hw) rfl | exact PT.ld (HX2.mono hw) rfl | exact SlR.ld (HX92.mono hw) hxk rfl | exact SlR.ld1 (HX92.mono hw) hxk rfl)) ?_) | (refine lw_pure rfl (pv_loada (tA rfl) rfl (by first | exact PT.lda (HX2.mono hw) | exact SlR.lda (HX92.mono hw) hxk) (by rfl)) ?_))) | ((refine is_fa ?_; first | (refine lw_pure rfl (pv_fa (tF rfl) rfl) ?_))) | ((refine is_ia ?_; first | (refine lw_pure rfl (pv_ian (tS rfl) rfl rfl (by omega)) ?_))) | ((refine is_bi ?_; first | (refine lw_pure rfl (pv_lenl (tS rfl) rfl) ?_))))
  refine lw_varN rfl (by first | exact tyv_29 | exact tyv_30 | exact tyv_33 | exact tyv_34 | exact tyv_36 | exact tyv_37 | exact tyv_38 | exact tyv_39 | exact tyv_40 | exact tyv_41 | exact tyv_43 | exact tyv_44 | exact tyv_45 | exact tyv_46 | exact tyv_73 | exact tyv_74 | exact tyv_80 | exact tyv_81 | exact tyv_107 | exact tyv_108 | exact tyv_123 | exact tyv_146 | exact tyv_147 | exact tyv_148 | exact tyv_149) rfl (tZ rfl) (fun _ => rfl) rfl rfl ?_; intro N8 w8 hN8 HV hb
  replace HV : PT w8 N8 44 [.int .i64 x.h.id, .int .i64 x.h.seller, .int .i64 x.h.inst, .bool x.h.shut, .int .i64 x.h.qty, .int .i64 x.h.reserve, .int .i64 x.h.step, .int .i64 x.h.fin, .slice ba x.bids.length bc] := HV
  replace hw := grow_trans hw hb
  have HB4 := HB2.mono hw
  have hR : ∀ w', Below w8.heap.size w8 w' → AuR w' ⟨x.h, ba, x.bids.length, bc⟩ x := fun w' hb => ⟨rfl, rfl, HB4.mono hb⟩
  replace hG := hG.mono hw
  have HX4 := HX2.mono hw
  clear hw hb HX2 HX92 HB2
  have hw := Below.refl w8.heap.size w8
  cases hM : mayAu x with
  | false =>
    rw [partA_no hM, List.append_nil] at hfl
    repeat' (first | (refine is_cw ?_; first | (refine cw_seq ?_) | (refine cw_region ?_)) | (refine is_qw ?_; first | (with_reducible refine qw_then ?_)) | (refine lw_nil ?_) | ((refine is_load ?_; first | (refine lw_pure rfl (pv_loada (tA rfl) rfl (by first | exact PT.lda (HV.mono hw)) (by rfl)) ?_))))
    have hcp := ramay_e hM (hR _ hw)
    dsimp only [encC] at hcp
    refine lw_call (f := 62) (by kernel_rfl) rfl rfl (hcp) ?_; rintro e w1 ⟨rfl, hb⟩; refine ⟨_, rfl, ?_⟩; replace hw := grow_trans hw hb; clear hb
    clear hcp
    repeat' (first | (refine lw_pure rfl (pv_move rfl) ?_) | (refine lw_pure rfl (pv_assign rfl) ?_) | (refine is_cw ?_; first | (refine cw_region ?_) | (refine cw_true rfl rfl ?_) | (refine cw_exit ?_)) | (refine is_qw ?_; first | (with_reducible refine qw_then ?_) | (with_reducible refine qw_in_hit ?_) | (with_reducible refine qw_then_exit ?_)) | (refine lw_nil ?_) | ((refine is_bin ?_; first | (refine lw_pure rfl (pv_inc rfl rfl (by omega)) ?_))) | ((refine is_un ?_; first | (refine lw_pure rfl (pv_not rfl) ?_))))
    refine qw_round (k + 1) (by rw [hfl]; exact (by repeat' (first | exact trivial | refine ⟨rfl, ?_⟩))) ⟨by omega, (hG.mono hw).b⟩ (by omega)
  | true =>
    rw [partA_yes hM] at hfl
    have hs : heldL (t.ords.flatMap partO ++ (t.aucs.take k).flatMap partA ++ partAk x 0) (a, i) = heldL (t.ords.flatMap partO ++ (t.aucs.take k).flatMap partA) (a, i) + (if x.h.seller = a ∧ x.h.inst = i then x.h.qty else 0) := by rw [heldL_app, heldL_A0]
    have hb5 := hb4 0 x hak hM (Nat.zero_le _)
    repeat' (first | (refine is_cw ?_; first | (refine cw_seq ?_) | (refine cw_region ?_)) | (refine is_qw ?_; first | (with_reducible refine qw_then ?_)) | (refine lw_nil ?_) | ((refine is_load ?_; first | (refine lw_pure rfl (pv_loada (tA rfl) rfl (by first | exact PT.lda (HV.mono hw)) (by rfl)) ?_))))
    have hcp := ramay_e hM (hR _ hw)
    dsimp only [encC] at hcp
    refine lw_call (f := 62) (by kernel_rfl) rfl rfl (hcp) ?_; rintro e w1 ⟨rfl, hb⟩; refine ⟨_, rfl, ?_⟩; replace hw := grow_trans hw hb; clear hb
    clear hcp
    by_cases hcc : x.h.seller = a ∧ x.h.inst = i
    · rw [if_pos hcc] at hs
      rw [hs] at hb5
      obtain ⟨q1, q2⟩ := hcc
      repeat' (first | (refine lw_pure rfl (pv_move rfl) ?_) | (refine lw_pure rfl (pv_assign rfl) ?_) | (refine is_cw ?_; first | (refine cw_seq ?_) | (refine cw_region ?_) | (refine cw_false rfl rfl ?_) | (refine is_cd ?_; refine cw_true rfl (by first | assumption | exact decide_eq_true (by omega) | exact dec_notT (by omega)) ?_) | (refine cw_skip ?_) | (refine cw_block ?_)) | (refine is_qw ?_; first | (with_reducible refine qw_then ?_)) | (refine lw_nil ?_) | (refine is_guarded ?_; first | (refine lw_on rfl rfl (by first | assumption | exact decide_eq_true (by omega) | exact decide_eq_false (by omega) | exact dec_notT (by omega) | exact dec_notF (by omega)) ?_)) | ((refine is_bin ?_; first | (refine lw_pure rfl (pv_eql rfl rfl) ?_) | (refine lw_pure rfl (pv_add rfl rfl (by omega)) ?_))) | ((refine is_load ?_; first | (refine lw_pure rfl (pv_load (t1 rfl) rfl (by first | exact PT.ld0 (HV.mono hw) rfl | exact PT.ld (HV.mono hw) rfl)) ?_))) | ((refine is_fa ?_; first | (refine lw_pure rfl (pv_fa (tF rfl) rfl) ?_))) | ((refine is_un ?_; first | (refine lw_pure rfl (pv_not rfl) ?_))) | (refine is_pk ?_; refine lw_pure rfl (pv_pick_t rfl (by first | assumption | exact decide_eq_true (by omega) | exact dec_notT (by omega)) rfl) ?_))
      rw [← hs]
      clear hs hb5
      refine cw_loop (σ := Nat) (fun j => [(1, .int .i64 a), (2, .int .i64 i), (3, .pointer (some ⟨N3, 0, none⟩)), (7, .int .i64 (heldL (t.ords.flatMap partO ++ (t.aucs.take k).flatMap partA ++ partAk x j) (a, i))), (11, .int .i64 (k : Nat)), (12, .pointer (some ⟨N8, 0, none⟩)), (13, .int .i64 (j : Nat))]) (fun j wq => j ≤ x.bids.length ∧ Below w8.heap.size w8 wq) (fun j => x.bids.length - j) 0 (by repeat' (first | exact trivial | refine ⟨rfl, ?_⟩)) ⟨Nat.zero_le _, hw⟩ ?_
      clear hw
      rintro j wq ⟨hj, hw⟩
      by_cases hlj : j < x.bids.length
      · have hbk : x.bids[j]? = some (x.bids[j]'(by omega)) := List.getElem?_eq_getElem _
        generalize x.bids[j]'(by omega) = b at hbk
        obtain ⟨bb, bo, rfl, -, -⟩ := HB4.at (by intro h; rw [h] at hlj; simp at hlj)
        have hs : heldL (t.ords.flatMap partO ++ (t.aucs.take k).flatMap partA ++ partAk x (j + 1)) (a, i) = heldL (t.ords.flatMap partO ++ (t.aucs.take k).flatMap partA ++ partAk x j) (a, i) + (if b.acct = a ∧ i = 0 then b.amt else 0) := by rw [partAk_step hbk, ← List.append_assoc, heldL_app, heldL_B]
        have hb5 := hb4 (j + 1) x hak hM hlj
        by_cases hcc : b.acct = a ∧ i = 0
        · rw [if_pos hcc] at hs
          rw [hs] at hb5
          obtain ⟨q1, q2⟩ := hcc
          repeat' (first | (refine lw_pure rfl (pv_move rfl) ?_) | (refine lw_pure rfl (pv_assign rfl) ?_) | (refine is_cw ?_; first | (refine cw_seq ?_) | (refine cw_region ?_) | (refine is_cd ?_; refine cw_true rfl (by first | assumption | exact decide_eq_true (by omega) | exact dec_notT (by omega)) ?_) | (refine cw_skip ?_) | (refine cw_block ?_)) | (refine is_qw ?_; first | (with_reducible refine qw_then ?_) | (with_reducible refine qw_in ?_)) | (refine lw_nil ?_) | (refine is_guarded ?_; first | (refine lw_on rfl rfl (by first | assumption | exact decide_eq_true (by omega) | exact decide_eq_false (by omega) | exact dec_notT (by omega) | exact dec_notF (by omega)) ?_)) | ((refine is_bin ?_; first | (refine lw_pure rfl (pv_lss rfl rfl) ?_) | (refine lw_pure rfl (pv_eql rfl rfl) ?_) | (refine lw_pure rfl (pv_inc rfl rfl (by omega)) ?_) | (refine lw_pure rfl (pv_add rfl rfl (by omega)) ?_))) | ((refine is_load ?_; first | (refine lw_pure rfl (pv_load (t1 rfl) rfl (by first | exact PT.ld0 (HV.mono hw) rfl | exact PT.ld (HV.mono hw) rfl | exact SlR.ld (HB4.mono hw) hbk rfl | exact SlR.ld1 (HB4.mono hw) hbk rfl)) ?_))) | ((refine is_fa ?_; first | (refine lw_pure rfl (pv_fa (tF rfl) rfl) ?_))) | ((refine is_ia ?_; first | (refine lw_pure rfl (pv_ian (tS rfl) rfl rfl (by omega)) ?_))) | ((refine is_bi ?_; first | (refine lw_pure rfl (pv_lenl (tS rfl) rfl) ?_))) | (refine is_pk ?_; refine lw_pure rfl (pv_pick_t rfl (by first | assumption | exact decide_eq_true (by omega) | exact dec_notT (by omega)) rfl) ?_))
          refine qw_round (j + 1) (by rw [hs]; exact (by repeat' (first | exact trivial | refine ⟨rfl, ?_⟩))) ⟨by omega, hw⟩ (by omega)
        · rw [if_neg hcc, Int.add_zero] at hs
          repeat' (first | (refine lw_pure rfl (pv_move rfl) ?_) | (refine lw_pure rfl (pv_assign rfl) ?_) | (refine is_cw ?_; first | (refine cw_seq ?_) | (refine cw_region ?_) | (refine cw_false rfl rfl ?_) | (refine is_cd ?_; refine cw_true rfl (by first | assumption | exact decide_eq_true (by omega) | exact dec_notT (by omega)) ?_) | (refine is_cd ?_; refine cw_false rfl (by first | assumption | exact decide_eq_false (by omega) | exact dec_notF (by omega)) ?_) | (refine cw_skip ?_) | (refine cw_block ?_)) | (refine is_qw ?_; first | (with_reducible refine qw_then ?_) | (with_reducible refine qw_in ?_)) | (refine lw_nil ?_) | (refine is_guarded ?_; first | (refine lw_on rfl rfl (by first | assumption | exact decide_eq_true (by omega) | exact decide_eq_false (by omega) | exact dec_notT (by omega) | exact dec_notF (by omega)) ?_) | (refine lw_not rfl rfl rfl (by first | assumption | exact decide_eq_true (by omega) | exact decide_eq_false (by omega) | exact dec_notT (by omega) | exact dec_notF (by omega)) ?_) | (refine lw_gs_t rfl rfl rfl (fun hc => ?_) (fun hc => ?_) <;> (first | replace hc := of_decide_eq_true hc | replace hc := of_decide_eq_false hc | replace hc := dec_nT hc | replace hc := dec_nF hc | skip) <;> (try (exfalso; omega)))) | ((refine is_bin ?_; first | (refine lw_pure rfl (pv_lss rfl rfl) ?_) | (refine lw_pure rfl (pv_eql rfl rfl) ?_) | (refine lw_pure rfl (pv_inc rfl rfl (by omega)) ?_))) | ((refine is_load ?_; first | (refine lw_pure rfl (pv_load (t1 rfl) rfl (by first | exact PT.ld0 (HV.mono hw) rfl | exact PT.ld (HV.mono hw) rfl | exact SlR.ld (HB4.mono hw) hbk rfl | exact SlR.ld1 (HB4.mono hw) hbk rfl)) ?_))) | ((refine is_fa ?_; first | (refine lw_pure rfl (pv_fa (tF rfl) rfl) ?_))) | ((refine is_ia ?_; first | (refine lw_pure rfl (pv_ian (tS rfl) rfl rfl (by omega)) ?_))) | ((refine is_bi ?_; first | (refine lw_pure rfl (pv_lenl (tS rfl) rfl) ?_))) | (refine is_pk ?_; refine lw_pure rfl (pv_pick_t rfl (by first | assumption | exact decide_eq_true (by omega) | exact dec_notT (by omega)) rfl) ?_) | (refine is_pk ?_; refine lw_pure rfl (pv_pick_f rfl (by first | assumption | exact decide_eq_false (by omega) | exact dec_notF (by omega)) rfl) ?_))
          all_goals refine qw_round (j + 1) (by rw [hs]; exact (by repeat' (first | exact trivial | refine ⟨rfl, ?_⟩))) ⟨by omega, hw⟩ (by omega)
      have hje : j = x.bids.length := by omega
      subst hje
      repeat' (first | (refine lw_pure rfl (pv_move rfl) ?_) | (refine lw_pure rfl (pv_assign rfl) ?_) | (refine is_cw ?_; first | (refine cw_seq ?_) | (refine cw_region ?_) | (refine is_cd ?_; refine cw_false rfl (by first | assumption | exact decide_eq_false (by omega) | exact dec_notF (by omega)) ?_) | (refine cw_exit ?_)) | (refine is_qw ?_; first | (with_reducible refine qw_then ?_) | (with_reducible refine qw_in ?_) | (with_reducible refine qw_in_hit ?_) | (with_reducible refine qw_then_exit ?_)) | (refine lw_nil ?_) | ((refine is_bin ?_; first | (refine lw_pure rfl (pv_lss rfl rfl) ?_) | (refine lw_pure rfl (pv_inc rfl rfl (by omega)) ?_))) | ((refine is_load ?_; first | (refine lw_pure rfl (pv_load (t1 rfl) rfl (by first | exact PT.ld0 (HV.mono hw) rfl | exact PT.ld (HV.mono hw) rfl)) ?_))) | ((refine is_fa ?_; first | (refine lw_pure rfl (pv_fa (tF rfl) rfl) ?_))) | ((refine is_bi ?_; first | (refine lw_pure rfl (pv_lenl (tS rfl) rfl) ?_))))
      exact qw_round (k + 1) (by rw [hfl, ← List.append_assoc]; exact (by repeat' (first | exact trivial | refine ⟨rfl, ?_⟩))) ⟨by omega, (hG.mono hw).b⟩ (by omega)
    · rw [if_neg hcc, Int.add_zero] at hs
      repeat' (first | (refine lw_pure rfl (pv_move rfl) ?_) | (refine lw_pure rfl (pv_assign rfl) ?_) | (refine is_cw ?_; first | (refine cw_seq ?_) | (refine cw_region ?_) | (refine cw_false rfl rfl ?_) | (refine is_cd ?_; refine cw_false rfl (by first | assumption | exact decide_eq_false (by omega) | exact dec_notF (by omega)) ?_) | (refine cw_skip ?_) | (refine cw_block ?_)) | (refine is_qw ?_; first | (with_reducible refine qw_then ?_)) | (refine lw_nil ?_) | (refine is_guarded ?_; first | (refine lw_on rfl rfl (by first | assumption | exact decide_eq_true (by omega) | exact decide_eq_false (by omega) | exact dec_notT (by omega) | exact dec_notF (by omega)) ?_) | (refine lw_not rfl rfl rfl (by first | assumption | exact decide_eq_true (by omega) | exact decide_eq_false (by omega) | exact dec_notT (by omega) | exact dec_notF (by omega)) ?_) | (refine lw_gs_t rfl rfl rfl (fun hc => ?_) (fun hc => ?_) <;> (first | replace hc := of_decide_eq_true hc | replace hc := of_decide_eq_false hc | replace hc := dec_nT hc | replace hc := dec_nF hc | skip) <;> (try (exfalso; omega)))) | ((refine is_bin ?_; first | (refine lw_pure rfl (pv_eql rfl rfl) ?_))) | ((refine is_load ?_; first | (refine lw_pure rfl (pv_load (t1 rfl) rfl (by first | exact PT.ld0 (HV.mono hw) rfl | exact PT.ld (HV.mono hw) rfl)) ?_))) | ((refine is_fa ?_; first | (refine lw_pure rfl (pv_fa (tF rfl) rfl) ?_))) | ((refine is_un ?_; first | (refine lw_pure rfl (pv_not rfl) ?_))) | (refine is_pk ?_; refine lw_pure rfl (pv_pick_t rfl (by first | assumption | exact decide_eq_true (by omega) | exact dec_notT (by omega)) rfl) ?_) | (refine is_pk ?_; refine lw_pure rfl (pv_pick_f rfl (by first | assumption | exact decide_eq_false (by omega) | exact dec_notF (by omega)) rfl) ?_))
      all_goals (rw [← hs])
      · skip
        clear hs hb5
        refine cw_loop (σ := Nat) (fun j => [(1, .int .i64 a), (2, .int .i64 i), (3, .pointer (some ⟨N3, 0, none⟩)), (7, .int .i64 (heldL (t.ords.flatMap partO ++ (t.aucs.take k).flatMap partA ++ partAk x j) (a, i))), (11, .int .i64 (k : Nat)), (12, .pointer (some ⟨N8, 0, none⟩)), (13, .int .i64 (j : Nat))]) (fun j wq => j ≤ x.bids.length ∧ Below w8.heap.size w8 wq) (fun j => x.bids.length - j) 0 (by repeat' (first | exact trivial | refine ⟨rfl, ?_⟩)) ⟨Nat.zero_le _, hw⟩ ?_
        clear hw
        rintro j wq ⟨hj, hw⟩
        by_cases hlj : j < x.bids.length
        · have hbk : x.bids[j]? = some (x.bids[j]'(by omega)) := List.getElem?_eq_getElem _
          generalize x.bids[j]'(by omega) = b at hbk
          obtain ⟨bb, bo, rfl, -, -⟩ := HB4.at (by intro h; rw [h] at hlj; simp at hlj)
          have hs : heldL (t.ords.flatMap partO ++ (t.aucs.take k).flatMap partA ++ partAk x (j + 1)) (a, i) = heldL (t.ords.flatMap partO ++ (t.aucs.take k).flatMap partA ++ partAk x j) (a, i) + (if b.acct = a ∧ i = 0 then b.amt else 0) := by rw [partAk_step hbk, ← List.append_assoc, heldL_app, heldL_B]
          have hb5 := hb4 (j + 1) x hak hM hlj
          by_cases hcc : b.acct = a ∧ i = 0
          · rw [if_pos hcc] at hs
            rw [hs] at hb5
            obtain ⟨q1, q2⟩ := hcc
            repeat' (first | (refine lw_pure rfl (pv_move rfl) ?_) | (refine lw_pure rfl (pv_assign rfl) ?_) | (refine is_cw ?_; first | (refine cw_seq ?_) | (refine cw_region ?_) | (refine is_cd ?_; refine cw_true rfl (by first | assumption | exact decide_eq_true (by omega) | exact dec_notT (by omega)) ?_) | (refine cw_skip ?_) | (refine cw_block ?_)) | (refine is_qw ?_; first | (with_reducible refine qw_then ?_) | (with_reducible refine qw_in ?_)) | (refine lw_nil ?_) | (refine is_guarded ?_; first | (refine lw_on rfl rfl (by first | assumption | exact decide_eq_true (by omega) | exact decide_eq_false (by omega) | exact dec_notT (by omega) | exact dec_notF (by omega)) ?_)) | ((refine is_bin ?_; first | (refine lw_pure rfl (pv_lss rfl rfl) ?_) | (refine lw_pure rfl (pv_eql rfl rfl) ?_) | (refine lw_pure rfl (pv_inc rfl rfl (by omega)) ?_) | (refine lw_pure rfl (pv_add rfl rfl (by omega)) ?_))) | ((refine is_load ?_; first | (refine lw_pure rfl (pv_load (t1 rfl) rfl (by first | exact PT.ld0 (HV.mono hw) rfl | exact PT.ld (HV.mono hw) rfl | exact SlR.ld (HB4.mono hw) hbk rfl | exact SlR.ld1 (HB4.mono hw) hbk rfl)) ?_))) | ((refine is_fa ?_; first | (refine lw_pure rfl (pv_fa (tF rfl) rfl) ?_))) | ((refine is_ia ?_; first | (refine lw_pure rfl (pv_ian (tS rfl) rfl rfl (by omega)) ?_))) | ((refine is_bi ?_; first | (refine lw_pure rfl (pv_lenl (tS rfl) rfl) ?_))) | (refine is_pk ?_; refine lw_pure rfl (pv_pick_t rfl (by first | assumption | exact decide_eq_true (by omega) | exact dec_notT (by omega)) rfl) ?_))
            refine qw_round (j + 1) (by rw [hs]; exact (by repeat' (first | exact trivial | refine ⟨rfl, ?_⟩))) ⟨by omega, hw⟩ (by omega)
          · rw [if_neg hcc, Int.add_zero] at hs
            repeat' (first | (refine lw_pure rfl (pv_move rfl) ?_) | (refine lw_pure rfl (pv_assign rfl) ?_) | (refine is_cw ?_; first | (refine cw_seq ?_) | (refine cw_region ?_) | (refine cw_false rfl rfl ?_) | (refine is_cd ?_; refine cw_true rfl (by first | assumption | exact decide_eq_true (by omega) | exact dec_notT (by omega)) ?_) | (refine is_cd ?_; refine cw_false rfl (by first | assumption | exact decide_eq_false (by omega) | exact dec_notF (by omega)) ?_) | (refine cw_skip ?_) | (refine cw_block ?_)) | (refine is_qw ?_; first | (with_reducible refine qw_then ?_) | (with_reducible refine qw_in ?_)) | (refine lw_nil ?_) | (refine is_guarded ?_; first | (refine lw_on rfl rfl (by first | assumption | exact decide_eq_true (by omega) | exact decide_eq_false (by omega) | exact dec_notT (by omega) | exact dec_notF (by omega)) ?_) | (refine lw_not rfl rfl rfl (by first | assumption | exact decide_eq_true (by omega) | exact decide_eq_false (by omega) | exact dec_notT (by omega) | exact dec_notF (by omega)) ?_) | (refine lw_gs_t rfl rfl rfl (fun hc => ?_) (fun hc => ?_) <;> (first | replace hc := of_decide_eq_true hc | replace hc := of_decide_eq_false hc | replace hc := dec_nT hc | replace hc := dec_nF hc | skip) <;> (try (exfalso; omega)))) | ((refine is_bin ?_; first | (refine lw_pure rfl (pv_lss rfl rfl) ?_) | (refine lw_pure rfl (pv_eql rfl rfl) ?_) | (refine lw_pure rfl (pv_inc rfl rfl (by omega)) ?_))) | ((refine is_load ?_; first | (refine lw_pure rfl (pv_load (t1 rfl) rfl (by first | exact PT.ld0 (HV.mono hw) rfl | exact PT.ld (HV.mono hw) rfl | exact SlR.ld (HB4.mono hw) hbk rfl | exact SlR.ld1 (HB4.mono hw) hbk rfl)) ?_))) | ((refine is_fa ?_; first | (refine lw_pure rfl (pv_fa (tF rfl) rfl) ?_))) | ((refine is_ia ?_; first | (refine lw_pure rfl (pv_ian (tS rfl) rfl rfl (by omega)) ?_))) | ((refine is_bi ?_; first | (refine lw_pure rfl (pv_lenl (tS rfl) rfl) ?_))) | (refine is_pk ?_; refine lw_pure rfl (pv_pick_t rfl (by first | assumption | exact decide_eq_true (by omega) | exact dec_notT (by omega)) rfl) ?_) | (refine is_pk ?_; refine lw_pure rfl (pv_pick_f rfl (by first | assumption | exact decide_eq_false (by omega) | exact dec_notF (by omega)) rfl) ?_))
            all_goals refine qw_round (j + 1) (by rw [hs]; exact (by repeat' (first | exact trivial | refine ⟨rfl, ?_⟩))) ⟨by omega, hw⟩ (by omega)
        have hje : j = x.bids.length := by omega
        subst hje
        repeat' (first | (refine lw_pure rfl (pv_move rfl) ?_) | (refine lw_pure rfl (pv_assign rfl) ?_) | (refine is_cw ?_; first | (refine cw_seq ?_) | (refine cw_region ?_) | (refine is_cd ?_; refine cw_false rfl (by first | assumption | exact decide_eq_false (by omega) | exact dec_notF (by omega)) ?_) | (refine cw_exit ?_)) | (refine is_qw ?_; first | (with_reducible refine qw_then ?_) | (with_reducible refine qw_in ?_) | (with_reducible refine qw_in_hit ?_) | (with_reducible refine qw_then_exit ?_)) | (refine lw_nil ?_) | ((refine is_bin ?_; first | (refine lw_pure rfl (pv_lss rfl rfl) ?_) | (refine lw_pure rfl (pv_inc rfl rfl (by omega)) ?_))) | ((refine is_load ?_; first | (refine lw_pure rfl (pv_load (t1 rfl) rfl (by first | exact PT.ld0 (HV.mono hw) rfl | exact PT.ld (HV.mono hw) rfl)) ?_))) | ((refine is_fa ?_; first | (refine lw_pure rfl (pv_fa (tF rfl) rfl) ?_))) | ((refine is_bi ?_; first | (refine lw_pure rfl (pv_lenl (tS rfl) rfl) ?_))))
        exact qw_round (k + 1) (by rw [hfl, ← List.append_assoc]; exact (by repeat' (first | exact trivial | refine ⟨rfl, ?_⟩))) ⟨by omega, (hG.mono hw).b⟩ (by omega)
      · skip
        clear hs hb5
        refine cw_loop (σ := Nat) (fun j => [(1, .int .i64 a), (2, .int .i64 i), (3, .pointer (some ⟨N3, 0, none⟩)), (7, .int .i64 (heldL (t.ords.flatMap partO ++ (t.aucs.take k).flatMap partA ++ partAk x j) (a, i))), (11, .int .i64 (k : Nat)), (12, .pointer (some ⟨N8, 0, none⟩)), (13, .int .i64 (j : Nat))]) (fun j wq => j ≤ x.bids.length ∧ Below w8.heap.size w8 wq) (fun j => x.bids.length - j) 0 (by repeat' (first | exact trivial | refine ⟨rfl, ?_⟩)) ⟨Nat.zero_le _, hw⟩ ?_
        clear hw
        rintro j wq ⟨hj, hw⟩
        by_cases hlj : j < x.bids.length
        · have hbk : x.bids[j]? = some (x.bids[j]'(by omega)) := List.getElem?_eq_getElem _
          generalize x.bids[j]'(by omega) = b at hbk
          obtain ⟨bb, bo, rfl, -, -⟩ := HB4.at (by intro h; rw [h] at hlj; simp at hlj)
          have hs : heldL (t.ords.flatMap partO ++ (t.aucs.take k).flatMap partA ++ partAk x (j + 1)) (a, i) = heldL (t.ords.flatMap partO ++ (t.aucs.take k).flatMap partA ++ partAk x j) (a, i) + (if b.acct = a ∧ i = 0 then b.amt else 0) := by rw [partAk_step hbk, ← List.append_assoc, heldL_app, heldL_B]
          have hb5 := hb4 (j + 1) x hak hM hlj
          by_cases hcc : b.acct = a ∧ i = 0
          · rw [if_pos hcc] at hs
            rw [hs] at hb5
            obtain ⟨q1, q2⟩ := hcc
            repeat' (first | (refine lw_pure rfl (pv_move rfl) ?_) | (refine lw_pure rfl (pv_assign rfl) ?_) | (refine is_cw ?_; first | (refine cw_seq ?_) | (refine cw_region ?_) | (refine is_cd ?_; refine cw_true rfl (by first | assumption | exact decide_eq_true (by omega) | exact dec_notT (by omega)) ?_) | (refine cw_skip ?_) | (refine cw_block ?_)) | (refine is_qw ?_; first | (with_reducible refine qw_then ?_) | (with_reducible refine qw_in ?_)) | (refine lw_nil ?_) | (refine is_guarded ?_; first | (refine lw_on rfl rfl (by first | assumption | exact decide_eq_true (by omega) | exact decide_eq_false (by omega) | exact dec_notT (by omega) | exact dec_notF (by omega)) ?_)) | ((refine is_bin ?_; first | (refine lw_pure rfl (pv_lss rfl rfl) ?_) | (refine lw_pure rfl (pv_eql rfl rfl) ?_) | (refine lw_pure rfl (pv_inc rfl rfl (by omega)) ?_) | (refine lw_pure rfl (pv_add rfl rfl (by omega)) ?_))) | ((refine is_load ?_; first | (refine lw_pure rfl (pv_load (t1 rfl) rfl (by first | exact PT.ld0 (HV.mono hw) rfl | exact PT.ld (HV.mono hw) rfl | exact SlR.ld (HB4.mono hw) hbk rfl | exact SlR.ld1 (HB4.mono hw) hbk rfl)) ?_))) | ((refine is_fa ?_; first | (refine lw_pure rfl (pv_fa (tF rfl) rfl) ?_))) | ((refine is_ia ?_; first | (refine lw_pure rfl (pv_ian (tS rfl) rfl rfl (by omega)) ?_))) | ((refine is_bi ?_; first | (refine lw_pure rfl (pv_lenl (tS rfl) rfl) ?_))) | (refine is_pk ?_; refine lw_pure rfl (pv_pick_t rfl (by first | assumption | exact decide_eq_true (by omega) | exact dec_notT (by omega)) rfl) ?_))
            refine qw_round (j + 1) (by rw [hs]; exact (by repeat' (first | exact trivial | refine ⟨rfl, ?_⟩))) ⟨by omega, hw⟩ (by omega)
          · rw [if_neg hcc, Int.add_zero] at hs
            repeat' (first | (refine lw_pure rfl (pv_move rfl) ?_) | (refine lw_pure rfl (pv_assign rfl) ?_) | (refine is_cw ?_; first | (refine cw_seq ?_) | (refine cw_region ?_) | (refine cw_false rfl rfl ?_) | (refine is_cd ?_; refine cw_true rfl (by first | assumption | exact decide_eq_true (by omega) | exact dec_notT (by omega)) ?_) | (refine is_cd ?_; refine cw_false rfl (by first | assumption | exact decide_eq_false (by omega) | exact dec_notF (by omega)) ?_) | (refine cw_skip ?_) | (refine cw_block ?_)) | (refine is_qw ?_; first | (with_reducible refine qw_then ?_) | (with_reducible refine qw_in ?_)) | (refine lw_nil ?_) | (refine is_guarded ?_; first | (refine lw_on rfl rfl (by first | assumption | exact decide_eq_true (by omega) | exact decide_eq_false (by omega) | exact dec_notT (by omega) | exact dec_notF (by omega)) ?_) | (refine lw_not rfl rfl rfl (by first | assumption | exact decide_eq_true (by omega) | exact decide_eq_false (by omega) | exact dec_notT (by omega) | exact dec_notF (by omega)) ?_) | (refine lw_gs_t rfl rfl rfl (fun hc => ?_) (fun hc => ?_) <;> (first | replace hc := of_decide_eq_true hc | replace hc := of_decide_eq_false hc | replace hc := dec_nT hc | replace hc := dec_nF hc | skip) <;> (try (exfalso; omega)))) | ((refine is_bin ?_; first | (refine lw_pure rfl (pv_lss rfl rfl) ?_) | (refine lw_pure rfl (pv_eql rfl rfl) ?_) | (refine lw_pure rfl (pv_inc rfl rfl (by omega)) ?_))) | ((refine is_load ?_; first | (refine lw_pure rfl (pv_load (t1 rfl) rfl (by first | exact PT.ld0 (HV.mono hw) rfl | exact PT.ld (HV.mono hw) rfl | exact SlR.ld (HB4.mono hw) hbk rfl | exact SlR.ld1 (HB4.mono hw) hbk rfl)) ?_))) | ((refine is_fa ?_; first | (refine lw_pure rfl (pv_fa (tF rfl) rfl) ?_))) | ((refine is_ia ?_; first | (refine lw_pure rfl (pv_ian (tS rfl) rfl rfl (by omega)) ?_))) | ((refine is_bi ?_; first | (refine lw_pure rfl (pv_lenl (tS rfl) rfl) ?_))) | (refine is_pk ?_; refine lw_pure rfl (pv_pick_t rfl (by first | assumption | exact decide_eq_true (by omega) | exact dec_notT (by omega)) rfl) ?_) | (refine is_pk ?_; refine lw_pure rfl (pv_pick_f rfl (by first | assumption | exact decide_eq_false (by omega) | exact dec_notF (by omega)) rfl) ?_))
            all_goals refine qw_round (j + 1) (by rw [hs]; exact (by repeat' (first | exact trivial | refine ⟨rfl, ?_⟩))) ⟨by omega, hw⟩ (by omega)
        have hje : j = x.bids.length := by omega
        subst hje
        repeat' (first | (refine lw_pure rfl (pv_move rfl) ?_) | (refine lw_pure rfl (pv_assign rfl) ?_) | (refine is_cw ?_; first | (refine cw_seq ?_) | (refine cw_region ?_) | (refine is_cd ?_; refine cw_false rfl (by first | assumption | exact decide_eq_false (by omega) | exact dec_notF (by omega)) ?_) | (refine cw_exit ?_)) | (refine is_qw ?_; first | (with_reducible refine qw_then ?_) | (with_reducible refine qw_in ?_) | (with_reducible refine qw_in_hit ?_) | (with_reducible refine qw_then_exit ?_)) | (refine lw_nil ?_) | ((refine is_bin ?_; first | (refine lw_pure rfl (pv_lss rfl rfl) ?_) | (refine lw_pure rfl (pv_inc rfl rfl (by omega)) ?_))) | ((refine is_load ?_; first | (refine lw_pure rfl (pv_load (t1 rfl) rfl (by first | exact PT.ld0 (HV.mono hw) rfl | exact PT.ld (HV.mono hw) rfl)) ?_))) | ((refine is_fa ?_; first | (refine lw_pure rfl (pv_fa (tF rfl) rfl) ?_))) | ((refine is_bi ?_; first | (refine lw_pure rfl (pv_lenl (tS rfl) rfl) ?_))))
        exact qw_round (k + 1) (by rw [hfl, ← List.append_assoc]; exact (by repeat' (first | exact trivial | refine ⟨rfl, ?_⟩))) ⟨by omega, (hG.mono hw).b⟩ (by omega)
end Go.Proofs.YtekomjnjddhfmaaGreat
