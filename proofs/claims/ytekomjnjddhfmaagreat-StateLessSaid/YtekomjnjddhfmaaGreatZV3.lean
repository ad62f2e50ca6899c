/-
  Part 3 of the texts of: StateLess: its row: whatever the input: true; the input reads as it did. Conditions: none.
-/
import Derived.Test.YtekomjnjddhfmaaGreatZV2
import Derived.SizedLaws
import Derived.Deep.RegionLaw
import Derived.Shelf.SlSortCmp.WholeK
import Derived.Shelf.SlSortCmp.NoneTotal
import Derived.Shelf.SlGeneric
import Derived.Ground.SlsfProg
import Derived.Test.YtekomjnjddhfmaaGreatProg
namespace Go.Proofs.YtekomjnjddhfmaaGreat
open Go.RowKit Go.PlainAid

structure StBg (t : Stt) : Prop where
  rl : t.rows.length ≤ 140737488355328
  ol : t.ords.length ≤ 140737488355328
  an : ∀ x ∈ t.accs, x.name.size ≤ 140737488355328
  im : ∀ x ∈ t.inss, x.name.size ≤ 140737488355328
  r : In64R t.rows
def sumX (l : List Auc) : Nat := (l.map fun a => 1 + a.bids.length).sum
theorem sumX_snoc {l : List Auc} {k : Nat} {a : Auc} (h : l[k]? = some a) : sumX (l.take (k + 1)) = sumX (l.take k) + (1 + a.bids.length) := by
  unfold sumX; rw [List.take_add_one, h]; simp
structure Wg (t : Stt) (ka ki kx n : Nat) : Prop where
  z : t.rows.length + t.ords.length ≤ n
  f : n < 3000 → t.rows.length + t.ords.length + ka + ki ≤ n ∧ (∀ (j : Nat) x, j < ka → t.accs[j]? = some x → x.name.size ≤ n) ∧ (∀ (j : Nat) x, j < ki → t.inss[j]? = some x → x.name.size ≤ n) ∧ sumX (t.aucs.take kx) ≤ n
structure StSm (t : Stt) : Prop where
  ro : t.rows.length + t.ords.length < 1500
  al : t.accs.length < 1500
  il : t.inss.length < 1500
  an : ∀ x ∈ t.accs, x.name.size < 1500
  im : ∀ x ∈ t.inss, x.name.size < 1500
  xs : sumX t.aucs < 1500
theorem pv_minK {P : Program} {n : Nat} {l : Fr} {w : World} {d : Option Nat} {g : Option (Nat × Bool)} {ty : TypeId} {pos : String} {af : Array Edge} {x y : Operand} {ts : Array TypeId} {m : Nat} (hx : ev l x = some (.int .i64 3000)) (hy : ev l y = some (.int .i64 (m : Int))) : Pv P n l ⟨d, .call ⟨.builtin .min, #[x, y], ts⟩, ty, pos, af, g⟩ (.int .i64 ((min 3000 m : Nat) : Int)) w := by
  have h := pv_min (P := P) (n := n) (w := w) (d := d) (g := g) (ty := ty) (pos := pos) (af := af) (ts := ts) hx hy
  rwa [show (if (m : Int) < 3000 then (m : Int) else 3000) = ((min 3000 m : Nat) : Int) by split <;> omega] at h
theorem pv_minL {P : Program} {n : Nat} {l : Fr} {w : World} {d : Option Nat} {g : Option (Nat × Bool)} {ty : TypeId} {pos : String} {af : Array Edge} {x y : Operand} {ts : Array TypeId} {m : Nat} (hx : ev l x = some (.int .i64 (m : Int))) (hy : ev l y = some (.int .i64 3000)) : Pv P n l ⟨d, .call ⟨.builtin .min, #[x, y], ts⟩, ty, pos, af, g⟩ (.int .i64 ((min 3000 m : Nat) : Int)) w := by
  have h := pv_min (P := P) (n := n) (w := w) (d := d) (g := g) (ty := ty) (pos := pos) (af := af) (ts := ts) hx hy
  rwa [show (if (3000 : Int) < (m : Int) then (3000 : Int) else (m : Int)) = ((min 3000 m : Nat) : Int) by split <;> omega] at h
set_option maxRecDepth 20000 in
set_option maxHeartbeats 4000000 in
theorem weigh_c {s : SttC} {t : Stt} {w : World} (hS0 : StR w s t) (hB : StBg t) : Calls Tryz.prog 16 #[(.agg (encS s).toArray)] w fun e w' => (∃ n : Nat, e = .returned (.int .i64 (n : Int)) ∧ (n < 1500 → StSm t)) ∧ Below w.heap.size w w' := by
  have hE := Ext.refl w
  have hw := Below.refl w.heap.size w
  obtain ⟨c1, c2, c3, c4, pa, ma, ca, pi, mi, ci, pr, mr, cr, po, mo, co, px, mx, cx⟩ := s; obtain ⟨⟨e1, e2, e3, e4⟩, hma, hmi, hmr, hmo, hmx, HA, HI, HR, HO, HXs⟩ := hS0; simp only at e1 e2 e3 e4 hma hmi hmr hmo hmx HA HI HR HO HXs; subst e1 e2 e3 e4 hma hmi hmr hmo hmx
  have hal := HA.le
  have ham := HA.max
  have hil := HI.le
  have him := HI.max
  have hB1 := hB.rl
  have hB2 := hB.ol
  obtain ⟨xs, HX9, HAs⟩ := HXs
  have hxl := HX9.le
  have hxm := HX9.max
  have hxn := HAs.1
  refine fn_enter 82 Tryz.func16 rfl rfl rfl ?_
  repeat' (first | (refine is_cw ?_; first | (refine cw_seq ?_) | (refine cw_region ?_)))
  refine lw_boxN rfl rfl (cs := [.int .i64 t.clock, .int .i64 t.fee, .int .i64 t.nord, .int .i64 t.nauc, .slice pa t.accs.length ca, .slice pi t.inss.length ci, .slice pr t.rows.length cr, .slice po t.ords.length co, .slice px t.aucs.length cx]) rfl ?_; intro N2 wn hN2 HX hb; replace hN2 := Nat.le_trans hw.size hN2; replace hw := grow_trans hw hb; clear hb
  replace hE := hE.mono hw; replace HA := HA.mono hw; replace HI := HI.mono hw; replace HX9 := HX9.mono hw; replace HAs := HAs.mono hw; clear hw; have hw := Below.refl wn.heap.size wn
  repeat' ((fail_if_success (refine is_seqb ?_)); (fail_if_success (refine is_blk ?_)); first | (refine lw_pure rfl (pv_assign rfl) ?_) | (refine is_cw ?_; first | (refine cw_seq ?_) | (refine cw_region ?_)) | (refine is_qw ?_; first | (with_reducible refine qw_then ?_)) | (refine lw_nil ?_) | ((refine is_bin ?_; first | (refine lw_pure rfl (pv_add rfl rfl (by omega)) ?_))) | ((refine is_load ?_; first | (refine lw_pure rfl (pv_load (t1 rfl) rfl (by first | exact PT.ld0 (HX.mono hw) rfl | exact PT.ld (HX.mono hw) rfl)) ?_))) | ((refine is_fa ?_; first | (refine lw_pure rfl (pv_fa (tF rfl) rfl) ?_))) | ((refine is_bi ?_; first | (refine lw_pure rfl (pv_lenl (tS rfl) rfl) ?_))))
  refine cw_cutq (σ := Nat) (fun n => [(1, .pointer (some ⟨N2, 0, none⟩)), (3, .int .i64 (n : Int))]) (fun n wr => Below wn.heap.size wn wr ∧ Wg t t.accs.length 0 0 n ∧ n ≤ 281474976720000) ?_ ?_
  · repeat' (first | (refine is_cw ?_; first | (refine cw_block ?_)))
    refine cw_loop (σ := Nat × Nat) (fun q => [(1, .pointer (some ⟨N2, 0, none⟩)), (3, .int .i64 (q.2 : Int)), (4, .int .i64 (q.1 : Nat))]) (fun q wr => q.1 ≤ t.accs.length ∧ Below wn.heap.size wn wr ∧ Wg t q.1 0 0 q.2 ∧ q.2 ≤ 281474976720000) (fun q => t.accs.length - q.1) (0, t.rows.length + t.ords.length) (by repeat' (first | exact trivial | refine ⟨rfl, ?_⟩)) ⟨Nat.zero_le _, hw, ⟨Nat.le_refl _, fun _ => ⟨by omega, fun j x hj => by omega, fun j x hj => by omega, by simp [sumX]⟩⟩, by omega⟩ ?_
    clear hw
    rintro ⟨k, n⟩ wr ⟨hk, hw, hG, hn⟩
    dsimp only at hk hG hn
    change CW _ _ _ _ [(1, .pointer (some ⟨N2, 0, none⟩)), (3, .int .i64 (n : Int)), (4, .int .i64 (k : Nat))] wr
    by_cases hlt : k < t.accs.length ∧ n < 3000
    · obtain ⟨hlt, hn3⟩ := hlt
      have hxk : t.accs[k]? = some (t.accs[k]'(by omega)) := List.getElem?_eq_getElem _
      obtain ⟨ab, ao, rfl, -, -⟩ := HA.at (by intro h; rw [h] at hlt; simp at hlt)
      generalize t.accs[k]'(by omega) = x at hxk
      repeat' (first | (refine lw_pure rfl (pv_move rfl) ?_) | (refine lw_pure rfl (pv_assign rfl) ?_) | (refine is_cw ?_; first | (refine cw_seq ?_) | (refine cw_region ?_) | (refine is_cd ?_; refine cw_true rfl (by first | assumption | exact decide_eq_true (by omega) | exact dec_notT (by omega)) ?_) | (refine cw_skip ?_) | (refine cw_block ?_)) | (refine is_qw ?_; first | (with_reducible refine qw_then ?_) | (with_reducible refine qw_in ?_)) | (refine lw_nil ?_) | (refine is_guarded ?_; first | (refine lw_on rfl rfl (by first | assumption | exact decide_eq_true (by omega) | exact decide_eq_false (by omega) | exact dec_notT (by omega) | exact dec_notF (by omega)) ?_)) | ((refine is_bin ?_; first | (refine lw_pure rfl (pv_lss rfl rfl) ?_) | (refine lw_pure rfl (pv_inc rfl rfl (by omega)) ?_) | (refine lw_pure rfl (pv_add rfl rfl (by omega)) ?_))) | ((refine is_load ?_; first | (refine lw_pure rfl (pv_load (t1 rfl) rfl (by first | exact PT.ld0 (HX.mono hw) rfl | exact PT.ld (HX.mono hw) rfl | exact SlR.ld (HA.mono hw) hxk rfl | exact SlR.ld1 (HA.mono hw) hxk rfl)) ?_))) | ((refine is_fa ?_; first | (refine lw_pure rfl (pv_fa (tF rfl) rfl) ?_))) | ((refine is_ia ?_; first | (refine lw_pure rfl (pv_ian (tS rfl) rfl rfl (by omega)) ?_))) | ((refine is_bi ?_; first | (refine lw_pure rfl (pv_minK rfl rfl) ?_) | (refine lw_pure rfl (pv_lenl (tS rfl) rfl) ?_) | (refine lw_pure rfl (pv_lens (tStr rfl) rfl) ?_))) | (refine is_pk ?_; refine lw_pure rfl (pv_pick_t rfl (by first | assumption | exact decide_eq_true (by omega) | exact dec_notT (by omega)) rfl) ?_))
      obtain ⟨f1, f2, f3, f4⟩ := hG.f hn3
      refine qw_round (k + 1, n + 1 + min 3000 x.name.size) (by repeat' (first | exact trivial | refine ⟨rfl, ?_⟩)) ⟨by show k + 1 ≤ _; omega, hw, ⟨by have := hG.z; omega, fun hn9 => ⟨by omega, fun j u hj hu => ?_, fun j u hj hu => by omega, by simp [sumX]⟩⟩, by show n + 1 + _ ≤ _; omega⟩ (by show t.accs.length - (k + 1) < t.accs.length - k; omega)
      by_cases hjk : j = k
      · subst hjk; rw [hxk] at hu; injection hu with hu; subst hu; omega
      · have := f2 j u (by omega) hu; omega
    · have hA : Wg t t.accs.length 0 0 n := by
        refine ⟨hG.z, fun hn9 => ?_⟩
        have hkl : k = t.accs.length := by omega
        have := hG.f hn9
        rw [hkl] at this; exact this
      repeat' (first | (refine lw_pure rfl (pv_move rfl) ?_) | (refine is_cw ?_; first | (refine cw_seq ?_) | (refine cw_region ?_) | (refine cw_false rfl rfl ?_) | (refine is_cd ?_; refine cw_false rfl (by first | assumption | exact decide_eq_false (by omega) | exact dec_notF (by omega)) ?_) | (refine cw_exit ?_)) | (refine is_qw ?_; first | (with_reducible refine qw_then ?_) | (with_reducible refine qw_in_hit ?_) | (with_reducible refine qw_then_exit ?_)) | (refine lw_nil ?_) | (refine is_guarded ?_; first | (refine lw_on rfl rfl (by first | assumption | exact decide_eq_true (by omega) | exact decide_eq_false (by omega) | exact dec_notT (by omega) | exact dec_notF (by omega)) ?_) | (refine lw_not rfl rfl rfl (by first | assumption | exact decide_eq_true (by omega) | exact decide_eq_false (by omega) | exact dec_notT (by omega) | exact dec_notF (by omega)) ?_) | (refine lw_gs_t rfl rfl rfl (fun hc => ?_) (fun hc => ?_) <;> (first | replace hc := of_decide_eq_true hc | replace hc := of_decide_eq_false hc | replace hc := dec_nT hc | replace hc := dec_nF hc | skip) <;> (try (exfalso; omega)))) | ((refine is_bin ?_; first | (refine lw_pure rfl (pv_lss rfl rfl) ?_))) | ((refine is_load ?_; first | (refine lw_pure rfl (pv_load (t1 rfl) rfl (by first | exact PT.ld0 (HX.mono hw) rfl | exact PT.ld (HX.mono hw) rfl)) ?_))) | ((refine is_fa ?_; first | (refine lw_pure rfl (pv_fa (tF rfl) rfl) ?_))) | ((refine is_bi ?_; first | (refine lw_pure rfl (pv_lenl (tS rfl) rfl) ?_))) | (refine is_pk ?_; refine lw_pure rfl (pv_pick_t rfl (by first | assumption | exact decide_eq_true (by omega) | exact dec_notT (by omega)) rfl) ?_) | (refine is_pk ?_; refine lw_pure rfl (pv_pick_f rfl (by first | assumption | exact decide_eq_false (by omega) | exact dec_notF (by omega)) rfl) ?_))
      all_goals exact qw_join n (by repeat' (first | exact trivial | refine ⟨rfl, ?_⟩)) ⟨hw, hA, hn⟩
  clear hw
  rintro n wr ⟨hw, hG, hn⟩
  repeat' ((fail_if_success (refine is_seqb ?_)); (fail_if_success (refine is_blk ?_)); first | (refine lw_pure rfl (pv_assign rfl) ?_) | (refine is_cw ?_; first | (refine cw_seq ?_) | (refine cw_region ?_)) | (refine is_qw ?_; first | (with_reducible refine qw_then ?_)) | (refine lw_nil ?_))
  refine cw_cutq (σ := Nat) (fun n => [(1, .pointer (some ⟨N2, 0, none⟩)), (3, .int .i64 (n : Int))]) (fun n wr => Below wn.heap.size wn wr ∧ Wg t t.accs.length t.inss.length 0 n ∧ n ≤ 281474976730000) ?_ ?_
  · repeat' (first | (refine is_cw ?_; first | (refine cw_block ?_)))
    refine cw_loop (σ := Nat × Nat) (fun q => [(1, .pointer (some ⟨N2, 0, none⟩)), (3, .int .i64 (q.2 : Int)), (5, .int .i64 (q.1 : Nat))]) (fun q wr => q.1 ≤ t.inss.length ∧ Below wn.heap.size wn wr ∧ Wg t t.accs.length q.1 0 q.2 ∧ q.2 ≤ 281474976730000) (fun q => t.inss.length - q.1) (0, n) (by repeat' (first | exact trivial | refine ⟨rfl, ?_⟩)) ⟨Nat.zero_le _, hw, hG, by omega⟩ ?_
    clear hw
    rintro ⟨k, n⟩ wr ⟨hk, hw, hG, hn⟩
    dsimp only at hk hG hn
    change CW _ _ _ _ [(1, .pointer (some ⟨N2, 0, none⟩)), (3, .int .i64 (n : Int)), (5, .int .i64 (k : Nat))] wr
    by_cases hlt : k < t.inss.length ∧ n < 3000
    · obtain ⟨hlt, hn3⟩ := hlt
      have hxk : t.inss[k]? = some (t.inss[k]'(by omega)) := List.getElem?_eq_getElem _
      obtain ⟨ab, ao, rfl, -, -⟩ := HI.at (by intro h; rw [h] at hlt; simp at hlt)
      generalize t.inss[k]'(by omega) = x at hxk
      repeat' (first | (refine lw_pure rfl (pv_move rfl) ?_) | (refine lw_pure rfl (pv_assign rfl) ?_) | (refine is_cw ?_; first | (refine cw_seq ?_) | (refine cw_region ?_) | (refine is_cd ?_; refine cw_true rfl (by first | assumption | exact decide_eq_true (by omega) | exact dec_notT (by omega)) ?_) | (refine cw_skip ?_) | (refine cw_block ?_)) | (refine is_qw ?_; first | (with_reducible refine qw_then ?_) | (with_reducible refine qw_in ?_)) | (refine lw_nil ?_) | (refine is_guarded ?_; first | (refine lw_on rfl rfl (by first | assumption | exact decide_eq_true (by omega) | exact decide_eq_false (by omega) | exact dec_notT (by omega) | exact dec_notF (by omega)) ?_)) | ((refine is_bin ?_; first | (refine lw_pure rfl (pv_lss rfl rfl) ?_) | (refine lw_pure rfl (pv_inc rfl rfl (by omega)) ?_) | (refine lw_pure rfl (pv_add rfl rfl (by omega)) ?_))) | ((refine is_load ?_; first | (refine lw_pure rfl (pv_load (t1 rfl) rfl (by first | exact PT.ld0 (HX.mono hw) rfl | exact PT.ld (HX.mono hw) rfl | exact SlR.ld (HI.mono hw) hxk rfl | exact SlR.ld1 (HI.mono hw) hxk rfl)) ?_))) | ((refine is_fa ?_; first | (refine lw_pure rfl (pv_fa (tF rfl) rfl) ?_))) | ((refine is_ia ?_; first | (refine lw_pure rfl (pv_ian (tS rfl) rfl rfl (by omega)) ?_))) | ((refine is_bi ?_; first | (refine lw_pure rfl (pv_minK rfl rfl) ?_) | (refine lw_pure rfl (pv_lenl (tS rfl) rfl) ?_) | (refine lw_pure rfl (pv_lens (tStr rfl) rfl) ?_))) | (refine is_pk ?_; refine lw_pure rfl (pv_pick_t rfl (by first | assumption | exact decide_eq_true (by omega) | exact dec_notT (by omega)) rfl) ?_))
      obtain ⟨f1, f2, f3, f4⟩ := hG.f hn3
      refine qw_round (k + 1, n + 1 + min 3000 x.name.size) (by repeat' (first | exact trivial | refine ⟨rfl, ?_⟩)) ⟨by show k + 1 ≤ _; omega, hw, ⟨by have := hG.z; omega, fun hn9 => ⟨by omega, fun j u hj hu => by have := f2 j u hj hu; omega, fun j u hj hu => ?_, by simp [sumX]⟩⟩, by show n + 1 + _ ≤ _; omega⟩ (by show t.inss.length - (k + 1) < t.inss.length - k; omega)
      by_cases hjk : j = k
      · subst hjk; rw [hxk] at hu; injection hu with hu; subst hu; omega
      · have := f3 j u (by omega) hu; omega
    · have hA : Wg t t.accs.length t.inss.length 0 n := by
        refine ⟨hG.z, fun hn9 => ?_⟩
        have hkl : k = t.inss.length := by omega
        have := hG.f hn9
        rw [hkl] at this; exact this
      repeat' (first | (refine lw_pure rfl (pv_move rfl) ?_) | (refine is_cw ?_; first | (refine cw_seq ?_) | (refine cw_region ?_) | (refine cw_false rfl rfl ?_) | (refine is_cd ?_; refine cw_false rfl (by first | assumption | exact decide_eq_false (by omega) | exact dec_notF (by omega)) ?_) | (refine cw_exit ?_)) | (refine is_qw ?_; first | (with_reducible refine qw_then ?_) | (with_reducible refine qw_in_hit ?_) | (with_reducible refine qw_then_exit ?_)) | (refine lw_nil ?_) | (refine is_guarded ?_; first | (refine lw_on rfl rfl (by first | assumption | exact decide_eq_true (by omega) | exact decide_eq_false (by omega) | exact dec_notT (by omega) | exact dec_notF (by omega)) ?_) | (refine lw_not rfl rfl rfl (by first | assumption | exact decide_eq_true (by omega) | exact decide_eq_false (by omega) | exact dec_notT (by omega) | exact dec_notF (by omega)) ?_) | (refine lw_gs_t rfl rfl rfl (fun hc => ?_) (fun hc => ?_) <;> (first | replace hc := of_decide_eq_true hc | replace hc := of_decide_eq_false hc | replace hc := dec_nT hc | replace hc := dec_nF hc | skip) <;> (try (exfalso; omega)))) | ((refine is_bin ?_; first | (refine lw_pure rfl (pv_lss rfl rfl) ?_))) | ((refine is_load ?_; first | (refine lw_pure rfl (pv_load (t1 rfl) rfl (by first | exact PT.ld0 (HX.mono hw) rfl | exact PT.ld (HX.mono hw) rfl)) ?_))) | ((refine is_fa ?_; first | (refine lw_pure rfl (pv_fa (tF rfl) rfl) ?_))) | ((refine is_bi ?_; first | (refine lw_pure rfl (pv_lenl (tS rfl) rfl) ?_))) | (refine is_pk ?_; refine lw_pure rfl (pv_pick_t rfl (by first | assumption | exact decide_eq_true (by omega) | exact dec_notT (by omega)) rfl) ?_) | (refine is_pk ?_; refine lw_pure rfl (pv_pick_f rfl (by first | assumption | exact decide_eq_false (by omega) | exact dec_notF (by omega)) rfl) ?_))
      all_goals exact qw_join n (by repeat' (first | exact trivial | refine ⟨rfl, ?_⟩)) ⟨hw, hA, hn⟩
  clear hw
  rintro n wr ⟨hw, hG, hn⟩
  repeat' ((fail_if_success (refine is_seqb ?_)); (fail_if_success (refine is_blk ?_)); first | (refine lw_pure rfl (pv_assign rfl) ?_) | (refine is_cw ?_; first | (refine cw_seq ?_) | (refine cw_region ?_)) | (refine is_qw ?_; first | (with_reducible refine qw_then ?_)) | (refine lw_nil ?_))
  refine cw_cutq (σ := Nat) (fun n => [(1, .pointer (some ⟨N2, 0, none⟩)), (3, .int .i64 (n : Int))]) (fun n wr => Below wn.heap.size wn wr ∧ Wg t t.accs.length t.inss.length t.aucs.length n ∧ n ≤ 281474976740000) ?_ ?_
  · repeat' (first | (refine is_cw ?_; first | (refine cw_block ?_)))
    refine cw_loop (σ := Nat × Nat) (fun q => [(1, .pointer (some ⟨N2, 0, none⟩)), (3, .int .i64 (q.2 : Int)), (6, .int .i64 (q.1 : Nat))]) (fun q wr => q.1 ≤ t.aucs.length ∧ Below wn.heap.size wn wr ∧ Wg t t.accs.length t.inss.length q.1 q.2 ∧ q.2 ≤ 281474976740000) (fun q => t.aucs.length - q.1) (0, n) (by repeat' (first | exact trivial | refine ⟨rfl, ?_⟩)) ⟨Nat.zero_le _, hw, hG, by omega⟩ ?_
    clear hw
    rintro ⟨k, n⟩ wr ⟨hk, hw, hG, hn⟩
    dsimp only at hk hG hn
    change CW _ _ _ _ [(1, .pointer (some ⟨N2, 0, none⟩)), (3, .int .i64 (n : Int)), (6, .int .i64 (k : Nat))] wr
    by_cases hlt : k < t.aucs.length ∧ n < 3000
    · obtain ⟨hlt, hn3⟩ := hlt
      have hak : t.aucs[k]? = some (t.aucs[k]'(by omega)) := List.getElem?_eq_getElem _
      obtain ⟨ab, ao, rfl, -, -⟩ := HX9.at (by intro h; rw [h] at hxn; simp at hxn; omega)
      generalize t.aucs[k]'(by omega) = a at hak
      obtain ⟨x, hxk, hR⟩ := HAs.at hak
      obtain ⟨xh, ba, bm, bc⟩ := x
      obtain ⟨hh, hm, HB⟩ := hR
      simp only at hh hm HB
      subst hh hm
      repeat' (first | (refine lw_pure rfl (pv_move rfl) ?_) | (refine lw_pure rfl (pv_assign rfl) ?_) | (refine is_cw ?_; first | (refine cw_seq ?_) | (refine cw_region ?_) | (refine is_cd ?_; refine cw_true rfl (by first | assumption | exact decide_eq_true (by omega) | exact dec_notT (by omega)) ?_) | (refine cw_skip ?_) | (refine cw_block ?_)) | (refine is_qw ?_; first | (with_reducible refine qw_then ?_) | (with_reducible refine qw_in ?_)) | (refine lw_nil ?_) | (refine is_guarded ?_; first | (refine lw_on rfl rfl (by first | assumption | exact decide_eq_true (by omega) | exact decide_eq_false (by omega) | exact dec_notT (by omega) | exact dec_notF (by omega)) ?_)) | ((refine is_bin ?_; first | (refine lw_pure rfl (pv_lss rfl rfl) ?_) | (refine lw_pure rfl (pv_inc rfl rfl (by omega)) ?_) | (refine lw_pure rfl (pv_add rfl rfl (by omega)) ?_))) | ((refine is_load ?_; first | (refine lw_pure rfl (pv_load (t1 rfl) rfl (by first | exact PT.ld0 (HX.mono hw) rfl | exact PT.ld (HX.mono hw) rfl | exact SlR.ld (HX9.mono hw) hxk rfl | exact SlR.ld1 (HX9.mono hw) hxk rfl)) ?_))) | ((refine is_fa ?_; first | (refine lw_pure rfl (pv_fa (tF rfl) rfl) ?_))) | ((refine is_ia ?_; first | (refine lw_pure rfl (pv_ian (tS rfl) rfl rfl (by omega)) ?_))) | ((refine is_bi ?_; first | (refine lw_pure rfl (pv_minK rfl rfl) ?_) | (refine lw_pure rfl (pv_lenl (tS rfl) rfl) ?_))) | (refine is_pk ?_; refine lw_pure rfl (pv_pick_t rfl (by first | assumption | exact decide_eq_true (by omega) | exact dec_notT (by omega)) rfl) ?_))
      obtain ⟨f1, f2, f3, f4⟩ := hG.f hn3
      have hsn := sumX_snoc hak
      exact qw_round (k + 1, n + 1 + min 3000 a.bids.length) (by repeat' (first | exact trivial | refine ⟨rfl, ?_⟩)) ⟨by show k + 1 ≤ _; omega, hw, ⟨by have := hG.z; omega, fun hn9 => ⟨by omega, fun j u hj hu => by have := f2 j u hj hu; omega, fun j u hj hu => by have := f3 j u hj hu; omega, by show sumX (t.aucs.take (k + 1)) ≤ n + 1 + min 3000 a.bids.length; omega⟩⟩, by show n + 1 + _ ≤ _; omega⟩ (by show t.aucs.length - (k + 1) < t.aucs.length - k; omega)
    · have hA : Wg t t.accs.length t.inss.length t.aucs.length n := by
        refine ⟨hG.z, fun hn9 => ?_⟩
        have hkl : k = t.aucs.length := by omega
        have := hG.f hn9
        rw [hkl] at this; exact this
      repeat' (first | (refine lw_pure rfl (pv_move rfl) ?_) | (refine is_cw ?_; first | (refine cw_seq ?_) | (refine cw_region ?_) | (refine cw_false rfl rfl ?_) | (refine is_cd ?_; refine cw_false rfl (by first | assumption | exact decide_eq_false (by omega) | exact dec_notF (by omega)) ?_) | (refine cw_exit ?_)) | (refine is_qw ?_; first | (with_reducible refine qw_then ?_) | (with_reducible refine qw_in_hit ?_) | (with_reducible refine qw_then_exit ?_)) | (refine lw_nil ?_) | (refine is_guarded ?_; first | (refine lw_on rfl rfl (by first | assumption | exact decide_eq_true (by omega) | exact decide_eq_false (by omega) | exact dec_notT (by omega) | exact dec_notF (by omega)) ?_) | (refine lw_not rfl rfl rfl (by first | assumption | exact decide_eq_true (by omega) | exact decide_eq_false (by omega) | exact dec_notT (by omega) | exact dec_notF (by omega)) ?_) | (refine lw_gs_t rfl rfl rfl (fun hc => ?_) (fun hc => ?_) <;> (first | replace hc := of_decide_eq_true hc | replace hc := of_decide_eq_false hc | replace hc := dec_nT hc | replace hc := dec_nF hc | skip) <;> (try (exfalso; omega)))) | ((refine is_bin ?_; first | (refine lw_pure rfl (pv_lss rfl rfl) ?_))) | ((refine is_load ?_; first | (refine lw_pure rfl (pv_load (t1 rfl) rfl (by first | exact PT.ld0 (HX.mono hw) rfl | exact PT.ld (HX.mono hw) rfl)) ?_))) | ((refine is_fa ?_; first | (refine lw_pure rfl (pv_fa (tF rfl) rfl) ?_))) | ((refine is_bi ?_; first | (refine lw_pure rfl (pv_lenl (tS rfl) rfl) ?_))) | (refine is_pk ?_; refine lw_pure rfl (pv_pick_t rfl (by first | assumption | exact decide_eq_true (by omega) | exact dec_notT (by omega)) rfl) ?_) | (refine is_pk ?_; refine lw_pure rfl (pv_pick_f rfl (by first | assumption | exact decide_eq_false (by omega) | exact dec_notF (by omega)) rfl) ?_))
      all_goals exact qw_join n (by repeat' (first | exact trivial | refine ⟨rfl, ?_⟩)) ⟨hw, hA, hn⟩
  clear hw
  rintro n wr ⟨hw, hG, hn⟩
  repeat' (first | (refine lw_pure rfl (pv_move rfl) ?_) | (refine lw_pure rfl (pv_assign rfl) ?_) | (refine is_cw ?_; first | (refine cw_seq ?_) | (refine cw_region ?_) | (refine cw_ret ?_)) | (refine is_qw ?_; first | (with_reducible refine qw_then ?_)) | (refine lw_nil ?_) | ((refine is_bi ?_; first | (refine lw_pure rfl (pv_minL rfl rfl) ?_))))
  refine qw_ret1 rfl rfl ⟨⟨min 3000 n, rfl, fun h => ?_⟩, (hE.mono hw).b⟩
  obtain ⟨f1, f2, f3, f4⟩ := hG.f (by omega)
  rw [List.take_of_length_le (Nat.le_refl _)] at f4
  exact ⟨by omega, by omega, by omega, all_get fun j x hj => by have := f2 j x (List.getElem?_eq_some_iff.1 hj).1 hj; omega, all_get fun j x hj => by have := f3 j x (List.getElem?_eq_some_iff.1 hj).1 hj; omega, by omega⟩
end Go.Proofs.YtekomjnjddhfmaaGreat
namespace Go.Proofs.YtekomjnjddhfmaaGreat
open Go.ChangeShapes Go.WideShapes Go.ChangeAt Go.RowKit Go.Deep Go.WideElems Go.Joins
section
variable {H : Type} {enc : TypeId × Value → H} {P : Program} {w : World} {base : Nat} {held : Bool}
theorem mem_weightsAll {e : TypeId} {n : Nat} {y : DataW H} (hn : n ∈ DataW.weights P e y) : ∀ {ds : List (DataW H)}, y ∈ ds → n ∈ DataW.weightsAll P e ds
  | [], h => by cases h
  | d :: r, h => by
    rw [DataW.weightsAll]
    rcases List.mem_cons.1 h with rfl | h
    · exact List.mem_append_left _ hn
    · exact List.mem_append_right _ (mem_weightsAll hn h)
theorem cell_in {a : Addr} {v : Value} (h : w.cell? a = some v) : a.spot = none ∧ a.block < w.heap.size := by
  unfold World.cell? at h
  cases hb : w.heap[a.block]? with
  | none => rw [hb] at h; cases h
  | some o =>
    refine ⟨?_, (Array.getElem?_eq_some_iff.1 hb).1⟩
    rw [hb] at h
    cases o <;> first | (cases h; done) | (cases hs : a.spot with | none => rfl | some s => rw [hs] at h; simp at h)
theorem open_slV {α : Type} (encE : α → List Value) (k B : Nat) (Pr : α → Prop) {t e : TypeId} {fuel : Nat} {c : Value} {x : DataW H × List MemPlace} (hk : ∀ x, (encE x).length = k) (hk0 : 0 < k) (ht : P.underlying t = some (.slice e)) (hC : P.cellsOf e = k) (hby : Nat.ble 1 (P.bytesOf e) = true)
    (hdec : ∀ n cs y, DataW.trod enc P w base (fun _ => true) held n e cs = some y → (∀ n ∈ DataW.weights P e y.1, n ≤ B) → ∃ x : α, cs = encE x ∧ Pr x)
    (h : DataW.trod enc P w base (fun _ => true) held fuel t [c] = some x) (hwt : ∀ n ∈ DataW.weights P t x.1, n ≤ B) : ∃ a cap, ∃ xs : List α, c = .slice a xs.length cap ∧ SlR encE k w a cap xs ∧ (∀ z ∈ xs, Pr z) ∧ xs.length ≤ B := by
  rcases open_slice ht h with ⟨h0, _⟩ | ⟨a, len, cap, m, n, D, Pl, hcs, hb, hl, hm, hmm, hx, hi⟩
  · simp only [List.cons.injEq, and_true] at h0
    exact ⟨none, 0, [], h0, SlR.nil w, by simp, Nat.zero_le _⟩
  · simp only [List.cons.injEq, and_true] at hcs
    subst hcs
    simp only [if_true] at hmm
    subst hmm
    subst hx
    rw [DataW.weights, ht] at hwt
    have hlen0 : len ≤ B := by
      have h1 := hwt _ List.mem_cons_self
      simp only [List.length_map, List.length_range] at h1
      have h2 : len * 1 ≤ (len + (m - len)) * P.bytesOf e := Nat.mul_le_mul (by omega) (Nat.le_of_ble_eq_true hby)
      omega
    have hE : ∀ i, i < len → ∃ x : α, w.cells? base (a.add (i * P.cellsOf e)) (P.cellsOf e) = some (encE x) ∧ Pr x := fun i h => by
      obtain ⟨cs', h1, h2⟩ := hi i (by omega)
      obtain ⟨x, rfl, hp⟩ := hdec _ _ _ h2 fun q hq => hwt q (List.mem_cons_of_mem _ (List.mem_append_left _ (mem_weightsAll hq (List.mem_map.2 ⟨i, List.mem_range.2 h, rfl⟩))))
      exact ⟨x, h1, hp⟩
    have hL : ∀ m, m ≤ len → ∃ xs : List α, xs.length = m ∧ (∀ j x, xs[j]? = some x → w.cells? base (a.add (j * P.cellsOf e)) (P.cellsOf e) = some (encE x)) ∧ ∀ x ∈ xs, Pr x := by
      intro m hm
      induction m with
      | zero => exact ⟨[], rfl, fun j x hx => by simp at hx, by simp⟩
      | succ m ih =>
        obtain ⟨xs, h1, h2, h3⟩ := ih (by omega)
        obtain ⟨x, hx, hp⟩ := hE m (by omega)
        refine ⟨xs ++ [x], by simp [h1], fun j y hy => ?_, fun y hy => ?_⟩
        · by_cases hj : j < xs.length
          · rw [List.getElem?_append_left hj] at hy; exact h2 j y hy
          · rw [List.getElem?_append_right (by omega)] at hy
            have : j - xs.length = 0 := by
              have := (List.getElem?_eq_some_iff.1 hy).1; simp at this; omega
            rw [this] at hy; simp at hy; subst hy
            have : j = m := by omega
            subst this; exact hx
        · rcases List.mem_append.1 hy with hy | hy
          · exact h3 y hy
          · simp at hy; subst hy; exact hp
    obtain ⟨xs, hlen, hxs, hpr⟩ := hL len (Nat.le_refl _)
    refine ⟨some a, _, xs, by rw [hlen], ⟨by omega, by simpa [maxLen] using hm, (fun h => by cases h), fun ad had hc => ?_⟩, hpr, by omega⟩
    cases had
    obtain ⟨cs0, h1, _⟩ := hi 0 hc
    obtain ⟨_, h2, h3⟩ := World.cells?_some h1
    have h4 := h3 0 (by rw [hC]; exact hk0)
    rw [List.getElem?_eq_getElem (by rw [h2, hC]; exact hk0)] at h4
    obtain ⟨hsp, hlt⟩ := cell_in h4
    obtain ⟨b, off, sp⟩ := a
    have e0 : ((⟨b, off, sp⟩ : Addr).add (0 * P.cellsOf e)).add 0 = ⟨b, off, sp⟩ := by simp [Addr.add]
    rw [e0] at hsp hlt
    have hsp0 : sp = none := hsp
    subst hsp0
    refine ⟨rfl, hlt, fun j x hx i v hv => ?_⟩
    obtain ⟨_, h1, h2⟩ := World.cells?_some (hxs j x hx)
    have hik : i < k := by have := (List.getElem?_eq_some_iff.1 hv).1; rwa [hk] at this
    have h3 := h2 i (by rw [hC]; exact hik)
    rw [hv] at h3
    rw [hC] at h3
    rwa [Addr.add_lit, Addr.add_lit] at h3
theorem SlR.map_fst {α β : Type} {encE : α → List Value} {k : Nat} {a : Option Addr} {cap : Nat} {xs : List β} (f : β → α) (h : SlR (fun x => encE (f x)) k w a cap xs) : SlR encE k w a cap (xs.map f) := by
  refine ⟨by rw [List.length_map]; exact h.le, h.max, fun hn => ?_, fun ad had hc => ?_⟩
  · obtain ⟨h1, h2⟩ := h.ofNone hn; exact ⟨by rw [h1]; rfl, h2⟩
  · obtain ⟨h1, h2, h3⟩ := h.ofSome ad had hc
    refine ⟨h1, h2, fun j x hx i v hv => ?_⟩
    rw [List.getElem?_map] at hx
    cases hq : xs[j]? with
    | none => rw [hq] at hx; cases hx
    | some z => rw [hq, Option.map_some] at hx; injection hx with hx; subst hx; exact h3 j z hq i v hv
theorem wt_in {n : Nat} : ∀ {ts : List TypeId} {ds : List (DataW H)} {j : Nat} {t : TypeId} {d : DataW H}, ts[j]? = some t → ds[j]? = some d → n ∈ DataW.weights P t d → n ∈ DataW.weightsEach P ts ds
  | t :: ts, d :: ds, 0, _, _, h1, h2, hn => by
    simp at h1 h2; subst h1 h2
    rw [DataW.weightsEach]; exact List.mem_append_left _ hn
  | t :: ts, d :: ds, j + 1, _, _, h1, h2, hn => by
    rw [DataW.weightsEach]; exact List.mem_append_right _ (wt_in (by simpa using h1) (by simpa using h2) hn)
  | [], _, _, _, _, h1, _, _ => by simp at h1
  | _ :: _, [], _, _, _, _, h2, _ => by simp at h2
theorem wt_of {ts us : List TypeId} {ds gs : List (DataW H)} (hZ : ((DataW.weightsEach P (ts ++ us) (ds ++ gs)).all fun x => decide (x ≤ reachBytes)) = true) {j : Nat} {t : TypeId} {d : DataW H} (ht : ts[j]? = some t) (hd : ds[j]? = some d) : ∀ n ∈ DataW.weights P t d, n ≤ reachBytes := fun n hn => by
  have h1 : (ts ++ us)[j]? = some t := by rw [List.getElem?_append_left (List.getElem?_eq_some_iff.1 ht).1]; exact ht
  have h2 : (ds ++ gs)[j]? = some d := by rw [List.getElem?_append_left (List.getElem?_eq_some_iff.1 hd).1]; exact hd
  exact of_decide_eq_true (List.all_eq_true.1 hZ n (wt_in h1 h2 hn))
theorem wt_part {B : Nat} {t u : TypeId} {fs : Array Field} {ds : List (DataW H)} (ht : P.underlying t = some (.struct fs)) (hwt : ∀ n ∈ DataW.weights P t (.agg ds), n ≤ B) {j : Nat} {d : DataW H} (hj : (fs.toList.map (·.type))[j]? = some u) (hd : ds[j]? = some d) : ∀ n ∈ DataW.weights P u d, n ≤ B := fun n hn => hwt n (by
  rw [DataW.weights, ht]
  exact wt_in hj hd hn)
theorem trod_u8 {fuel : Nat} {t : TypeId} {c : Value} {x : DataW H × List MemPlace} (ht : P.underlying t = some (.int .u8)) (h : DataW.trod enc P w base (fun _ => true) held fuel t [c] = some x) : ∃ n : Int, c = .int .u8 n ∧ 0 ≤ n ∧ n ≤ 255 := by
  obtain ⟨n, e, _, hw⟩ := DataW.trod_int (k := .u8) ht h
  simp only [List.cons.injEq, and_true] at e
  simp only [Lit.wf, Bool.and_eq_true, decide_eq_true_eq] at hw
  exact ⟨n, e, hw⟩
theorem trod_strW {B fuel : Nat} {t : TypeId} {c : Value} {x : DataW H × List MemPlace} (ht : P.underlying t = some .string) (h : DataW.trod enc P w base (fun _ => true) held fuel t [c] = some x) (hwt : ∀ n ∈ DataW.weights P t x.1, n ≤ B) : ∃ s : ByteArray, c = .string s ∧ s.size ≤ B := by
  obtain ⟨s, e, hx, _⟩ := DataW.trod_string ht h
  simp only [List.cons.injEq, and_true] at e
  refine ⟨s, e, hwt _ ?_⟩
  rw [hx, DataW.weights]
  exact List.mem_singleton.2 Array.length_toList.symm
theorem trod_bool1 {fuel : Nat} {t : TypeId} {c : Value} {x : DataW H × List MemPlace} (ht : P.underlying t = some .bool) (h : DataW.trod enc P w base (fun _ => true) held fuel t [c] = some x) : ∃ b : Bool, c = .bool b := by
  obtain ⟨b, e, _⟩ := DataW.trod_bool ht h
  simp only [List.cons.injEq, and_true] at e
  exact ⟨b, e⟩
end
section
variable {H : Type} {enc : TypeId × Value → H} {W : World} {base : Nat} {held : Bool} {b0 : Nat} {v : Value} {d : DataW H} {p : List MemPlace} {B : Nat}
set_option maxRecDepth 20000 in
theorem acc_dec (n : Nat) (cs : List Value) (y : DataW H × List MemPlace) (h : DataW.trod enc Tryz.prog W base (fun _ => true) held n 34 cs = some y) (hwt : ∀ n ∈ DataW.weights Tryz.prog 34 y.1, n ≤ B) : ∃ r : Acc, cs = encA r ∧ r.name.size ≤ B := by
  obtain ⟨xs, m, _, rfl, hl, hlen, hf⟩ := DataW.trod_struct Tryz.underlying34 h
  rw [show Tryz.prog.cellsOf 34 = 2 by kernel_rfl] at hl
  match xs, hlen, cs, hl with
  | [y0, y1], _, [c0, c1], _ =>
    obtain ⟨a, rfl, ha⟩ := trod_strW (c := c0) (B := B) Tryz.underlying9 (hf 0 _ rfl) (wt_part Tryz.underlying34 hwt (j := 0) rfl rfl)
    obtain ⟨b, rfl⟩ := trod_bool1 (c := c1) Tryz.underlying4 (hf 1 _ rfl)
    exact ⟨⟨a, b⟩, rfl, ha⟩
set_option maxRecDepth 20000 in
theorem ins_dec (n : Nat) (cs : List Value) (y : DataW H × List MemPlace) (h : DataW.trod enc Tryz.prog W base (fun _ => true) held n 37 cs = some y) (hwt : ∀ n ∈ DataW.weights Tryz.prog 37 y.1, n ≤ B) : ∃ r : Ins, cs = encN r ∧ r.name.size ≤ B ∧ (-9223372036854775808 ≤ r.tick ∧ r.tick ≤ 9223372036854775807) := by
  obtain ⟨xs, m, _, rfl, hl, hlen, hf⟩ := DataW.trod_struct Tryz.underlying37 h
  rw [show Tryz.prog.cellsOf 37 = 3 by kernel_rfl] at hl
  match xs, hlen, cs, hl with
  | [y0, y1, y2], _, [c0, c1, c2], _ =>
    obtain ⟨a, rfl, ha⟩ := trod_strW (c := c0) (B := B) Tryz.underlying9 (hf 0 _ rfl) (wt_part Tryz.underlying37 hwt (j := 0) rfl rfl)
    obtain ⟨q, rfl, hq⟩ := trod_i64 (c := c1) Tryz.underlying2 (hf 1 _ rfl)
    obtain ⟨b, rfl⟩ := trod_bool1 (c := c2) Tryz.underlying4 (hf 2 _ rfl)
    exact ⟨⟨a, q, b⟩, rfl, ha, hq⟩
set_option maxRecDepth 20000 in
theorem ord_dec (n : Nat) (cs : List Value) (y : DataW H × List MemPlace) (h : DataW.trod enc Tryz.prog W base (fun _ => true) held n 41 cs = some y) (hwt : ∀ n ∈ DataW.weights Tryz.prog 41 y.1, n ≤ B) : ∃ r : Ord, cs = encO r ∧ (-9223372036854775808 ≤ r.price ∧ r.price ≤ 9223372036854775807) ∧ (-9223372036854775808 ≤ r.left ∧ r.left ≤ 9223372036854775807) := by
  obtain ⟨xs, m, _, rfl, hl, hlen, hf⟩ := DataW.trod_struct Tryz.underlying41 h
  rw [show Tryz.prog.cellsOf 41 = 6 by kernel_rfl] at hl
  match xs, hlen, cs, hl with
  | [y0, y1, y2, y3, y4, y5], _, [c0, c1, c2, c3, c4, c5], _ =>
    obtain ⟨a, rfl, _⟩ := trod_i64 (c := c0) Tryz.underlying2 (hf 0 _ rfl)
    obtain ⟨b, rfl, _⟩ := trod_i64 (c := c1) Tryz.underlying3 (hf 1 _ rfl)
    obtain ⟨i, rfl, _⟩ := trod_i64 (c := c2) Tryz.underlying3 (hf 2 _ rfl)
    obtain ⟨s, rfl, _⟩ := trod_u8 (c := c3) Tryz.underlying5 (hf 3 _ rfl)
    obtain ⟨q, rfl, hq⟩ := trod_i64 (c := c4) Tryz.underlying2 (hf 4 _ rfl)
    obtain ⟨l, rfl, hl⟩ := trod_i64 (c := c5) Tryz.underlying2 (hf 5 _ rfl)
    exact ⟨⟨a, b, i, s, q, l⟩, rfl, hq, hl⟩
set_option maxRecDepth 20000 in
theorem bid_dec (n : Nat) (cs : List Value) (y : DataW H × List MemPlace) (h : DataW.trod enc Tryz.prog W base (fun _ => true) held n 46 cs = some y) (_ : ∀ n ∈ DataW.weights Tryz.prog 46 y.1, n ≤ B) : ∃ r : Bid, cs = encD r ∧ True := by
  obtain ⟨xs, m, _, rfl, hl, hlen, hf⟩ := DataW.trod_struct Tryz.underlying46 h
  rw [show Tryz.prog.cellsOf 46 = 2 by kernel_rfl] at hl
  match xs, hlen, cs, hl with
  | [y0, y1], _, [c0, c1], _ =>
    obtain ⟨a, rfl, _⟩ := trod_i64 (c := c0) Tryz.underlying3 (hf 0 _ rfl)
    obtain ⟨b, rfl, _⟩ := trod_i64 (c := c1) Tryz.underlying2 (hf 1 _ rfl)
    exact ⟨⟨a, b⟩, rfl, trivial⟩
set_option maxRecDepth 20000 in
theorem auc_dec (n : Nat) (cs : List Value) (y : DataW H × List MemPlace) (h : DataW.trod enc Tryz.prog W base (fun _ => true) held n 44 cs = some y) (hwt : ∀ n ∈ DataW.weights Tryz.prog 44 y.1, n ≤ B) : ∃ r : AucC × List Bid, cs = encC r.1 ∧ AuR W r.1 ⟨r.1.h, r.2⟩ := by
  obtain ⟨xs, m, _, hx, hl, hlen, hf⟩ := DataW.trod_struct Tryz.underlying44 h
  subst hx
  rw [show Tryz.prog.cellsOf 44 = 9 by kernel_rfl] at hl
  match xs, hlen, cs, hl with
  | [y0, y1, y2, y3, y4, y5, y6, y7, y8], _, [c0, c1, c2, c3, c4, c5, c6, c7, c8], _ =>
    obtain ⟨a, rfl, _⟩ := trod_i64 (c := c0) Tryz.underlying2 (hf 0 _ rfl)
    obtain ⟨b, rfl, _⟩ := trod_i64 (c := c1) Tryz.underlying3 (hf 1 _ rfl)
    obtain ⟨i, rfl, _⟩ := trod_i64 (c := c2) Tryz.underlying3 (hf 2 _ rfl)
    obtain ⟨s, rfl⟩ := trod_bool1 (c := c3) Tryz.underlying4 (hf 3 _ rfl)
    obtain ⟨q, rfl, _⟩ := trod_i64 (c := c4) Tryz.underlying2 (hf 4 _ rfl)
    obtain ⟨l, rfl, _⟩ := trod_i64 (c := c5) Tryz.underlying2 (hf 5 _ rfl)
    obtain ⟨e, rfl, _⟩ := trod_i64 (c := c6) Tryz.underlying2 (hf 6 _ rfl)
    obtain ⟨f, rfl, _⟩ := trod_i64 (c := c7) Tryz.underlying2 (hf 7 _ rfl)
    have g8 : DataW.trod enc Tryz.prog W base (fun _ => true) held m 42 [c8] = some y8 := hf 8 _ rfl
    obtain ⟨ka, kc, ks, rfl, S8, -⟩ := open_slV encD 2 B (fun _ => True) encD_len (by omega) Tryz.underlying42 (by kernel_rfl) (by kernel_rfl) bid_dec g8 (wt_part Tryz.underlying44 hwt (j := 8) rfl rfl)
    exact ⟨⟨⟨⟨a, b, i, s, q, l, e, f⟩, ka, ks.length, kc⟩, ks⟩, rfl, ⟨rfl, rfl, S8⟩⟩
theorem row_decW (n : Nat) (cs : List Value) (y : DataW H × List MemPlace) (h : DataW.trod enc Tryz.prog W base (fun _ => true) held n 39 cs = some y) (_ : ∀ n ∈ DataW.weights Tryz.prog 39 y.1, n ≤ B) : ∃ r : Row, cs = encR r ∧ RIn r := row_dec n cs y h
set_option maxRecDepth 20000 in
set_option maxHeartbeats 1000000 in
theorem state_open (hv : Value.okWide Tryz.prog W .any b0 30 v) (h : DataW.Trod enc Tryz.prog W base (fun _ => true) held 30 v d p) (hwt : ∀ n ∈ DataW.weights Tryz.prog 30 d, n ≤ reachBytes) : ∃ s t, v = (.agg (encS s).toArray) ∧ StR W s t ∧ StBg t ∧ StIn t := by
  obtain ⟨⟨cs⟩, rfl, hsz⟩ := okWide_struct Tryz.underlying30 hv
  obtain ⟨fuel, hf⟩ := h
  obtain ⟨xs, m, _, hx, hl, hlen, hfi⟩ := DataW.trod_struct Tryz.underlying30 hf
  rw [show Tryz.prog.cellsOf 30 = 9 by kernel_rfl] at hl
  have hl2 : cs.length = 9 := hl
  have h7 : reachBytes ≤ 140737488355328 := by decide
  have hU := Tryz.underlying30
  match xs, hlen, cs, hl2 with
  | [y0, y1, y2, y3, y4, y5, y6, y7, y8], _, [c0, c1, c2, c3, c4, c5, c6, c7, c8], _ =>
    simp only [Prod.mk.injEq] at hx
    obtain ⟨rfl, -⟩ := hx
    obtain ⟨a, rfl, _⟩ := trod_i64 (c := c0) Tryz.underlying2 (hfi 0 _ rfl)
    obtain ⟨b, rfl, _⟩ := trod_i64 (c := c1) Tryz.underlying2 (hfi 1 _ rfl)
    obtain ⟨o, rfl, ho⟩ := trod_i64 (c := c2) Tryz.underlying2 (hfi 2 _ rfl)
    obtain ⟨u, rfl, _⟩ := trod_i64 (c := c3) Tryz.underlying2 (hfi 3 _ rfl)
    have g4 : DataW.trod enc Tryz.prog W base (fun _ => true) held m 24 [c4] = some y4 := hfi 4 _ rfl
    have g5 : DataW.trod enc Tryz.prog W base (fun _ => true) held m 25 [c5] = some y5 := hfi 5 _ rfl
    have g6 : DataW.trod enc Tryz.prog W base (fun _ => true) held m 26 [c6] = some y6 := hfi 6 _ rfl
    have g7 : DataW.trod enc Tryz.prog W base (fun _ => true) held m 27 [c7] = some y7 := hfi 7 _ rfl
    have g8 : DataW.trod enc Tryz.prog W base (fun _ => true) held m 28 [c8] = some y8 := hfi 8 _ rfl
    obtain ⟨pa, ca, la, rfl, A, qa, ba⟩ := open_slV encA 2 reachBytes (fun x => x.name.size ≤ reachBytes) encA_len (by omega) Tryz.underlying24 (by kernel_rfl) (by kernel_rfl) acc_dec g4 (wt_part hU hwt (j := 4) rfl rfl)
    obtain ⟨pi, ci, li, rfl, I, qi, bi⟩ := open_slV encN 3 reachBytes (fun x => x.name.size ≤ reachBytes ∧ (-9223372036854775808 ≤ x.tick ∧ x.tick ≤ 9223372036854775807)) encN_len (by omega) Tryz.underlying25 (by kernel_rfl) (by kernel_rfl) ins_dec g5 (wt_part hU hwt (j := 5) rfl rfl)
    obtain ⟨pr, cr, lr, rfl, R, qr, br⟩ := open_slV encR 4 reachBytes RIn encR_len (by omega) Tryz.underlying26 (by kernel_rfl) (by kernel_rfl) row_decW g6 (wt_part hU hwt (j := 6) rfl rfl)
    obtain ⟨po, co, lo, rfl, O, qo, bo⟩ := open_slV encO 6 reachBytes (fun r : Ord => (-9223372036854775808 ≤ r.price ∧ r.price ≤ 9223372036854775807) ∧ (-9223372036854775808 ≤ r.left ∧ r.left ≤ 9223372036854775807)) encO_len (by omega) Tryz.underlying27 (by kernel_rfl) (by kernel_rfl) ord_dec g7 (wt_part hU hwt (j := 7) rfl rfl)
    obtain ⟨px, cx, lx, rfl, X, qx, bx⟩ := open_slV (fun x : AucC × List Bid => encC x.1) 9 reachBytes (fun x => AuR W x.1 ⟨x.1.h, x.2⟩) (fun _ => rfl) (by omega) Tryz.underlying28 (by kernel_rfl) (by kernel_rfl) auc_dec g8 (wt_part hU hwt (j := 8) rfl rfl)
    refine ⟨⟨a, b, o, u, pa, _, ca, pi, _, ci, pr, _, cr, po, _, co, px, _, cx⟩, ⟨a, b, o, u, la, li, lr, lo, lx.map fun x => ⟨x.1.h, x.2⟩⟩, rfl, ⟨⟨rfl, rfl, rfl, rfl⟩, rfl, rfl, rfl, rfl, by simp, A, I, R, O, lx.map (·.1), SlR.map_fst _ X, by simp, fun j x c hx hc => ?_⟩, ⟨Nat.le_trans br h7, Nat.le_trans bo h7, fun x hx => Nat.le_trans (qa x hx) h7, fun x hx => Nat.le_trans (qi x hx).1 h7, qr⟩, ⟨fun x hx => Nat.le_trans (qa x hx) h7, fun x hx => ⟨Nat.le_trans (qi x hx).1 h7, (qi x hx).2⟩, qr, qo, ho⟩⟩
    rw [List.getElem?_map, Option.map_eq_some_iff] at hx hc
    obtain ⟨z, hz, rfl⟩ := hx
    obtain ⟨z2, hz2, rfl⟩ := hc
    rw [hz] at hz2; injection hz2 with hz2; subst hz2
    exact qx z (List.mem_of_getElem? hz)
end
end Go.Proofs.YtekomjnjddhfmaaGreat
namespace Go.Proofs.YtekomjnjddhfmaaGreat
open Go.RowKit Go.PlainAid

section
variable {α : Type} {enc : α → List Value} {k nb : Nat} {P : Program} {n : Nat} {l : Fr} {w : World} {d : Option Nat} {ty : TypeId} {pos : String} {af : Array Edge} {g : Option (Nat × Bool)} {x y : Operand} {S T : TypeId} {base N : Nat} {ys : List α} {a : Option Addr} {m c : Nat} {Z : Value → World → Prop}
def Emp (T : TypeId) (base : Nat) (v : Value) (w : World) : Prop := ∃ N, base ≤ N ∧ v = .slice (some ⟨N, 0, none⟩) 0 0 ∧ w.heap[N]? = some (.cells #[] T (0, 0))
theorem Emp.mono {T : TypeId} {base : Nat} {v : Value} {w w' : World} (h : Emp T base v w) (hb : Below w.heap.size w w') : Emp T base v w' := by
  obtain ⟨N, h1, h2, h3⟩ := h
  exact ⟨N, h1, h2, (hb.block N (Array.getElem?_eq_some_iff.1 h3).1).trans h3⟩
theorem act_bs0 (E : ElemT P S T k nb) (hb : base ≤ w.heap.size) (h : ∀ v w', Emp T base v w' → Below w.heap.size w w' → Z v w') : Act1 P n l ⟨d, .buildSlice S 0 #[], ty, pos, af, g⟩ w Z := by
  obtain ⟨i, z, hi, hz, hsz, _, hzs⟩ := E.info
  refine act_ev (w' := w.alloc (.cells #[] T)) (v := .slice (some ⟨w.heap.size, 0, none⟩) 0 0) ⟨fun A hA => ?_⟩ (h _ _ ⟨_, hb, rfl, heap_alloc_new w _⟩ (below_alloc _ _))
  have e0 : Array.range 0 = #[] := Array.eq_empty_of_size_eq_zero (by simp)
  simp [execOp, Instr.buildSlice, run_underlying E.sl, sizeOf, typeInfo, hi, Instr.fill, newRow, e0]
theorem act_app0 (E : ElemT P S T k nb) (hk : ∀ x, (enc x).length = k) (h1c : ∀ x, ∀ v ∈ enc x, v.oneCell' = true) {v : Value} (hx : ev l x = some v) (hv : Emp T base v w) (hy : ev l y = some (.slice a m c)) (hs : SlR enc k w a c ys) (hm : m = ys.length) (hb : base ≤ w.heap.size) (hsz : ys.length * nb ≤ 140737488355328) (hmx : ys.length ≤ maxLen)
    (h : ∀ v' w', Own enc k T base w' v' ys → Below w.heap.size w w' → Z v' w') : Act1 P n l ⟨d, .call ⟨.builtin .append, #[x, y], #[S, S]⟩, ty, pos, af, g⟩ w Z := by
  subst hm
  obtain ⟨N, hN, rfl, hh⟩ := hv
  cases ys with
  | cons u r =>
    have h0 : SlR enc k w (some ⟨N, 0, none⟩) 0 ([] : List α) := ⟨Nat.le_refl _, by omega, (fun h => by cases h), fun ad _ hc => by omega⟩
    obtain ⟨v', w', h1, h2, h3⟩ := app_full E hk h1c ty h0 hs (by simp) (by simpa using hsz) (by simpa using hmx)
    exact act_ev (v := v') (w' := w') ⟨fun A hA => by simp at h1; simp [execOp, resolve, hA.ev hx, hA.ev hy, invoke, builtin, h1]⟩ (h _ _ ((by simpa using h2 : Own enc k T w.heap.size w' v' (u :: r)).weaken hb) (below_none h3))
  | nil =>
    obtain ⟨i, z, hi, hz, hsz2, _, _⟩ := E.info
    have hO : Own enc k T base w (.slice (some ⟨N, 0, none⟩) 0 0) ([] : List α) := ⟨by simp, .inr ⟨N, 0, #[], rfl, hN, hh, Nat.le_refl _, by simp [maxLen], by simp, by simp⟩⟩
    cases a with
    | none =>
      obtain ⟨_, rfl⟩ := hs.ofNone rfl
      have h1 := run_append_owned_none (P := P) w base S ty T i k E.sl hi _ _ _ hO
      exact act_ev (v := .slice (some ⟨N, 0, none⟩) 0 0) (w' := w) ⟨fun A hA => by simp [execOp, resolve, hA.ev hx, hA.ev hy, invoke, builtin, h1]⟩ (h _ _ hO (Below.refl _ _))
    | some ad =>
      have h1 := run_append_room (P := P) w S ty T i E.sl hi N 0 0 #[] hh ad 0 c [] (by simp) (by simp) (by simp) (by simp) (by simp)
      have hh2 : (w.setRow N #[]).heap[N]? = some (.cells #[] T (0, 0)) := setRow_heap w N _ _ T _ hh
      refine act_ev (v := .slice (some ⟨N, 0, none⟩) 0 0) (w' := w.setRow N #[]) ⟨fun A hA => by simp at h1; simp [execOp, resolve, hA.ev hx, hA.ev hy, invoke, builtin, h1]⟩ (h _ _ ⟨by simp, .inr ⟨N, 0, #[], rfl, hN, hh2, Nat.le_refl _, by simp [maxLen], by simp, by simp⟩⟩ ⟨rfl, rfl, rfl, by simp, fun q _ => ?_⟩)
      rcases Nat.decEq q N with hq | hq
      · exact setRow_other w N q _ hq
      · subst hq; rw [hh2, hh]
theorem lw_of_act {ops : Array Oper} {Q : Exit → Act → World → Prop} {os : List Oper} {d : Nat} {op : Op} (hd : Nat.blt d n = true) (h : Act1 P n l ⟨some d, op, ty, pos, af, none⟩ w (fun v w' => LW P n ops Q os ((d, v) :: l) w')) : LW P n ops Q (⟨some d, op, ty, pos, af, none⟩ :: os) l w :=
  ⟨fun a ha => wpList_plain rfl fun K hK => h.out a ha K _ fun v w' hl => hK _ _ (hl.out _ (ha.put hd v))⟩
end
section
variable {α : Type} {enc : α → List Value} {k : Nat} {P : Program} {n : Nat} {l : Fr} {w : World} {d : Option Nat} {ty : TypeId} {pos : String} {af : Array Edge} {gd : Option (Nat × Bool)} {T t : TypeId} {x y : Operand} {base g cap : Nat} {xs : List α} {Z : Value → World → Prop}
theorem act_storeF (hk : ∀ x, (enc x).length = k) (ht : sizeB P t 1 = true) {i f o : Nat} {v : Value} {a u : α} (hx : ev l x = some (.pointer (some ⟨g, o, none⟩))) (ho : o = i * k + f) (hy : ev l y = some v) (h1 : v.oneCell' = true) (hO : Own enc k T base w (.slice (some ⟨g, 0, none⟩) xs.length cap) xs) (ha : xs[i]? = some a) (hu : enc u = (enc a).set f v) (hf : f < k)
    (h : ∀ w', Own enc k T base w' (.slice (some ⟨g, 0, none⟩) xs.length cap) (xs.set i u) → w.grownBy w' (some g) → w'.heap.size = w.heap.size → Z undef w') : Act1 P n l ⟨d, .store t x y, ty, pos, af, gd⟩ w Z := by
  subst ho
  obtain ⟨cur, hb, hg, hle, hmax, hsz, htk⟩ := Own.heap' hO
  have hi : i < xs.length := (List.getElem?_eq_some_iff.1 ha).1
  have hik : i * k + f < xs.length * k := by
    have := Nat.mul_le_mul_right k (show i + 1 ≤ xs.length from hi); rw [Nat.add_mul, Nat.one_mul] at this; omega
  have hck : xs.length * k ≤ cap * k := Nat.mul_le_mul_right k hle
  have hp : PT w g T cur.toList := by unfold PT; simpa using hg
  obtain ⟨w', a1, b1, c1, e1⟩ := sv_store (P := P) (n := n) (l := l) (d := d) (ty := ty) (pos := pos) (af := af) (g := gd) hp ht hx hy h1 (by rw [Array.length_toList, hsz]; omega)
  refine act_sv a1 (h w' ⟨by rw [flat_len enc k hk, List.length_set], Or.inr ⟨g, cap, (cur.toList.set (i * k + f) v).toArray, by rw [List.length_set], hb, b1, by rw [List.length_set]; exact hle, hmax, by simp [hsz], ?_⟩⟩ c1 e1)
  rw [List.length_set, flat_set hk ha hu hf, ← htk]
  simp only [List.take_set]
end
theorem own_sl {α : Type} {enc : α → List Value} {k : Nat} {T : TypeId} {base : Nat} {w : World} {a : Option Addr} {m c : Nat} {xs : List α} (hk : ∀ x, (enc x).length = k) (h : Own enc k T base w (.slice a m c) xs) : xs.length = m ∧ SlR enc k w a c xs := by
  obtain ⟨a', c', hv, hs, -⟩ := Own.slR hk h
  injection hv with e1 e2 e3
  subst e1 e2 e3
  exact ⟨rfl, hs⟩
theorem own_shape {α : Type} {enc : α → List Value} {k : Nat} {T : TypeId} {base : Nat} {w : World} {v : Value} {xs : List α} (hk : ∀ x, (enc x).length = k) (h : Own enc k T base w v xs) : ∃ a c, v = .slice a xs.length c := by
  obtain ⟨a, c, hv, -, -⟩ := Own.slR hk h
  exact ⟨a, c, hv⟩
theorem own_ne_ptN {α : Type} {enc : α → List Value} {k : Nat} {T T' : TypeId} {B N : Nat} {w : World} {v : Value} {xs : List α} {cs : List Value} (h : Own enc k T B w v xs) (hp : PT w N T' cs) (hT : T ≠ T') : v.ownBlock ≠ some N := by
  obtain ⟨_, h2⟩ := h
  rcases h2 with ⟨rfl, _⟩ | ⟨g, cap, cur, rfl, _, hg, _⟩
  · intro e; cases e
  · intro e
    have e : g = N := by simpa [Value.ownBlock] using e
    subst e
    have h1 : PT w g T cur.toList := by unfold PT; simpa using hg
    unfold PT at h1 hp
    rw [h1] at hp
    injection hp with hp; injection hp with _ h2 _
    exact hT h2
theorem own_own_ne {α β : Type} {enc : α → List Value} {enc' : β → List Value} {k k' B B' : Nat} {T T' : TypeId} {w : World} {v v' : Value} {xs : List α} {ys : List β} (h : Own enc k T B w v xs) (h' : Own enc' k' T' B' w v' ys) (hT : T ≠ T') : v.ownBlock = none ∨ v.ownBlock ≠ v'.ownBlock := by
  rcases h.2 with ⟨rfl, _⟩ | ⟨g, cap, cur, rfl, _, hg, _⟩
  · exact Or.inl rfl
  · rcases h'.2 with ⟨rfl, _⟩ | ⟨g', cap', cur', rfl, _, hg', _⟩
    · exact Or.inr (fun e => by cases e)
    · refine Or.inr fun e => ?_
      have e : g = g' := by simpa [Value.ownBlock] using e
      subst e
      rw [hg] at hg'
      injection hg' with hg'; injection hg' with _ h2 _
      exact hT h2
structure OwA (base : Nat) (w : World) (x : AucC) (a : Auc) : Prop where
  h : x.h = a.h
  o : Own encD 2 46 base w (.slice x.ba x.bm x.bc) a.bids
structure OwS (base : Nat) (w : World) (s : SttC) (t : Stt) (xs : List AucC) : Prop where
  n : s.clock = t.clock ∧ s.fee = t.fee ∧ s.nord = t.nord ∧ s.nauc = t.nauc
  A : Own encA 2 34 base w (.slice s.pa s.ma s.ca) t.accs
  I : Own encN 3 37 base w (.slice s.pi s.mi s.ci) t.inss
  R : Own encR 4 39 base w (.slice s.pr s.mr s.cr) t.rows
  O : Own encO 6 41 base w (.slice s.po s.mo s.co) t.ords
  X : Own encC 9 44 base w (.slice s.px s.mx s.cx) xs
  L : xs.length = t.aucs.length
  B : ∀ (j : Nat) x a, xs[j]? = some x → t.aucs[j]? = some a → OwA base w x a
theorem OwS.stR {base : Nat} {w : World} {s : SttC} {t : Stt} {xs : List AucC} (h : OwS base w s t xs) : StR w s t := by
  obtain ⟨a1, a2⟩ := own_sl encA_len h.A
  obtain ⟨i1, i2⟩ := own_sl encN_len h.I
  obtain ⟨r1, r2⟩ := own_sl encR_len h.R
  obtain ⟨o1, o2⟩ := own_sl encO_len h.O
  obtain ⟨x1, x2⟩ := own_sl encC_len h.X
  refine ⟨h.n, a1, i1, r1, o1, h.L.symm.trans x1, a2, i2, r2, o2, xs, x2, h.L, fun j x a hx ha => ?_⟩
  obtain ⟨q1, q2⟩ := h.B j x a hx ha
  obtain ⟨b1, b2⟩ := own_sl encD_len q2
  exact ⟨q1, b1, b2⟩

theorem sumX_len (l : List Auc) : l.length ≤ sumX l := by
  unfold sumX
  induction l with
  | nil => simp
  | cons a l ih => simp only [List.map_cons, List.sum_cons, List.length_cons]; omega
theorem sumX_mem {l : List Auc} {a : Auc} (h : a ∈ l) : 1 + a.bids.length ≤ sumX l := by
  unfold sumX
  induction l with
  | nil => cases h
  | cons b l ih =>
    simp only [List.map_cons, List.sum_cons]
    rcases List.mem_cons.1 h with rfl | h
    · omega
    · have := ih h; omega
theorem own_shapeM {α : Type} {enc : α → List Value} {k : Nat} {T : TypeId} {base : Nat} {w : World} {v : Value} {xs : List α} {m : Nat} (hk : ∀ x, (enc x).length = k) (h : Own enc k T base w v xs) (hm : xs.length = m) : ∃ a c, v = .slice a m c := by
  obtain ⟨a, c, hv⟩ := own_shape hk h
  exact ⟨a, c, by rw [hv, hm]⟩
theorem own_some {α : Type} {enc : α → List Value} {k : Nat} {T : TypeId} {base : Nat} {w : World} {a : Option Addr} {m c : Nat} {xs : List α} (h : Own enc k T base w (.slice a m c) xs) (h0 : 0 < m) : ∃ g, a = some ⟨g, 0, none⟩ := by
  obtain ⟨h1, h2⟩ := h
  rcases h2 with ⟨hv, h3⟩ | ⟨g, cap, cur, hv, _⟩
  · injection hv with _ e2 _; omega
  · injection hv with e1 _ _; exact ⟨g, e1⟩
structure OwI (base N2 N3 : Nat) (w1 : World) (t : Stt) (aA aI aR aO aX : Option Addr) (cA cI cR cO cX : Nat) (k : Nat) (xs : List AucC) (w : World) : Prop where
  b : Below w1.heap.size w1 w
  h2 : ∃ cs, PT w N2 30 cs ∧ cs.length = 9
  h3 : PT w N3 30 [.int .i64 t.clock, .int .i64 t.fee, .int .i64 t.nord, .int .i64 t.nauc, .slice aA t.accs.length cA, .slice aI t.inss.length cI, .slice aR t.rows.length cR, .slice aO t.ords.length cO, .slice aX t.aucs.length cX]
  A : Own encA 2 34 base w (.slice aA t.accs.length cA) t.accs
  I : Own encN 3 37 base w (.slice aI t.inss.length cI) t.inss
  R : Own encR 4 39 base w (.slice aR t.rows.length cR) t.rows
  O : Own encO 6 41 base w (.slice aO t.ords.length cO) t.ords
  X : Own encC 9 44 base w (.slice aX t.aucs.length cX) xs
  L : xs.length = t.aucs.length
  B : ∀ (j : Nat) x a, xs[j]? = some x → t.aucs[j]? = some a → x.h = a.h ∧ (j < k → Own encD 2 46 base w (.slice x.ba x.bm x.bc) a.bids)
set_option maxRecDepth 20000 in
set_option maxHeartbeats 8000000 in
theorem own_c {s : SttC} {t : Stt} {w : World} (hS0 : StR w s t) (hM : StSm t) : Calls Tryz.prog 18 #[(.agg (encS s).toArray)] w fun e w' => (∃ (qa : Option Addr) (da : Nat) (qi : Option Addr) (di : Nat) (qr : Option Addr) (dr : Nat) (qo : Option Addr) (d : Nat) (qx : Option Addr) (dx : Nat) (xs : List AucC), e = .returned (.agg (List.toArray [.int .i64 t.clock, .int .i64 t.fee, .int .i64 t.nord, .int .i64 t.nauc, .slice qa t.accs.length da, .slice qi t.inss.length di, .slice qr t.rows.length dr, .slice qo t.ords.length d, .slice qx t.aucs.length dx])) ∧ OwS w.heap.size w' ⟨t.clock, t.fee, t.nord, t.nauc, qa, t.accs.length, da, qi, t.inss.length, di, qr, t.rows.length, dr, qo, t.ords.length, d, qx, t.aucs.length, dx⟩ t xs) ∧ Below w.heap.size w w' := by
  have hE := Ext.refl w
  have hw := Below.refl w.heap.size w
  obtain ⟨c1, c2, c3, c4, pa, ma, ca, pi, mi, ci, pr, mr, cr, po, mo, co, px, mx, cx⟩ := s; obtain ⟨⟨e1, e2, e3, e4⟩, hma, hmi, hmr, hmo, hmx, HA, HI, HR, HO, HXs⟩ := hS0; simp only at e1 e2 e3 e4 hma hmi hmr hmo hmx HA HI HR HO HXs; subst e1 e2 e3 e4 hma hmi hmr hmo hmx
  obtain ⟨xs, HX9, HAs⟩ := HXs
  have hxn := HAs.1
  have hsx := hM.xs
  have hsl := sumX_len t.aucs
  have hro := hM.ro
  have hal := hM.al
  have hil := hM.il
  refine fn_enter 52 Tryz.func18 rfl rfl rfl ?_
  repeat' (first | (refine is_cw ?_; first | (refine cw_seq ?_) | (refine cw_region ?_)))
  refine lw_boxN rfl rfl (cs := [.int .i64 t.clock, .int .i64 t.fee, .int .i64 t.nord, .int .i64 t.nauc, .slice pa t.accs.length ca, .slice pi t.inss.length ci, .slice pr t.rows.length cr, .slice po t.ords.length co, .slice px t.aucs.length cx]) rfl ?_; intro N1 wn hN1 HX hb; replace hN1 := Nat.le_trans hw.size hN1; replace hw := grow_trans hw hb; clear hb
  replace hE := hE.mono hw; replace HA := HA.mono hw; replace HI := HI.mono hw; replace HR := HR.mono hw; replace HO := HO.mono hw; replace HX9 := HX9.mono hw; replace HAs := HAs.mono hw; clear hw; have hw := Below.refl wn.heap.size wn
  skip
  refine lw_allocN rfl (by first | exact tyv_29 | exact tyv_30 | exact tyv_33 | exact tyv_34 | exact tyv_36 | exact tyv_37 | exact tyv_38 | exact tyv_39 | exact tyv_40 | exact tyv_41 | exact tyv_43 | exact tyv_44 | exact tyv_45 | exact tyv_46 | exact tyv_73 | exact tyv_74 | exact tyv_80 | exact tyv_81 | exact tyv_107 | exact tyv_108 | exact tyv_123 | exact tyv_146 | exact tyv_147 | exact tyv_148 | exact tyv_149) rfl ?_; intro N2 w2 hN2 H2 hb
  replace hw := grow_trans hw hb
  clear hb
  repeat' (first | (refine is_cw ?_; first | (refine cw_seq ?_) | (refine cw_region ?_)) | (refine is_qw ?_; first | (with_reducible refine qw_then ?_)) | (refine lw_nil ?_) | ((refine is_load ?_; first | (refine lw_pure rfl (pv_loada (tA rfl) rfl (by first | exact PT.lda (HX.mono hw)) (by rfl)) ?_))))
  refine lw_varN rfl (by first | exact tyv_29 | exact tyv_30 | exact tyv_33 | exact tyv_34 | exact tyv_36 | exact tyv_37 | exact tyv_38 | exact tyv_39 | exact tyv_40 | exact tyv_41 | exact tyv_43 | exact tyv_44 | exact tyv_45 | exact tyv_46 | exact tyv_73 | exact tyv_74 | exact tyv_80 | exact tyv_81 | exact tyv_107 | exact tyv_108 | exact tyv_123 | exact tyv_146 | exact tyv_147 | exact tyv_148 | exact tyv_149) rfl (tZ rfl) (fun _ => rfl) rfl rfl ?_; intro N3 w3 hN3 H3 hb
  replace H3 : PT w3 N3 30 [.int .i64 t.clock, .int .i64 t.fee, .int .i64 t.nord, .int .i64 t.nauc, .slice pa t.accs.length ca, .slice pi t.inss.length ci, .slice pr t.rows.length cr, .slice po t.ords.length co, .slice px t.aucs.length cx] := H3
  have hl2 := H2.lt
  have hn23 : N2 ≠ N3 := by omega
  replace hN3 := Nat.le_trans hw.size hN3
  replace H2 := H2.mono hb
  replace hw := grow_trans hw hb
  clear hb hl2
  repeat' (first | (refine is_cw ?_; first | (refine cw_seq ?_) | (refine cw_region ?_)) | (refine is_qw ?_; first | (with_reducible refine qw_then ?_)) | (refine lw_nil ?_))
  refine lw_of_act rfl (act_bs0 elemA hw.size ?_); intro vE wE hvE hb
  replace H2 := H2.mono hb
  replace H3 := H3.mono hb
  replace hw := grow_trans hw hb
  clear hb
  repeat' (first | ((refine is_load ?_; first | (refine lw_pure rfl (pv_load (t1 rfl) rfl (by first | exact PT.ld0 (HX.mono hw) rfl | exact PT.ld (HX.mono hw) rfl)) ?_))) | ((refine is_fa ?_; first | (refine lw_pure rfl (pv_fa (tF rfl) rfl) ?_))))
  refine lw_of_act rfl (act_app0 (base := wn.heap.size) elemA encA_len encA_one rfl hvE rfl (HA.mono hw) rfl hw.size (by omega) (by simp [maxLen]; omega) ?_); intro vA wA OA hb
  replace H2 := H2.mono hb
  replace H3 := H3.mono hb
  replace hw := grow_trans hw hb
  clear hb hvE
  obtain ⟨aA, cA, rfl⟩ := own_shapeM (m := t.accs.length) encA_len OA rfl
  repeat' (first | ((refine is_fa ?_; first | (refine lw_pure rfl (pv_fa (tF rfl) rfl) ?_))))
  have H3o := H3
  refine lw_store H3 (tZ rfl) rfl rfl rfl (by simp) ?_; intro wB H3 hg hz
  replace H3 : PT wB N3 30 [.int .i64 t.clock, .int .i64 t.fee, .int .i64 t.nord, .int .i64 t.nauc, .slice aA t.accs.length cA, .slice pi t.inss.length ci, .slice pr t.rows.length cr, .slice po t.ords.length co, .slice px t.aucs.length cx] := H3
  replace H2 := pt_keptN H2 hg hn23
  replace OA := OA.kept hg (Or.inr (own_ne_ptN OA H3o (by decide)))
  replace hw := st_hw hw hg hN3
  clear hg hz H3o
  repeat' (first | (refine is_cw ?_; first | (refine cw_seq ?_) | (refine cw_region ?_)) | (refine is_qw ?_; first | (with_reducible refine qw_then ?_)) | (refine lw_nil ?_))
  refine lw_of_act rfl (act_bs0 elemIn hw.size ?_); intro vE wE hvE hb
  replace H2 := H2.mono hb
  replace H3 := H3.mono hb
  replace OA := OA.mono hb
  replace hw := grow_trans hw hb
  clear hb
  repeat' (first | ((refine is_load ?_; first | (refine lw_pure rfl (pv_load (t1 rfl) rfl (by first | exact PT.ld0 (HX.mono hw) rfl | exact PT.ld (HX.mono hw) rfl)) ?_))) | ((refine is_fa ?_; first | (refine lw_pure rfl (pv_fa (tF rfl) rfl) ?_))))
  refine lw_of_act rfl (act_app0 (base := wn.heap.size) elemIn encN_len encN_one rfl hvE rfl (HI.mono hw) rfl hw.size (by omega) (by simp [maxLen]; omega) ?_); intro vI wA OI hb
  replace H2 := H2.mono hb
  replace H3 := H3.mono hb
  replace OA := OA.mono hb
  replace hw := grow_trans hw hb
  clear hb hvE
  obtain ⟨aI, cI, rfl⟩ := own_shapeM (m := t.inss.length) encN_len OI rfl
  repeat' (first | ((refine is_fa ?_; first | (refine lw_pure rfl (pv_fa (tF rfl) rfl) ?_))))
  have H3o := H3
  refine lw_store H3 (tZ rfl) rfl rfl rfl (by simp) ?_; intro wB H3 hg hz
  replace H3 : PT wB N3 30 [.int .i64 t.clock, .int .i64 t.fee, .int .i64 t.nord, .int .i64 t.nauc, .slice aA t.accs.length cA, .slice aI t.inss.length cI, .slice pr t.rows.length cr, .slice po t.ords.length co, .slice px t.aucs.length cx] := H3
  replace H2 := pt_keptN H2 hg hn23
  replace OA := OA.kept hg (Or.inr (own_ne_ptN OA H3o (by decide)))
  replace OI := OI.kept hg (Or.inr (own_ne_ptN OI H3o (by decide)))
  replace hw := st_hw hw hg hN3
  clear hg hz H3o
  repeat' (first | (refine is_cw ?_; first | (refine cw_seq ?_) | (refine cw_region ?_)) | (refine is_qw ?_; first | (with_reducible refine qw_then ?_)) | (refine lw_nil ?_))
  refine lw_of_act rfl (act_bs0 elemR hw.size ?_); intro vE wE hvE hb
  replace H2 := H2.mono hb
  replace H3 := H3.mono hb
  replace OA := OA.mono hb
  replace OI := OI.mono hb
  replace hw := grow_trans hw hb
  clear hb
  repeat' (first | ((refine is_load ?_; first | (refine lw_pure rfl (pv_load (t1 rfl) rfl (by first | exact PT.ld0 (HX.mono hw) rfl | exact PT.ld (HX.mono hw) rfl)) ?_))) | ((refine is_fa ?_; first | (refine lw_pure rfl (pv_fa (tF rfl) rfl) ?_))))
  refine lw_of_act rfl (act_app0 (base := wn.heap.size) elemR encR_len encR_one rfl hvE rfl (HR.mono hw) rfl hw.size (by omega) (by simp [maxLen]; omega) ?_); intro vR wA OR hb
  replace H2 := H2.mono hb
  replace H3 := H3.mono hb
  replace OA := OA.mono hb
  replace OI := OI.mono hb
  replace hw := grow_trans hw hb
  clear hb hvE
  obtain ⟨aR, cR, rfl⟩ := own_shapeM (m := t.rows.length) encR_len OR rfl
  repeat' (first | ((refine is_fa ?_; first | (refine lw_pure rfl (pv_fa (tF rfl) rfl) ?_))))
  have H3o := H3
  refine lw_store H3 (tZ rfl) rfl rfl rfl (by simp) ?_; intro wB H3 hg hz
  replace H3 : PT wB N3 30 [.int .i64 t.clock, .int .i64 t.fee, .int .i64 t.nord, .int .i64 t.nauc, .slice aA t.accs.length cA, .slice aI t.inss.length cI, .slice aR t.rows.length cR, .slice po t.ords.length co, .slice px t.aucs.length cx] := H3
  replace H2 := pt_keptN H2 hg hn23
  replace OA := OA.kept hg (Or.inr (own_ne_ptN OA H3o (by decide)))
  replace OI := OI.kept hg (Or.inr (own_ne_ptN OI H3o (by decide)))
  replace OR := OR.kept hg (Or.inr (own_ne_ptN OR H3o (by decide)))
  replace hw := st_hw hw hg hN3
  clear hg hz H3o
  repeat' (first | (refine is_cw ?_; first | (refine cw_seq ?_) | (refine cw_region ?_)) | (refine is_qw ?_; first | (with_reducible refine qw_then ?_)) | (refine lw_nil ?_))
  refine lw_of_act rfl (act_bs0 elemO hw.size ?_); intro vE wE hvE hb
  replace H2 := H2.mono hb
  replace H3 := H3.mono hb
  replace OA := OA.mono hb
  replace OI := OI.mono hb
  replace OR := OR.mono hb
  replace hw := grow_trans hw hb
  clear hb
  repeat' (first | ((refine is_load ?_; first | (refine lw_pure rfl (pv_load (t1 rfl) rfl (by first | exact PT.ld0 (HX.mono hw) rfl | exact PT.ld (HX.mono hw) rfl)) ?_))) | ((refine is_fa ?_; first | (refine lw_pure rfl (pv_fa (tF rfl) rfl) ?_))))
  refine lw_of_act rfl (act_app0 (base := wn.heap.size) elemO encO_len encO_one rfl hvE rfl (HO.mono hw) rfl hw.size (by omega) (by simp [maxLen]; omega) ?_); intro vO wA OO hb
  replace H2 := H2.mono hb
  replace H3 := H3.mono hb
  replace OA := OA.mono hb
  replace OI := OI.mono hb
  replace OR := OR.mono hb
  replace hw := grow_trans hw hb
  clear hb hvE
  obtain ⟨aO, cO, rfl⟩ := own_shapeM (m := t.ords.length) encO_len OO rfl
  repeat' (first | ((refine is_fa ?_; first | (refine lw_pure rfl (pv_fa (tF rfl) rfl) ?_))))
  have H3o := H3
  refine lw_store H3 (tZ rfl) rfl rfl rfl (by simp) ?_; intro wB H3 hg hz
  replace H3 : PT wB N3 30 [.int .i64 t.clock, .int .i64 t.fee, .int .i64 t.nord, .int .i64 t.nauc, .slice aA t.accs.length cA, .slice aI t.inss.length cI, .slice aR t.rows.length cR, .slice aO t.ords.length cO, .slice px t.aucs.length cx] := H3
  replace H2 := pt_keptN H2 hg hn23
  replace OA := OA.kept hg (Or.inr (own_ne_ptN OA H3o (by decide)))
  replace OI := OI.kept hg (Or.inr (own_ne_ptN OI H3o (by decide)))
  replace OR := OR.kept hg (Or.inr (own_ne_ptN OR H3o (by decide)))
  replace OO := OO.kept hg (Or.inr (own_ne_ptN OO H3o (by decide)))
  replace hw := st_hw hw hg hN3
  clear hg hz H3o
  repeat' (first | (refine is_cw ?_; first | (refine cw_seq ?_) | (refine cw_region ?_)) | (refine is_qw ?_; first | (with_reducible refine qw_then ?_)) | (refine lw_nil ?_))
  refine lw_of_act rfl (act_bs0 elemC hw.size ?_); intro vE wE hvE hb
  replace H2 := H2.mono hb
  replace H3 := H3.mono hb
  replace OA := OA.mono hb
  replace OI := OI.mono hb
  replace OR := OR.mono hb
  replace OO := OO.mono hb
  replace hw := grow_trans hw hb
  clear hb
  repeat' (first | ((refine is_load ?_; first | (refine lw_pure rfl (pv_load (t1 rfl) rfl (by first | exact PT.ld0 (HX.mono hw) rfl | exact PT.ld (HX.mono hw) rfl)) ?_))) | ((refine is_fa ?_; first | (refine lw_pure rfl (pv_fa (tF rfl) rfl) ?_))))
  refine lw_of_act rfl (act_app0 (base := wn.heap.size) elemC encC_len encC_one rfl hvE rfl (HX9.mono hw) hxn.symm hw.size (by omega) (by simp [maxLen]; omega) ?_); intro vX wA OX hb
  replace H2 := H2.mono hb
  replace H3 := H3.mono hb
  replace OA := OA.mono hb
  replace OI := OI.mono hb
  replace OR := OR.mono hb
  replace OO := OO.mono hb
  replace hw := grow_trans hw hb
  clear hb hvE
  obtain ⟨aX, cX, rfl⟩ := own_shapeM (m := t.aucs.length) encC_len OX hxn
  repeat' (first | ((refine is_fa ?_; first | (refine lw_pure rfl (pv_fa (tF rfl) rfl) ?_))))
  have H3o := H3
  refine lw_store H3 (tZ rfl) rfl rfl rfl (by simp) ?_; intro wB H3 hg hz
  replace H3 : PT wB N3 30 [.int .i64 t.clock, .int .i64 t.fee, .int .i64 t.nord, .int .i64 t.nauc, .slice aA t.accs.length cA, .slice aI t.inss.length cI, .slice aR t.rows.length cR, .slice aO t.ords.length cO, .slice aX t.aucs.length cX] := H3
  replace H2 := pt_keptN H2 hg hn23
  replace OA := OA.kept hg (Or.inr (own_ne_ptN OA H3o (by decide)))
  replace OI := OI.kept hg (Or.inr (own_ne_ptN OI H3o (by decide)))
  replace OR := OR.kept hg (Or.inr (own_ne_ptN OR H3o (by decide)))
  replace OO := OO.kept hg (Or.inr (own_ne_ptN OO H3o (by decide)))
  replace OX := OX.kept hg (Or.inr (own_ne_ptN OX H3o (by decide)))
  replace hw := st_hw hw hg hN3
  clear hg hz H3o
  repeat' (first | (refine lw_pure rfl (pv_assign rfl) ?_) | (refine is_cw ?_; first | (refine cw_seq ?_) | (refine cw_region ?_) | (refine cw_block ?_)) | (refine is_qw ?_; first | (with_reducible refine qw_then ?_)) | (refine lw_nil ?_))
  refine cw_loop (σ := Nat × List AucC) (fun q => [(1, .pointer (some ⟨N1, 0, none⟩)), (2, .pointer (some ⟨N2, 0, none⟩)), (3, .pointer (some ⟨N3, 0, none⟩)), (4, .int .i64 (q.1 : Nat))]) (fun q wr => q.1 ≤ t.aucs.length ∧ OwI wn.heap.size N2 N3 wn t aA aI aR aO aX cA cI cR cO cX q.1 q.2 wr) (fun q => t.aucs.length - q.1) (0, xs) (by repeat' (first | exact trivial | refine ⟨rfl, ?_⟩)) ⟨Nat.zero_le _, hw, ⟨_, H2, rfl⟩, H3, OA, OI, OR, OO, OX, hxn, fun j x a hx ha => ⟨(HAs.2 j x a hx ha).h, fun h => absurd h (Nat.not_lt_zero _)⟩⟩ ?_
  clear hw H2 H3 OA OI OR OO OX
  rintro ⟨k, ys⟩ wr ⟨hk, hI⟩
  dsimp only at hk hI
  change CW _ _ _ _ [(1, .pointer (some ⟨N1, 0, none⟩)), (2, .pointer (some ⟨N2, 0, none⟩)), (3, .pointer (some ⟨N3, 0, none⟩)), (4, .int .i64 (k : Nat))] wr
  have hzr := hI.b.size
  have hw := Below.refl wr.heap.size wr
  have H3 := hI.h3
  by_cases hlt : k < t.aucs.length
  · have hak : t.aucs[k]? = some (t.aucs[k]'(by omega)) := List.getElem?_eq_getElem _
    generalize t.aucs[k]'(by omega) = a at hak
    obtain ⟨x, hxk, hR⟩ := HAs.at hak
    have hbl := sumX_mem (List.mem_of_getElem? hak)
    have hyk : ys[k]? = some (ys[k]'(by rw [hI.L]; omega)) := List.getElem?_eq_getElem _
    generalize ys[k]'_ = y at hyk
    have hyh := (hI.B k y a hyk hak).1
    obtain ⟨ab, ao, rfl, -, -⟩ := HX9.at (by intro h; rw [h] at hxn; simp at hxn; omega)
    obtain ⟨g, rfl⟩ := own_some hI.X (by omega)
    obtain ⟨xh, ba, bm, bc⟩ := x
    obtain ⟨hh, hm, HB0⟩ := hR
    simp only at hh hm HB0
    subst hh hm
    have HXr := HX.mono hI.b
    have HX9r := HX9.mono hI.b
    have HB := HB0.mono hI.b
    have OXr := hI.X
    rw [← hI.L] at OXr
    obtain ⟨-, hgb, -⟩ := Own.heap' OXr
    repeat' (first | (refine lw_pure rfl (pv_move rfl) ?_) | (refine is_cw ?_; first | (refine cw_seq ?_) | (refine cw_region ?_) | (refine is_cd ?_; refine cw_true rfl (by first | assumption | exact decide_eq_true (by omega) | exact dec_notT (by omega)) ?_) | (refine cw_skip ?_) | (refine cw_block ?_)) | (refine is_qw ?_; first | (with_reducible refine qw_then ?_)) | (refine lw_nil ?_) | ((refine is_bin ?_; first | (refine lw_pure rfl (pv_lss rfl rfl) ?_))) | ((refine is_load ?_; first | (refine lw_pure rfl (pv_load (t1 rfl) rfl (by first | exact PT.ld0 (H3.mono hw) rfl | exact PT.ld (H3.mono hw) rfl)) ?_))) | ((refine is_fa ?_; first | (refine lw_pure rfl (pv_fa (tF rfl) rfl) ?_))) | ((refine is_bi ?_; first | (refine lw_pure rfl (pv_lenl (tS rfl) rfl) ?_))))
    refine cw_drawnF 13 (fun w' => Below wr.heap.size wr w' ∧ True) (by kernel_rfl) (by repeat (first | exact NoPanic.body | with_reducible refine NoPanic.then ?_ | with_reducible refine NoPanic.inBlock ?_)) (fun hNP => ?_)
    have hU := And.intro hw.drew trivial
    first | (refine fw_take 0 rfl (by kernel_rfl) rfl rfl (by kernel_rfl) (by kernel_rfl) (by kernel_rfl) hNP hU rfl (fun w' hq => pv_fa (tF rfl) rfl) ?_)
    first | (refine fw_take 1 rfl (by kernel_rfl) rfl rfl (by kernel_rfl) (by kernel_rfl) (by kernel_rfl) hNP hU rfl (fun w' hq => pv_load (t1 rfl) rfl (by first | exact PT.ld0 hq.2 rfl | exact PT.ld hq.2 rfl)) ?_) | (refine fw_take 1 rfl (by kernel_rfl) rfl rfl (by kernel_rfl) (by kernel_rfl) (by kernel_rfl) hNP hU rfl (fun w' hq => pv_loada (tA rfl) rfl (by first | exact PT.lda hq.2) (by rfl)) ?_) | (refine fw_take 1 rfl (by kernel_rfl) rfl rfl (by kernel_rfl) (by kernel_rfl) (by kernel_rfl) hNP hU rfl (fun w' hq => pv_load (t1 rfl) rfl (by first | exact PT.ld0 (H3.mono hq.1) rfl | exact PT.ld (H3.mono hq.1) rfl | exact PT.ld0 (HXr.mono hq.1) rfl | exact PT.ld (HXr.mono hq.1) rfl | exact SlR.ld (HX9r.mono hq.1) hxk rfl | exact SlR.ld1 (HX9r.mono hq.1) hxk rfl)) ?_) | (refine fw_take 1 rfl (by kernel_rfl) rfl rfl (by kernel_rfl) (by kernel_rfl) (by kernel_rfl) hNP hU rfl (fun w' hq => pv_loada (tA rfl) rfl (by first | exact PT.lda (H3.mono hq.1) | exact PT.lda (HXr.mono hq.1) | exact SlR.lda (HX9r.mono hq.1) hxk) (by rfl)) ?_)
    first | (refine fw_take 2 rfl (by kernel_rfl) rfl rfl (by kernel_rfl) (by kernel_rfl) (by kernel_rfl) hNP hU rfl (fun w' hq => pv_move rfl) ?_)
    first | (refine fw_take 4 rfl (by kernel_rfl) rfl rfl (by kernel_rfl) (by kernel_rfl) (by kernel_rfl) hNP hU rfl (fun w' hq => pv_fa (tF rfl) rfl) ?_)
    first | (refine fw_take 5 rfl (by kernel_rfl) rfl rfl (by kernel_rfl) (by kernel_rfl) (by kernel_rfl) hNP hU rfl (fun w' hq => pv_load (t1 rfl) rfl (by first | exact PT.ld0 hq.2 rfl | exact PT.ld hq.2 rfl)) ?_) | (refine fw_take 5 rfl (by kernel_rfl) rfl rfl (by kernel_rfl) (by kernel_rfl) (by kernel_rfl) hNP hU rfl (fun w' hq => pv_loada (tA rfl) rfl (by first | exact PT.lda hq.2) (by rfl)) ?_) | (refine fw_take 5 rfl (by kernel_rfl) rfl rfl (by kernel_rfl) (by kernel_rfl) (by kernel_rfl) hNP hU rfl (fun w' hq => pv_load (t1 rfl) rfl (by first | exact PT.ld0 (H3.mono hq.1) rfl | exact PT.ld (H3.mono hq.1) rfl | exact PT.ld0 (HXr.mono hq.1) rfl | exact PT.ld (HXr.mono hq.1) rfl | exact SlR.ld (HX9r.mono hq.1) hxk rfl | exact SlR.ld1 (HX9r.mono hq.1) hxk rfl)) ?_) | (refine fw_take 5 rfl (by kernel_rfl) rfl rfl (by kernel_rfl) (by kernel_rfl) (by kernel_rfl) hNP hU rfl (fun w' hq => pv_loada (tA rfl) rfl (by first | exact PT.lda (H3.mono hq.1) | exact PT.lda (HXr.mono hq.1) | exact SlR.lda (HX9r.mono hq.1) hxk) (by rfl)) ?_)
    first | (refine fw_take 6 rfl (by kernel_rfl) rfl rfl (by kernel_rfl) (by kernel_rfl) (by kernel_rfl) hNP hU rfl (fun w' hq => pv_move rfl) ?_)
    first | (refine fw_take 7 rfl (by kernel_rfl) rfl rfl (by kernel_rfl) (by kernel_rfl) (by kernel_rfl) hNP hU rfl (fun w' hq => pv_ian (tS rfl) rfl rfl (by omega)) ?_) | (refine fw_take 7 rfl (by kernel_rfl) rfl rfl (by kernel_rfl) (by kernel_rfl) (by kernel_rfl) hNP hU rfl (fun w' hq => pv_ia (tS rfl) rfl rfl (by omega)) ?_)
    first | (refine fw_take 8 rfl (by kernel_rfl) rfl rfl (by kernel_rfl) (by kernel_rfl) (by kernel_rfl) hNP hU rfl (fun w' hq => pv_fa (tF rfl) rfl) ?_)
    first | (refine fw_take 9 rfl (by kernel_rfl) rfl rfl (by kernel_rfl) (by kernel_rfl) (by kernel_rfl) hNP hU rfl (fun w' hq => pv_load (t1 rfl) rfl (by first | exact PT.ld0 hq.2 rfl | exact PT.ld hq.2 rfl)) ?_) | (refine fw_take 9 rfl (by kernel_rfl) rfl rfl (by kernel_rfl) (by kernel_rfl) (by kernel_rfl) hNP hU rfl (fun w' hq => pv_loada (tA rfl) rfl (by first | exact PT.lda hq.2) (by rfl)) ?_) | (refine fw_take 9 rfl (by kernel_rfl) rfl rfl (by kernel_rfl) (by kernel_rfl) (by kernel_rfl) hNP hU rfl (fun w' hq => pv_load (t1 rfl) rfl (by first | exact PT.ld0 (H3.mono hq.1) rfl | exact PT.ld (H3.mono hq.1) rfl | exact PT.ld0 (HXr.mono hq.1) rfl | exact PT.ld (HXr.mono hq.1) rfl | exact SlR.ld (HX9r.mono hq.1) hxk rfl | exact SlR.ld1 (HX9r.mono hq.1) hxk rfl)) ?_) | (refine fw_take 9 rfl (by kernel_rfl) rfl rfl (by kernel_rfl) (by kernel_rfl) (by kernel_rfl) hNP hU rfl (fun w' hq => pv_loada (tA rfl) rfl (by first | exact PT.lda (H3.mono hq.1) | exact PT.lda (HXr.mono hq.1) | exact SlR.lda (HX9r.mono hq.1) hxk) (by rfl)) ?_)
    refine fw_act 3 (by kernel_rfl) rfl rfl rfl ?_
    refine act_bs0 (base := wn.heap.size) elemD (Nat.le_trans hzr hU.1.size) ?_; intro vE wb hvE hbb; refine ⟨⟨grow_trans hU.1 hbb, trivial⟩, fun hU => ?_⟩
    refine fw_act 10 (by kernel_rfl) rfl rfl rfl ?_
    refine act_app0 (base := wn.heap.size) elemD encD_len encD_one rfl hvE rfl (HB.mono hU.1) rfl (Nat.le_trans hzr hU.1.size) (by omega) (by simp [maxLen]; omega) ?_; intro vb wb hOb hbb; refine ⟨⟨grow_trans hU.1 hbb, trivial⟩, fun hU => ?_⟩
    first | (refine fw_act 11 (by kernel_rfl) rfl rfl rfl ?_; refine act_pv (pv_ian (tS rfl) rfl rfl (by omega)) ?_; refine ⟨hU, fun hU => ?_⟩) | (refine fw_act 11 (by kernel_rfl) rfl rfl rfl ?_; refine act_pv (pv_ia (tS rfl) rfl rfl (by omega)) ?_; refine ⟨hU, fun hU => ?_⟩)
    first | (refine fw_take 12 rfl (by kernel_rfl) rfl rfl (by kernel_rfl) (by kernel_rfl) (by kernel_rfl) hNP hU rfl (fun w' hq => pv_fa (tF rfl) rfl) ?_)
    refine fw_last (by kernel_rfl) rfl rfl rfl rfl (by kernel_rfl) ?_
    obtain ⟨hw, -⟩ := hU; clear hNP
    obtain ⟨bA, bC, rfl⟩ := own_shape encD_len hOb; refine act_storeF (i := k) (f := 8) (a := y) (u := ⟨y.h, bA, a.bids.length, bC⟩) encC_len (tZ rfl) rfl (by omega) rfl rfl (OXr.mono hw) hyk rfl (by omega) ?_; intro wz OX2 hg hz
    repeat' (first | (refine lw_pure rfl (pv_move rfl) ?_) | (refine lw_pure rfl (pv_assign rfl) ?_) | (refine is_cw ?_; first | (refine cw_region ?_)) | (refine is_qw ?_; first | (with_reducible refine qw_then ?_) | (with_reducible refine qw_in ?_)) | (refine lw_nil ?_) | ((refine is_bin ?_; first | (refine lw_pure rfl (pv_inc rfl rfl (by omega)) ?_))))
    have hbz : Below wn.heap.size wn wz := st_hw (grow_trans hI.b hw) hg hgb
    obtain ⟨c2, h2r, h2l⟩ := hI.h2
    have n3 : N3 ≠ g := fun e => own_ne_ptN OXr hI.h3 (by decide) (by rw [e]; rfl)
    have n2 : N2 ≠ g := fun e => own_ne_ptN OXr h2r (by decide) (by rw [e]; rfl)
    have hx : ∀ {α : Type} {enc : α → List Value} {kk : Nat} {T : TypeId} {v : Value} {l : List α}, Own enc kk T wn.heap.size wr v l → T ≠ 44 → Own enc kk T wn.heap.size wz v l := fun h hT => (h.mono hw).kept hg (own_own_ne h OXr hT)
    refine qw_round (k + 1, ys.set k ⟨y.h, bA, a.bids.length, bC⟩) (by repeat' (first | exact trivial | refine ⟨rfl, ?_⟩)) ⟨by show k + 1 ≤ _; omega, hbz, ⟨c2, pt_keptN (h2r.mono hw) hg n2, h2l⟩, pt_keptN (hI.h3.mono hw) hg n3, hx hI.A (by decide), hx hI.I (by decide), hx hI.R (by decide), hx hI.O (by decide), ?_, ?_, ?_⟩ (by show _ - (k + 1) < _ - k; omega)
    · dsimp only; rw [← hI.L]; exact OX2
    · simp [hI.L]
    · intro j x b hx1 hb1
      dsimp only at hx1 ⊢
      rcases Nat.decEq j k with hjk | hjk
      · rw [List.getElem?_set_ne (Ne.symm hjk)] at hx1
        obtain ⟨q1, q2⟩ := hI.B j x b hx1 hb1
        exact ⟨q1, fun hj => hx (q2 (by omega)) (by decide)⟩
      · subst hjk
        rw [hak] at hb1; injection hb1 with hb1; subst hb1
        rw [List.getElem?_set_self (List.getElem?_eq_some_iff.1 hyk).1] at hx1; injection hx1 with hx1; subst hx1
        exact ⟨hyh, fun _ => hOb.kept hg (own_own_ne hOb (OXr.mono hw) (by decide))⟩
  · have hke : k = t.aucs.length := by omega
    subst hke
    repeat' (first | (refine lw_pure rfl (pv_move rfl) ?_) | (refine is_cw ?_; first | (refine cw_seq ?_) | (refine cw_region ?_) | (refine is_cd ?_; refine cw_false rfl (by first | assumption | exact decide_eq_false (by omega) | exact dec_notF (by omega)) ?_) | (refine cw_exit ?_)) | (refine is_qw ?_; first | (with_reducible refine qw_then ?_) | (with_reducible refine qw_in_hit ?_) | (with_reducible refine qw_then_exit ?_)) | (refine lw_nil ?_) | ((refine is_bin ?_; first | (refine lw_pure rfl (pv_lss rfl rfl) ?_))) | ((refine is_load ?_; first | (refine lw_pure rfl (pv_load (t1 rfl) rfl (by first | exact PT.ld0 (H3.mono hw) rfl | exact PT.ld (H3.mono hw) rfl)) ?_) | (refine lw_pure rfl (pv_loada (tA rfl) rfl (by first | exact PT.lda (H3.mono hw)) (by rfl)) ?_))) | ((refine is_fa ?_; first | (refine lw_pure rfl (pv_fa (tF rfl) rfl) ?_))) | ((refine is_bi ?_; first | (refine lw_pure rfl (pv_lenl (tS rfl) rfl) ?_))))
    obtain ⟨c2, h2r, h2l⟩ := hI.h2
    refine lw_storea (vs := [.int .i64 t.clock, .int .i64 t.fee, .int .i64 t.nord, .int .i64 t.nauc, .slice aA t.accs.length cA, .slice aI t.inss.length cI, .slice aR t.rows.length cR, .slice aO t.ords.length cO, .slice aX t.aucs.length cX]) (h2r.mono hw) (tZ rfl) rfl rfl rfl h2l (by simp [Value.oneCell']) ?_; intro wz HZ hg hz
    repeat' (first | (refine is_cw ?_; first | (refine cw_ret ?_)) | (refine is_qw ?_; first | (with_reducible refine qw_then ?_)) | (refine lw_nil ?_))
    have hq : ∀ {α : Type} {enc : α → List Value} {kk : Nat} {T : TypeId} {v : Value} {l : List α}, Own enc kk T wn.heap.size wr v l → T ≠ 30 → Own enc kk T w.heap.size wz v l := fun h hT => ((h.mono hw).kept hg (Or.inr (own_ne_ptN (h.mono hw) (h2r.mono hw) hT))).weaken hE.le
    refine qw_retc rfl rfl (agg_ld (tA rfl) rfl HZ.lda) ⟨⟨aA, cA, aI, cI, aR, cR, aO, cO, aX, cX, ys, rfl, ⟨⟨rfl, rfl, rfl, rfl⟩, hq hI.A (by decide), hq hI.I (by decide), hq hI.R (by decide), hq hI.O (by decide), hq hI.X (by decide), hI.L, fun j x a hx ha => ?_⟩⟩, grow_trans hE.b (st_hw (grow_trans hI.b hw) hg hN2)⟩
    have hj : j < t.aucs.length := (List.getElem?_eq_some_iff.1 ha).1
    obtain ⟨q1, q2⟩ := hI.B j x a hx ha
    exact ⟨q1, hq (q2 hj) (by decide)⟩
end Go.Proofs.YtekomjnjddhfmaaGreat
namespace Go.Proofs.YtekomjnjddhfmaaGreat
open Go.RowKit

theorem gb_trans {w w1 w2 : World} {row : Option Nat} (h : w.grownBy w1 row) (k : w1.grownBy w2 row) : w.grownBy w2 row :=
  ⟨k.os.trans h.os, k.tape.trans h.tape, k.output.trans h.output, Nat.le_trans h.size k.size, fun i hi hn => (k.block i (Nat.lt_of_lt_of_le hi h.size) hn).trans (h.block i hi hn)⟩
theorem gb_of {w w1 : World} (h : Below w.heap.size w w1) (row : Option Nat) : w.grownBy w1 row := ⟨h.os, h.tape, h.output, h.size, fun i hi _ => h.block i hi⟩
section
variable {α : Type} {enc : α → List Value} {k nb : Nat} {T S : TypeId} {base : Nat} {w : World} {g cap : Nat} {xs : List α}
theorem Own.shiftK (hk : ∀ x, (enc x).length = k) (h : Own enc k T base w (.slice (some ⟨g, 0, none⟩) xs.length cap) xs) {cur : Array Value} (hg : w.heap[g]? = some (.cells cur T (0, 0))) {i : Nat} (hi : i < xs.length) {last : α} (hl : xs[xs.length - 1]? = some last) {w' : World}
    (hw : w' = w.setRow g (cur.toList.take (i * k) ++ ((xs.drop (i + 1)).flatMap enc ++ cur.toList.drop (i * k + ((xs.drop (i + 1)).flatMap enc).length))).toArray) :
    Own enc k T base w' (.slice (some ⟨g, 0, none⟩) (xs.eraseIdx i ++ [last]).length cap) (xs.eraseIdx i ++ [last]) ∧ w.grownBy w' (some g) := by
  obtain ⟨cur', hb, hg', hle, hmax, hsz, htk⟩ := Own.heap' h
  rw [hg] at hg'
  injection hg' with hg'; injection hg' with hg' _ _
  subst hg'
  obtain ⟨m, hm⟩ : ∃ m, xs.length = i + 1 + m := ⟨xs.length - (i + 1), by omega⟩
  have hln : ((xs.drop (i + 1)).flatMap enc).length = m * k := by rw [flat_len enc k hk, List.length_drop]; congr 1; omega
  have hel : (xs.eraseIdx i ++ [last]).length = xs.length := by rw [List.length_append, List.length_eraseIdx_of_lt hi]; simp; omega
  have hxk : xs.length * k = i * k + k + m * k := by rw [hm, Nat.add_mul, Nat.add_mul, Nat.one_mul]
  have hck : xs.length * k ≤ cap * k := Nat.mul_le_mul_right k hle
  rw [← List.append_assoc] at hw
  subst hw
  refine ⟨⟨by rw [flat_len enc k hk], Or.inr ⟨g, cap, _, rfl, hb, setRow_heap w g cur _ T _ hg, by rw [hel]; exact hle, hmax, ?_, ?_⟩⟩, ⟨rfl, rfl, rfl, by simp, fun q hq hne => setRow_other w g q _ (fun e => hne (by rw [e]))⟩⟩
  · simp only [List.size_toArray, List.length_append, List.length_take, List.length_drop, Array.length_toList, hln, hsz]
    omega
  · rw [hel, hln]
    have l1 : (cur.toList.take (i * k)).length = i * k := by rw [List.length_take, Array.length_toList, hsz]; omega
    have e1 : cur.toList.take (i * k) = (xs.take i).flatMap enc := by rw [← flat_take enc k hk, ← htk, List.take_take, Nat.min_eq_left (by omega)]
    have hlk : (xs.length - 1) * k = i * k + m * k := by rw [show xs.length - 1 = i + m by omega, Nat.add_mul]
    have e2 : (cur.toList.drop (i * k + m * k)).take k = enc last := by
      have h3 := flat_drop enc k hk xs (xs.length - 1)
      rw [← htk, List.drop_take, hlk, hxk] at h3
      have h4 : xs.drop (xs.length - 1) = [last] := by
        obtain ⟨h5, h6⟩ := List.getElem?_eq_some_iff.1 hl
        rw [List.drop_eq_getElem_cons h5, h6, List.drop_of_length_le (by omega)]
      rw [h4, show i * k + k + m * k - (i * k + m * k) = k by omega] at h3
      rw [h3]; simp
    rw [List.take_append, List.take_of_length_le (by rw [List.length_append, l1, hln]; omega), List.length_append, l1, hln, hxk, show i * k + k + m * k - (i * k + m * k) = k by omega, e2, e1]
    rw [List.flatMap_append, List.eraseIdx_eq_take_drop_succ, List.flatMap_append]
    simp
end
section
variable {α : Type} {enc : α → List Value} {k nb : Nat} {P : Program} {n : Nat} {l : Fr} {w : World} {d : Option Nat} {ty : TypeId} {pos : String} {af : Array Edge} {gd : Option (Nat × Bool)} {S T t : TypeId} {x y z z2 : Operand} {base g cap : Nat} {xs : List α} {Z : Value → World → Prop}
theorem act_appD (E : ElemT P S T k nb) (hk : ∀ x, (enc x).length = k) (h1c : ∀ x, ∀ v ∈ enc x, v.oneCell' = true) {i : Nat} {a : Option Addr} {m c : Nat} (hx : ev l x = some (.slice (some ⟨g, 0, none⟩) i cap)) (hy : ev l y = some (.slice a m c)) (ha : a = some ⟨g, 0 + (i + 1) * k, none⟩ ∨ (cap = i + 1 ∧ a = some ⟨g, 0, none⟩)) (hm : m = xs.length - (i + 1)) (ho : Own enc k T base w (.slice (some ⟨g, 0, none⟩) xs.length cap) xs) (hi : i < xs.length) {last : α} (hl : xs[xs.length - 1]? = some last)
    (h : ∀ w', Own enc k T base w' (.slice (some ⟨g, 0, none⟩) (xs.eraseIdx i ++ [last]).length cap) (xs.eraseIdx i ++ [last]) → w.grownBy w' (some g) → Z (.slice (some ⟨g, 0, none⟩) (i + m) cap) w') :
    Act1 P n l ⟨d, .call ⟨.builtin .append, #[x, y], #[S, S]⟩, ty, pos, af, gd⟩ w Z := by
  obtain ⟨cur, hb, hg, hle, hmax, hsz, htk⟩ := Own.heap' ho
  obtain ⟨inf, z, hif, hz, hisz, _, _⟩ := E.info
  have hln : ((xs.drop (i + 1)).flatMap enc).length = m * k := by rw [flat_len enc k hk, List.length_drop, hm]
  have hcells : ∀ ad, a = some ad → ∀ j u, ((xs.drop (i + 1)).flatMap enc)[j]? = some u → w.cell? (ad.add j) = some u := fun ad had j u hj => by
    have hlt : j < m * k := by rw [← hln]; exact (List.getElem?_eq_some_iff.1 hj).1
    rcases ha with ha | ⟨hc, _⟩
    · rw [had] at ha; injection ha with ha; subst ha
      rw [← flat_drop enc k hk, List.getElem?_drop, ← htk, List.getElem?_take] at hj
      split at hj
      · rw [Addr.add_lit, cell_of_row w g _ cur T (0, 0) hg]; simpa using hj
      · cases hj
    · have : m = 0 := by omega
      rw [this] at hlt; simp at hlt
  obtain ⟨ad, had⟩ : ∃ ad, a = some ad := by rcases ha with ha | ⟨_, ha⟩ <;> exact ⟨_, ha⟩
  have hone : ∀ u ∈ (xs.drop (i + 1)).flatMap enc, u.oneCell' = true := flat_one h1c _
  have hmk : i * k + m * k ≤ cur.size := by
    have h1 : (i + m) * k ≤ cap * k := Nat.mul_le_mul_right k (by omega)
    rw [Nat.add_mul] at h1; omega
  have hrun := run_append_room (P := P) w S ty T inf E.sl hif g i cap cur hg ad m c ((xs.drop (i + 1)).flatMap enc) (by rw [hisz]; exact hln) (hcells ad had) hone (by omega) (by rw [hisz, hln]; exact hmk)
  rw [hisz] at hrun
  obtain ⟨h1, h2⟩ := Own.shiftK hk ho hg hi hl (w' := _) rfl
  subst had
  exact act_ev ⟨fun A hA => by simp [execOp, resolve, hA.ev hx, hA.ev hy, invoke, builtin, hrun]⟩ (h _ h1 h2)
theorem pv_slice_3 {ad : Option Addr} {m c e : Nat} {k1 k2 k3 : IntKind} {i j q : Int} (ht : slB P t e = true) (hx : ev l x = some (.slice ad m c)) (hy : ev l y = some (.int k1 i)) (hz : ev l z = some (.int k2 j)) (hz2 : ev l z2 = some (.int k3 q)) (h : 0 ≤ i ∧ i ≤ j ∧ j ≤ q ∧ q ≤ c) :
    Pv P n l ⟨d, .slice t x (some y) (some z) (some z2), ty, pos, af, gd⟩ (.slice (if q.toNat = i.toNat then ad else ad.map (·.add (i.toNat * e))) (j.toNat - i.toNat) (q.toNat - i.toNat)) w := ⟨fun A hA => by
  obtain ⟨r, h1, h2⟩ := slB_of ht
  have h3 : i ≤ max j 0 := by omega
  have h4 : j ≤ max q 0 := by omega
  have h5 : 0 ≤ j := by omega
  have h6 : 0 ≤ q := by omega
  simp [execOp, hA.ev hx, hA.ev hy, hA.ev hz, hA.ev hz2, Instr.sliceAt, Instr.slice, run_underlying h1, Instr.sliceBounds, Instr.sliceBound, asIntOf, h.1, h.2.2.2, h5, h6, sizeB_run h2]
  rw [if_pos h4, if_pos h3]⟩
end
end Go.Proofs.YtekomjnjddhfmaaGreat
namespace Go.Proofs.YtekomjnjddhfmaaGreat
open Go.RowKit Go.PlainAid

def waitsT (ops : Array Oper) : Nat → Nat → Nat → Bool
  | 0, _, _ => false
  | m + 1, f, i => match ops[f]? with
    | some o => o.after.toList.any fun e => Region.binds .any e && (Nat.beq e.on i || waitsT ops m e.on i)
    | none => false
def ClosedL (ops : Array Oper) (listed : Array Bool) : Prop := ∀ (j : Nat) (o : Oper), ops[j]? = some o → listed.getD j false = true → ∀ e ∈ o.after, Region.binds .any e = true → listed.getD e.on false = true
def closedB (ops : Array Oper) (listed : Array Bool) : Bool := (List.range ops.size).all fun j => match ops[j]? with
  | some o => !listed.getD j false || o.after.toList.all fun e => !Region.binds .any e || listed.getD e.on false
  | none => true
theorem ClosedL.step {ops : Array Oper} {listed : Array Bool} (h : ClosedL ops listed) {i : Nat} (hi : i ∈ Region.ready .any ops listed) : ClosedL ops (listed.setIfInBounds i true) := fun j o ho hl e he hb => by
  by_cases hij : i = j
  · subst hij
    obtain ⟨_, o', ho', hall⟩ := mem_ready.1 hi
    rw [ho] at ho'; injection ho' with ho'; subst ho'
    exact getD_set_true (hall e he hb)
  · rw [getD_set_ne false hij] at hl
    exact getD_set_true (h j o ho hl e he hb)
section
variable {P : Program} {ops : Array Oper} {Q : Exit → Act → World → Prop} {U : World → Prop} {f : Nat}
end
section
variable {n : Nat} {l : Fr} {P : Program} {w : World} {Q : Exit → Act → World → Prop} {ops : Array Oper} {U : World → Prop} {fuel : Nat} {listed : Array Bool} {f : Nat}
end
section
variable {P : Program} {n : Nat} {l : Fr} {w : World} {d : Option Nat} {t t' ty : TypeId} {x y : Operand} {pos : String} {af : Array Edge} {g : Option (Nat × Bool)} {a b : Int}
theorem u64_in (a : Int) (h : 0 ≤ a ∧ a ≤ 18446744073709551615) : IntKind.u64.wrap a = a := by
  rw [IntKind.wrap_u64]; omega
theorem pv_convu (ht : cvB P t t' .u64 = true) {k : IntKind} (hx : ev l x = some (.int k a)) (h : 0 ≤ a ∧ a ≤ 18446744073709551615) : Pv P n l ⟨d, .convert t t' x, ty, pos, af, g⟩ (.int .u64 a) w := by
  have := pv_conv_w (P := P) (n := n) (w := w) (d := d) (ty := ty) (pos := pos) (af := af) (g := g) ht hx
  rwa [u64_in _ h] at this
theorem pv_half {k k' : IntKind} {m q : Nat} (hx : ev l x = some (.int k a)) (hy : ev l y = some (.int k' 1)) (ha : a = (m : Int)) (hq : m / 2 = q) (hk : 1 ≤ k.bits) : Pv P n l ⟨d, .binOp .shr t x y t', ty, pos, af, g⟩ (.int k (q : Nat)) w := by
  have h := pv_shr (P := P) (n := n) (w := w) (d := d) (ty := ty) (pos := pos) (af := af) (g := g) (t := t) (t' := t') hx hy (by omega)
  have e : a.fdiv (2 ^ (min (1 : Int).toNat k.bits)) = (q : Nat) := by
    rw [show min (1 : Int).toNat k.bits = 1 by have : (1 : Int).toNat = 1 := rfl; omega, Int.fdiv_eq_ediv_of_nonneg _ (by decide), ha, ← hq]
    omega
  rwa [e] at h
end

theorem zOr (w : World) : (zeroValue 41).run Tryz.prog w = .ok (.agg (encO ⟨0, 0, 0, 0, 0, 0⟩).toArray) w := by kernel_rfl
set_option maxRecDepth 20000 in
theorem clone_Oz {xs : List Ord} {m : Nat} {ad : Option Addr} {cap : Nat} {w : World} (hm : xs.length = m) (HS : SlR encO 6 w ad cap xs) (hl : xs.length ≤ 1048576) : Calls Tryz.prog 42 #[.slice ad m cap] w fun e w' => (∃ v, e = .returned v ∧ Own encO 6 41 w.heap.size w' v xs) ∧ Below w.heap.size w w' := by
  subst hm
  have hw := Below.refl w.heap.size w
  refine fn_enter 8 Tryz.func42 rfl rfl rfl ?_
  cases ad with
  | none =>
    obtain ⟨rfl, rfl⟩ := HS.ofNone rfl
    repeat' (first | (refine lw_pure rfl (pv_move rfl) ?_) | (refine lw_pure rfl (pv_assign rfl) ?_) | (refine lw_pure rfl (pv_slnil (tS rfl) rfl rfl) ?_) | (refine is_cw ?_; first | (refine cw_seq ?_) | (refine cw_region ?_) | (refine cw_true rfl rfl ?_) | (refine cw_ret ?_)) | (refine is_qw ?_; first | (with_reducible refine qw_then ?_) | (with_reducible refine qw_then_ret ?_)) | (refine lw_nil ?_))
    exact qw_ret1 rfl rfl ⟨⟨_, rfl, Own.nil _⟩, hw⟩
  | some ad =>
    repeat' (first | (refine lw_pure rfl (pv_move rfl) ?_) | (refine lw_pure rfl (pv_assign rfl) ?_) | (refine lw_pure rfl (pv_slnil (tS rfl) rfl rfl) ?_) | (refine is_cw ?_; first | (refine cw_seq ?_) | (refine cw_region ?_) | (refine cw_false rfl rfl ?_) | (refine cw_skip ?_)) | (refine is_qw ?_; first | (with_reducible refine qw_then ?_)) | (refine lw_nil ?_))
    refine lw_bs0 (enc := encO) elemO rfl ?_; intro wn hO hb hz
    repeat' (first | (refine lw_pure rfl (pv_move rfl) ?_))
    refine lw_app elemO encO_len encO_one rfl rfl rfl hO (HS.mono (grow_trans hw hb)) rfl (by omega) (by simp; omega) (by simp [maxLen]; omega) ?_; intro vm wn hOm hg hb9
    replace hb := hb.trans hb9
    repeat' (first | (refine lw_pure rfl (pv_assign rfl) ?_) | (refine is_cw ?_; first | (refine cw_ret ?_)) | (refine is_qw ?_; first | (with_reducible refine qw_then ?_)) | (refine lw_nil ?_))
    exact qw_ret1 rfl rfl ⟨⟨_, rfl, hOm⟩, hb⟩

set_option maxRecDepth 20000 in
set_option maxHeartbeats 2000000 in
theorem delone_O {xs : List Ord} {v : Value} {w : World} (base : Nat) (i : Nat) (hi : i < xs.length) (hbw : base ≤ w.heap.size) (hO : Own encO 6 41 base w v xs) : Calls Tryz.prog 94 #[v, .int .i64 (i : Nat), .int .i64 ((i : Int) + 1)] w fun e w' => (∃ v', e = .returned v' ∧ Own encO 6 41 base w' v' (xs.eraseIdx i)) ∧ w.grownBy w' v.ownBlock ∧ Below base w w' := by
  have hb0 := Below.refl base w
  obtain ⟨ad, cap, rfl, HS, hbase⟩ := Own.slR encO_len hO
  have hla := HS.le
  have hma := HS.max
  obtain ⟨g, rfl⟩ : ∃ g, ad = some ⟨g, 0, none⟩ := by
    cases ad with
    | none => have := (HS.ofNone rfl).1; subst this; simp at hi
    | some a =>
      obtain ⟨b, o, sp⟩ := a
      obtain ⟨h1, _⟩ := HS.ofSome _ rfl (by have := HS.le; omega)
      have h2 := (hbase _ rfl).2
      simp only at h1 h2
      exact ⟨b, by rw [h1, h2]⟩
  have hgb : base ≤ g := (hbase _ rfl).1
  obtain ⟨last, hlast⟩ : ∃ last, xs[xs.length - 1]? = some last := ⟨_, List.getElem?_eq_getElem (by omega)⟩
  have hel : (xs.eraseIdx i).length = xs.length - 1 := List.length_eraseIdx_of_lt hi
  have hw := Below.refl w.heap.size w
  refine fn_enter 33 Tryz.func94 rfl rfl rfl ?_
  repeat' (first | (refine lw_pure rfl (pv_move rfl) ?_) | (refine lw_pure rfl (pv_assign rfl) ?_) | (refine lw_pure rfl (pv_slice_3 (tS rfl) rfl rfl rfl rfl (by omega)) ?_) | (refine is_cw ?_; first | (refine cw_seq ?_) | (refine cw_region ?_) | (refine is_cd ?_; refine cw_false rfl (by first | assumption | exact decide_eq_false (by omega) | exact dec_notF (by omega)) ?_) | (refine cw_skip ?_)) | (refine is_qw ?_; first | (with_reducible refine qw_then ?_)) | (refine lw_nil ?_) | ((refine is_bin ?_; first | (refine lw_pure rfl (pv_eql rfl rfl) ?_))) | ((refine is_bi ?_; first | (refine lw_pure rfl (pv_lenl (tS rfl) rfl) ?_))))
  have e9 : ((i : Int) + 1).toNat = i + 1 := by omega
  refine cw_drawn (fun w' => w.grownBy w' (some g)) (by kernel_rfl) (by repeat (first | exact NoPanic.body | with_reducible refine NoPanic.then ?_ | with_reducible refine NoPanic.inBlock ?_)) (fun hNP => ?_)
  have hS := gb_of (below_drew w) (some g)
  (refine at0 0 rfl (fun w' hq => pv_move rfl) ?_)
  (refine at0 1 rfl (fun w' hq => pv_move rfl) ?_)
  (refine at0 2 rfl (fun w' hq => pv_slice_h (tS rfl) rfl rfl (by omega)) ?_)
  (refine at0 3 rfl (fun w' hq => pv_move rfl) ?_)
  (refine at0 4 rfl (fun w' hq => pv_move rfl) ?_)
  (refine at0 5 rfl (fun w' hq => pv_slice_l (tS rfl) rfl rfl (by omega)) ?_)
  refine aw_act 6 (by kernel_rfl) rfl rfl rfl ?_
  refine act_appD (xs := xs) (i := i) elemO encO_len encO_one rfl rfl (by rw [e9]; by_cases hc : cap = i + 1; (exact Or.inr ⟨hc, by rw [if_pos hc]⟩); (exact Or.inl (by rw [if_neg hc]; simp [Addr.add_lit]))) (by rw [e9]) (hO.mono (below_drew _)) hi hlast ?_; intro w2 hO2 hg2; refine ⟨gb_trans hS hg2, fun hS => ?_⟩
  (refine at0 7 rfl (fun w' hq => pv_assign rfl) ?_)
  refine aw_done (by kernel_rfl) ?_
  replace hb1 := hS; clear hS hNP
  have hl2 : (xs.eraseIdx i ++ [last]).length = xs.length := by rw [List.length_append, hel]; simp; omega
  have htk : (xs.eraseIdx i ++ [last]).take (xs.length - 1) = xs.eraseIdx i := by rw [List.take_append_of_le_length (by omega), List.take_of_length_le (by omega)]
  have hnn : ((i + (xs.length - (i + 1)) : Nat) : Int) = ((xs.length - 1 : Nat) : Int) := by omega
  have hw := Below.refl w2.heap.size w2
  repeat' (first | (refine lw_pure rfl (pv_move rfl) ?_) | (refine is_cw ?_; first | (refine cw_seq ?_) | (refine cw_region ?_)) | (refine is_qw ?_; first | (with_reducible refine qw_then ?_)) | ((refine is_bi ?_; first | (refine lw_pure rfl (pv_lenl (tS rfl) rfl) ?_))) | (refine is_sl ?_; refine lw_pure rfl (pv_slice_lh (tS rfl) rfl rfl rfl (by omega)) ?_))
  refine lw_clear (i := xs.length - 1) elemO encO_len zOr rfl rfl rfl ?_ ?_ ?_ hO2 (by omega) ?_
  · have hc9 : i + (xs.length - ((i : Int) + 1).toNat) = xs.length - 1 := by omega
    have hc8 : ¬ cap = xs.length - 1 := by omega
    simp only [Int.toNat_natCast, hc9, if_neg hc8, Option.map_some, Addr.add_lit, Nat.zero_add]
  · omega
  · omega
  intro w3 hg3 hO3
  rw [htk, ← hel] at hO3
  have hb3 := gb_trans hb1 hg3
  have hb2 := hb0.grown hb3 hbw (by intro q hq; injection hq with hq; omega)
  repeat' (first | (refine lw_pure rfl (pv_move rfl) ?_) | (refine lw_pure rfl (pv_assign rfl) ?_) | (refine is_cw ?_; first | (refine cw_seq ?_) | (refine cw_region ?_) | (refine cw_ret ?_)) | (refine is_qw ?_; first | (with_reducible refine qw_then ?_)) | (refine lw_nil ?_))
  refine qw_ret1 rfl rfl ⟨⟨_, rfl, ?_⟩, hb3, hb2⟩
  rw [show i + (xs.length - ((i : Int) + 1).toNat) = (xs.eraseIdx i).length by omega]
  exact hO3

theorem cmpI_self (a : Int) : cmpI a a = 0 := by unfold cmpI; simp
set_option maxRecDepth 20000 in
theorem placeF_c (o : Ord) (id : Int) (w : World) : Calls Tryz.prog 116 #[.agg (encO o).toArray, .int .i64 id] w fun e w' => e = .returned (.int .i64 (cmpI o.id id)) ∧ Below w.heap.size w w' := by
  have hE := Ext.refl w
  have hw := Below.refl w.heap.size w
  refine fn_enter 9 Tryz.func116 rfl rfl rfl ?_
  repeat' (first | (refine is_cw ?_; first | (refine cw_seq ?_) | (refine cw_region ?_)))
  refine lw_boxN rfl rfl (cs := encO o) rfl ?_; intro N2 wn hN2 HX hb; replace hN2 := Nat.le_trans hw.size hN2; replace hw := grow_trans hw hb; clear hb
  replace hE := hE.mono hw; clear hw; have hw := Below.refl wn.heap.size wn
  repeat' (first | (refine lw_pure rfl (pv_move rfl) ?_) | (refine lw_pure rfl (pv_assign rfl) ?_) | (refine is_cw ?_; first | (refine cw_seq ?_) | (refine cw_region ?_)) | (refine is_qw ?_; first | (with_reducible refine qw_then ?_)) | (refine lw_nil ?_) | ((refine is_load ?_; first | (refine lw_pure rfl (pv_load (t1 rfl) rfl (by first | exact PT.ld0 (HX.mono hw) rfl | exact PT.ld (HX.mono hw) rfl)) ?_))) | ((refine is_fa ?_; first | (refine lw_pure rfl (pv_fa (tF rfl) rfl) ?_))))
  refine lw_call (f := 117) (by kernel_rfl) rfl rfl (cmpL_c _ _ _) ?_; rintro e w1 ⟨rfl, rfl⟩; refine ⟨_, rfl, ?_⟩
  repeat' (first | (refine lw_pure rfl (pv_assign rfl) ?_) | (refine is_cw ?_; first | (refine cw_ret ?_)) | (refine is_qw ?_; first | (with_reducible refine qw_then ?_)) | (refine lw_nil ?_))
  exact qw_ret1 rfl rfl ⟨rfl, (hE.mono hw).b⟩
theorem placeF_v {o : Ord} {id c : Int} (h : cmpI o.id id = c) (w : World) : Calls Tryz.prog 116 (#[] ++ [Value.agg (encO o).toArray, Value.int .i64 id].toArray ++ #[]) w fun e w' => e = .returned (.int .i64 c) ∧ Below w.heap.size w w' := by subst h; exact placeF_c o id w
set_option maxRecDepth 20000 in
set_option maxHeartbeats 4000000 in
theorem search_O {l : List Ord} {m : Nat} {a : Option Addr} {ca k : Nat} {o : Ord} {id : Int} {w : World} (hm : l.length = m) (hl : l.length ≤ 65536) (hpw : l.Pairwise fun a b => a.id < b.id) (hk : l[k]? = some o) (hid : o.id = id) (HS : SlR encO 6 w a ca l) : Calls Tryz.prog 115 #[.slice a m ca, .int .i64 id, .func (.func 116) #[] #[]] w fun e w' => e = .returned (.tuple #[.int .i64 (k : Nat), .bool true]) ∧ Below w.heap.size w w' := by
  subst hm hid
  have hw := Below.refl w.heap.size w
  have hca := HS.le
  have hcm := HS.max
  have hkl := (List.getElem?_eq_some_iff.1 hk).1
  refine fn_enter 49 Tryz.func115 rfl rfl rfl ?_
  repeat' (first | (refine lw_pure rfl (pv_move rfl) ?_) | (refine lw_pure rfl (pv_assign rfl) ?_) | (refine is_cw ?_; first | (refine cw_seq ?_) | (refine cw_region ?_) | (refine cw_block ?_)) | (refine is_qw ?_; first | (with_reducible refine qw_then ?_)) | (refine lw_nil ?_) | ((refine is_bi ?_; first | (refine lw_pure rfl (pv_lenl (tS rfl) rfl) ?_))))
  refine cw_loop (σ := Nat × Nat) (fun s => [(0, .slice a l.length ca), (1, .int .i64 o.id), (2, .func (.func 116) #[] #[]), (8, .int .i64 (l.length : Nat)), (9, .int .i64 (s.1 : Nat)), (10, .int .i64 (s.2 : Nat))]) (fun s wr => (s.1 ≤ k ∧ k ≤ s.2 ∧ s.2 ≤ l.length) ∧ Below w.heap.size w wr ∧ ∀ j x, s.2 ≤ j → l[j]? = some x → ¬ x.id < o.id) (fun s => s.2 - s.1) (0, l.length) (by repeat' (first | exact trivial | refine ⟨rfl, ?_⟩)) ⟨⟨Nat.zero_le _, Nat.le_of_lt hkl, Nat.le_refl _⟩, hw, (fun j x hj hx => by have h1 := (List.getElem?_eq_some_iff.1 hx).1; have h2 : l.length ≤ j := hj; omega)⟩ ?_
  clear hw
  rintro ⟨lo, hi⟩ wr ⟨⟨h1, h2, h3⟩, hw, hhi⟩
  dsimp only at h1 h2 h3 hhi
  change CW _ _ _ _ [(0, .slice a l.length ca), (1, .int .i64 o.id), (2, .func (.func 116) #[] #[]), (8, .int .i64 (l.length : Nat)), (9, .int .i64 (lo : Nat)), (10, .int .i64 (hi : Nat))] wr
  by_cases hlt : lo < hi
  · obtain ⟨q, hq⟩ : ∃ q, (lo + hi) / 2 = q := ⟨_, rfl⟩
    have hq1 : lo ≤ q ∧ q < hi := by omega
    have hlt1 : q < l.length := by omega
    have hxq : l[q]? = some l[q] := List.getElem?_eq_getElem hlt1
    obtain ⟨ab, ao, rfl, -, -⟩ := HS.at (by intro h; rw [h] at hlt1; simp at hlt1)
    generalize l[q] = y at hxq
    by_cases hy : y.id < o.id
    · have hqk : q < k := by
        by_cases h : q < k
        · exact h
        · exfalso
          by_cases e : q = k
          · subst e; rw [hk] at hxq; injection hxq with hxq; subst hxq; omega
          · have := rise_at (f := fun o : Ord => o.id) hpw hk hxq (by omega); omega
      have hc1 := cmpI_lt hy
      repeat' (first | (refine lw_pure rfl (pv_move rfl) ?_) | (refine lw_pure rfl (pv_assign rfl) ?_) | (refine lw_pure rfl (pv_half (m := lo + hi) rfl rfl (by omega) hq (by decide)) ?_) | (refine lw_pure rfl (pv_convu (tCv rfl rfl) rfl (by omega)) ?_) | (refine is_cw ?_; first | (refine cw_seq ?_) | (refine cw_region ?_) | (refine is_cd ?_; refine cw_true rfl (by first | assumption | exact decide_eq_true (by omega) | exact dec_notT (by omega)) ?_) | (refine cw_skip ?_) | (refine cw_block ?_)) | (refine is_qw ?_; first | (with_reducible refine qw_then ?_)) | (refine lw_nil ?_) | ((refine is_bin ?_; first | (refine lw_pure rfl (pv_lss rfl rfl) ?_) | (refine lw_pure rfl (pv_add rfl rfl (by omega)) ?_))) | ((refine is_load ?_; first | (refine lw_pure rfl (pv_loada (tA rfl) rfl (by first | exact SlR.lda (HS.mono hw) hxq) (by rfl)) ?_))) | ((refine is_ia ?_; first | (refine lw_pure rfl (pv_ian (tS rfl) rfl rfl (by omega)) ?_))) | (refine is_cv ?_; refine lw_pure rfl (pv_conv (tCv rfl rfl) rfl (by omega)) ?_))
      refine lw_callv (f := 116) rfl (by kernel_rfl) rfl rfl (placeF_v hc1 _) ?_; rintro e w1 ⟨rfl, hb⟩; refine ⟨_, rfl, ?_⟩; replace hw := grow_trans hw hb; clear hb
      repeat' (first | (refine lw_pure rfl (pv_move rfl) ?_) | (refine lw_pure rfl (pv_assign rfl) ?_) | (refine is_cw ?_; first | (refine cw_region ?_) | (refine cw_true rfl rfl ?_)) | (refine is_qw ?_; first | (with_reducible refine qw_then ?_) | (with_reducible refine qw_in ?_)) | (refine lw_nil ?_) | ((refine is_bin ?_; first | (refine lw_pure rfl (pv_lss rfl rfl) ?_) | (refine lw_pure rfl (pv_inc rfl rfl (by omega)) ?_))))
      exact qw_round (q + 1, hi) (by repeat' (first | exact trivial | refine ⟨rfl, ?_⟩)) ⟨⟨by show q + 1 ≤ k; omega, h2, h3⟩, hw, hhi⟩ (by show hi - (q + 1) < hi - lo; omega)
    · have hkq : k ≤ q := by
        by_cases h : k ≤ q
        · exact h
        · exfalso
          have := rise_at (f := fun o : Ord => o.id) hpw hxq hk (by omega)
          omega
      have hc2 := cmpI_ge hy
      obtain ⟨c, hc1⟩ : ∃ c, cmpI y.id o.id = c := ⟨_, rfl⟩
      rw [hc1] at hc2
      repeat' (first | (refine lw_pure rfl (pv_move rfl) ?_) | (refine lw_pure rfl (pv_assign rfl) ?_) | (refine lw_pure rfl (pv_half (m := lo + hi) rfl rfl (by omega) hq (by decide)) ?_) | (refine lw_pure rfl (pv_convu (tCv rfl rfl) rfl (by omega)) ?_) | (refine is_cw ?_; first | (refine cw_seq ?_) | (refine cw_region ?_) | (refine is_cd ?_; refine cw_true rfl (by first | assumption | exact decide_eq_true (by omega) | exact dec_notT (by omega)) ?_) | (refine cw_skip ?_) | (refine cw_block ?_)) | (refine is_qw ?_; first | (with_reducible refine qw_then ?_)) | (refine lw_nil ?_) | ((refine is_bin ?_; first | (refine lw_pure rfl (pv_lss rfl rfl) ?_) | (refine lw_pure rfl (pv_add rfl rfl (by omega)) ?_))) | ((refine is_load ?_; first | (refine lw_pure rfl (pv_loada (tA rfl) rfl (by first | exact SlR.lda (HS.mono hw) hxq) (by rfl)) ?_))) | ((refine is_ia ?_; first | (refine lw_pure rfl (pv_ian (tS rfl) rfl rfl (by omega)) ?_))) | (refine is_cv ?_; refine lw_pure rfl (pv_conv (tCv rfl rfl) rfl (by omega)) ?_))
      refine lw_callv (f := 116) rfl (by kernel_rfl) rfl rfl (placeF_v hc1 _) ?_; rintro e w1 ⟨rfl, hb⟩; refine ⟨_, rfl, ?_⟩; replace hw := grow_trans hw hb; clear hb
      repeat' (first | (refine lw_pure rfl (pv_move rfl) ?_) | (refine lw_pure rfl (pv_assign rfl) ?_) | (refine is_cw ?_; first | (refine cw_region ?_) | (refine is_cd ?_; refine cw_false rfl (by first | assumption | exact decide_eq_false (by omega) | exact dec_notF (by omega)) ?_)) | (refine is_qw ?_; first | (with_reducible refine qw_then ?_) | (with_reducible refine qw_in ?_)) | (refine lw_nil ?_) | ((refine is_bin ?_; first | (refine lw_pure rfl (pv_lss rfl rfl) ?_))))
      refine qw_round (lo, q) (by repeat' (first | exact trivial | refine ⟨rfl, ?_⟩)) ⟨⟨h1, hkq, by show q ≤ l.length; omega⟩, hw, fun j x hj hx => ?_⟩ (by show q - lo < hi - lo; omega)
      replace hj : q ≤ j := hj
      by_cases hjq : j = q
      · subst hjq; rw [hxq] at hx; injection hx with hx; subst hx; exact hy
      · have := rise_at (f := fun o : Ord => o.id) hpw hxq hx (by omega); omega
  · obtain rfl : hi = lo := by omega
    obtain rfl : hi = k := by omega
    obtain ⟨ab, ao, rfl, -, -⟩ := HS.at (by intro h; rw [h] at hkl; simp at hkl)
    repeat' (first | (refine lw_pure rfl (pv_move rfl) ?_) | (refine is_cw ?_; first | (refine cw_seq ?_) | (refine cw_region ?_) | (refine is_cd ?_; refine cw_false rfl (by first | assumption | exact decide_eq_false (by omega) | exact dec_notF (by omega)) ?_) | (refine cw_exit ?_)) | (refine is_qw ?_; first | (with_reducible refine qw_then ?_) | (with_reducible refine qw_in_hit ?_) | (with_reducible refine qw_then_exit ?_)) | (refine lw_nil ?_) | (refine is_guarded ?_; first | (refine lw_on rfl rfl (by first | assumption | exact decide_eq_true (by omega) | exact decide_eq_false (by omega) | exact dec_notT (by omega) | exact dec_notF (by omega)) ?_)) | ((refine is_bin ?_; first | (refine lw_pure rfl (pv_lss rfl rfl) ?_))) | ((refine is_load ?_; first | (refine lw_pure rfl (pv_loada (tA rfl) rfl (by first | exact SlR.lda (HS.mono hw) hk) (by rfl)) ?_))) | ((refine is_ia ?_; first | (refine lw_pure rfl (pv_ian (tS rfl) rfl rfl (by omega)) ?_))))
    refine lw_callv (f := 116) rfl (by kernel_rfl) rfl rfl (placeF_v (cmpI_self o.id) _) ?_; rintro e w1 ⟨rfl, hb⟩; refine ⟨_, rfl, ?_⟩; replace hw := grow_trans hw hb; clear hb
    repeat' (first | (refine lw_pure rfl (pv_assign rfl) ?_) | (refine is_cw ?_; first | (refine cw_ret ?_)) | (refine is_qw ?_; first | (with_reducible refine qw_then ?_)) | (refine lw_nil ?_) | (refine is_guarded ?_; first | (refine lw_on rfl rfl (by first | assumption | exact decide_eq_true (by omega) | exact decide_eq_false (by omega) | exact dec_notT (by omega) | exact dec_notF (by omega)) ?_)) | ((refine is_bin ?_; first | (refine lw_pure rfl (pv_eql rfl rfl) ?_))) | (refine is_pk ?_; refine lw_pure rfl (pv_pick_t rfl (by first | assumption | exact decide_eq_true (by omega) | exact dec_notT (by omega)) rfl) ?_))
    exact qw_ret2 rfl rfl rfl ⟨rfl, hw⟩
set_option maxRecDepth 20000 in
theorem place_O {l : List Ord} {m : Nat} {a : Option Addr} {ca k : Nat} {o : Ord} {id : Int} {w : World} (hm : l.length = m) (hl : l.length ≤ 65536) (hpw : l.Pairwise fun a b => a.id < b.id) (hk : l[k]? = some o) (hid : o.id = id) (HS : SlR encO 6 w a ca l) : Calls Tryz.prog 90 #[.slice a m ca, .int .i64 id] w fun e w' => e = .returned (.tuple #[.int .i64 (k : Nat), .bool true]) ∧ Below w.heap.size w w' := by
  have hw := Below.refl w.heap.size w
  refine fn_enter 11 Tryz.func90 rfl rfl rfl ?_
  repeat' (first | (refine lw_pure rfl (pv_move rfl) ?_) | (refine lw_pure rfl (pv_assign rfl) ?_) | (refine lw_call (f := 115) (by kernel_rfl) rfl rfl (search_O hm hl hpw hk hid HS) ?_; rintro e w1 ⟨rfl, hb⟩; refine ⟨_, rfl, ?_⟩; replace hw := grow_trans hw hb; clear hb) | (refine is_cw ?_; first | (refine cw_seq ?_) | (refine cw_region ?_) | (refine cw_ret ?_)) | (refine is_qw ?_; first | (with_reducible refine qw_then ?_)) | (refine lw_nil ?_) | (refine lw_pure rfl (pv_extract rfl rfl) ?_))
  exact qw_ret2 rfl rfl rfl ⟨rfl, hw⟩
set_option maxRecDepth 20000 in
set_option maxHeartbeats 2000000 in
theorem find_O {l : List Ord} {m : Nat} {a : Option Addr} {ca k : Nat} {o : Ord} {id : Int} {w : World} (hm : l.length = m) (hM : mayO l = true) (hk : l[k]? = some o) (hid : o.id = id) (HS : SlR encO 6 w a ca l) : Calls Tryz.prog 64 #[.slice a m ca, .int .i64 id] w fun e w' => e = .returned (.tuple #[.agg (encO o).toArray, .bool true]) ∧ Below w.heap.size w w' := by
  subst hm
  have hE := Ext.refl w
  have hw := Below.refl w.heap.size w
  have hla := HS.le
  have hma := HS.max
  have hkl := (List.getElem?_eq_some_iff.1 hk).1
  have hm9 := mayO_iff.1 hM
  have hl8 := hm9.1
  obtain ⟨ab, ao, rfl, -, -⟩ := HS.at (by intro h; rw [h] at hkl; simp at hkl)
  refine fn_enter 25 Tryz.func64 rfl rfl rfl ?_
  repeat' (first | (refine is_cw ?_; first | (refine cw_seq ?_) | (refine cw_region ?_)))
  refine lw_allocN rfl (by first | exact tyv_29 | exact tyv_30 | exact tyv_33 | exact tyv_34 | exact tyv_36 | exact tyv_37 | exact tyv_38 | exact tyv_39 | exact tyv_40 | exact tyv_41 | exact tyv_43 | exact tyv_44 | exact tyv_45 | exact tyv_46 | exact tyv_73 | exact tyv_74 | exact tyv_80 | exact tyv_81 | exact tyv_107 | exact tyv_108 | exact tyv_123 | exact tyv_146 | exact tyv_147 | exact tyv_148 | exact tyv_149) rfl ?_; intro N w1 hN H hb
  replace hw := grow_trans hw hb; clear hb
  replace hE := hE.mono hw; replace HS := HS.mono hw; clear hw; have hw := Below.refl w1.heap.size w1
  have hc := bmay_c (w := w1) rfl HS
  rw [hM] at hc
  repeat' (first | (refine lw_pure rfl (pv_move rfl) ?_) | (refine lw_pure rfl (pv_assign rfl) ?_) | (refine is_cw ?_; first | (refine cw_seq ?_) | (refine cw_region ?_)) | (refine is_qw ?_; first | (with_reducible refine qw_then ?_)) | (refine lw_nil ?_))
  refine lw_call (f := 65) (by kernel_rfl) rfl rfl (hc) ?_; rintro e w1 ⟨rfl, hb⟩; refine ⟨_, rfl, ?_⟩; replace hw := grow_trans hw hb; clear hb
  repeat' (first | (refine lw_pure rfl (pv_move rfl) ?_) | (refine is_cw ?_; first | (refine cw_seq ?_) | (refine cw_region ?_) | (refine cw_false rfl rfl ?_) | (refine cw_skip ?_)) | (refine is_qw ?_; first | (with_reducible refine qw_then ?_)) | (refine lw_nil ?_) | ((refine is_un ?_; first | (refine lw_pure rfl (pv_not rfl) ?_))))
  refine lw_call (f := 90) (by kernel_rfl) rfl rfl (place_O rfl (by omega) hm9.2.2 hk hid (HS.mono hw)) ?_; rintro e w1 ⟨rfl, hb⟩; refine ⟨_, rfl, ?_⟩; replace hw := grow_trans hw hb; clear hb
  repeat' (first | (refine lw_pure rfl (pv_move rfl) ?_) | (refine lw_pure rfl (pv_assign rfl) ?_) | (refine is_cw ?_; first | (refine cw_seq ?_) | (refine cw_region ?_) | (refine cw_false rfl rfl ?_) | (refine cw_skip ?_)) | (refine is_qw ?_; first | (with_reducible refine qw_then ?_)) | (refine lw_nil ?_) | ((refine is_load ?_; first | (refine lw_pure rfl (pv_loada (tA rfl) rfl (by first | exact SlR.lda (HS.mono hw) hk) (by rfl)) ?_))) | ((refine is_ia ?_; first | (refine lw_pure rfl (pv_ian (tS rfl) rfl rfl (by omega)) ?_))) | ((refine is_un ?_; first | (refine lw_pure rfl (pv_not rfl) ?_))) | (refine lw_pure rfl (pv_extract rfl rfl) ?_))
  refine lw_storea (vs := encO o) (H.mono hw) (tZ rfl) rfl rfl rfl rfl (by simp [Value.oneCell', encO]) ?_; intro w3 H2 hg hz; replace hE := (hE.mono hw).grown hg (by intro q hq; injection hq with hq; omega)
  clear hw
  have hw := Below.refl w3.heap.size w3
  repeat' (first | (refine lw_pure rfl (pv_assign rfl) ?_) | (refine is_cw ?_; first | (refine cw_ret ?_)) | (refine is_qw ?_; first | (with_reducible refine qw_then ?_)) | (refine lw_nil ?_))
  exact qw_retct rfl rfl rfl (agg_ld (tA rfl) rfl (fun i u hu => H2.ld0 hu)) ⟨rfl, hE.b⟩
set_option maxRecDepth 20000 in
set_option maxHeartbeats 4000000 in
theorem take_O {l : List Ord} {m : Nat} {a : Option Addr} {ca k : Nat} {o : Ord} {id q : Int} {w : World} (hm : l.length = m) (hM : mayO l = true) (hk : l[k]? = some o) (hid : o.id = id) (hq : o.left = q) (HS : SlR encO 6 w a ca l) : Calls Tryz.prog 66 #[.slice a m ca, .int .i64 id, .int .i64 q] w fun e w' => (∃ v, e = .returned (.tuple #[v, .int .i64 0]) ∧ Own encO 6 41 w.heap.size w' v (l.eraseIdx k)) ∧ Below w.heap.size w w' := by
  subst hm hq
  have hw := Below.refl w.heap.size w
  have hla := HS.le
  have hma := HS.max
  have hkl := (List.getElem?_eq_some_iff.1 hk).1
  have hm9 := mayO_iff.1 hM
  have hl8 := hm9.1
  have h1 := (mayOne_iff.1 (hm9.2.1 o (List.mem_of_getElem? hk))).2.2.2.2.2
  obtain ⟨ab, ao, rfl, -, -⟩ := HS.at (by intro h; rw [h] at hkl; simp at hkl)
  have hc := bmay_c (w := w) rfl HS
  rw [hM] at hc
  refine fn_enter 58 Tryz.func66 rfl rfl rfl ?_
  repeat' (first | (refine lw_pure rfl (pv_move rfl) ?_) | (refine lw_pure rfl (pv_assign rfl) ?_) | (refine is_cw ?_; first | (refine cw_seq ?_) | (refine cw_region ?_)) | (refine is_qw ?_; first | (with_reducible refine qw_then ?_)) | (refine lw_nil ?_))
  refine lw_call (f := 65) (by kernel_rfl) rfl rfl (hc) ?_; rintro e w1 ⟨rfl, hb⟩; refine ⟨_, rfl, ?_⟩; replace hw := grow_trans hw hb; clear hb
  repeat' (first | (refine lw_pure rfl (pv_move rfl) ?_) | (refine is_cw ?_; first | (refine cw_seq ?_) | (refine cw_region ?_) | (refine cw_false rfl rfl ?_) | (refine cw_skip ?_)) | (refine is_qw ?_; first | (with_reducible refine qw_then ?_)) | (refine lw_nil ?_) | ((refine is_un ?_; first | (refine lw_pure rfl (pv_not rfl) ?_))))
  refine lw_call (f := 90) (by kernel_rfl) rfl rfl (place_O rfl (by omega) hm9.2.2 hk hid (HS.mono hw)) ?_; rintro e w1 ⟨rfl, hb⟩; refine ⟨_, rfl, ?_⟩; replace hw := grow_trans hw hb; clear hb
  repeat' (first | (refine lw_pure rfl (pv_move rfl) ?_) | (refine lw_pure rfl (pv_assign rfl) ?_) | (refine is_cw ?_; first | (refine cw_seq ?_) | (refine cw_region ?_) | (refine cw_false rfl rfl ?_) | (refine is_cd ?_; refine cw_false rfl (by first | assumption | exact decide_eq_false (by omega) | exact dec_notF (by omega)) ?_) | (refine cw_skip ?_) | (refine cw_block ?_)) | (refine is_qw ?_; first | (with_reducible refine qw_then ?_) | (with_reducible refine qw_in ?_)) | (refine lw_nil ?_) | (refine is_guarded ?_; first | (refine lw_on rfl rfl (by first | assumption | exact decide_eq_true (by omega) | exact decide_eq_false (by omega) | exact dec_notT (by omega) | exact dec_notF (by omega)) ?_)) | ((refine is_bin ?_; first | (refine lw_pure rfl (pv_lss rfl rfl) ?_) | (refine lw_pure rfl (pv_gtr rfl rfl) ?_))) | ((refine is_load ?_; first | (refine lw_pure rfl (pv_load (t1 rfl) rfl (by first | exact SlR.ld (HS.mono hw) hk rfl | exact SlR.ld1 (HS.mono hw) hk rfl)) ?_))) | ((refine is_fa ?_; first | (refine lw_pure rfl (pv_fa (tF rfl) rfl) ?_))) | ((refine is_ia ?_; first | (refine lw_pure rfl (pv_ian (tS rfl) rfl rfl (by omega)) ?_))) | ((refine is_un ?_; first | (refine lw_pure rfl (pv_not rfl) ?_))) | (refine is_pk ?_; refine lw_pure rfl (pv_pick_f rfl (by first | assumption | exact decide_eq_false (by omega) | exact dec_notF (by omega)) rfl) ?_) | (refine lw_pure rfl (pv_extract rfl rfl) ?_))
  refine lw_call (f := 42) (by kernel_rfl) rfl rfl (clone_Oz rfl (HS.mono hw) (by omega)) ?_; rintro e wc ⟨⟨v, rfl, hO⟩, hb⟩; refine ⟨_, rfl, ?_⟩
  replace hO := hO.weaken hw.size
  replace hw := grow_trans hw hb
  clear hb
  obtain ⟨a2, c2, rfl⟩ := own_shapeM (m := l.length) encO_len hO rfl
  obtain ⟨g, rfl⟩ := own_some hO (by omega)
  have SX := (own_sl encO_len hO).2
  have hE := Ext.mk hw
  clear hw
  have hw := Below.refl wc.heap.size wc
  repeat' (first | (refine lw_pure rfl (pv_move rfl) ?_) | (refine lw_pure rfl (pv_assign rfl) ?_) | (refine is_cw ?_; first | (refine cw_seq ?_) | (refine cw_region ?_)) | (refine is_qw ?_; first | (with_reducible refine qw_then ?_)) | (refine lw_nil ?_) | ((refine is_bin ?_; first | (refine lw_pure rfl (pv_sub rfl rfl (by omega)) ?_))) | ((refine is_load ?_; first | (refine lw_pure rfl (pv_load (t1 rfl) rfl (by first | exact SlR.ld (SX.mono hw) hk rfl | exact SlR.ld1 (SX.mono hw) hk rfl)) ?_))) | ((refine is_fa ?_; first | (refine lw_pure rfl (pv_fa (tF rfl) rfl) ?_))) | ((refine is_ia ?_; first | (refine lw_pure rfl (pv_ian (tS rfl) rfl rfl (by omega)) ?_))))
  refine lw_storeF (i := k) (f := 5) (a := o) (u := { o with left := o.left - o.left }) encO_len (tZ rfl) rfl (by omega) rfl rfl (hO.mono hw) hk rfl (by omega) ?_; intro w2 hO2 hg hz
  obtain ⟨-, hgb, -⟩ := Own.heap' hO
  have hE2 := (hE.mono hw).grown hg (by intro q hq; injection hq with hq; omega)
  have hl2 : (l.set k { o with left := o.left - o.left }).length = l.length := List.length_set
  have hk2 : (l.set k { o with left := o.left - o.left })[k]? = some { o with left := o.left - o.left } := List.getElem?_set_self hkl
  have hd := delone_O (w := w2) w.heap.size k (by rw [hl2]; exact hkl) (by have := hE2.b.size; omega) hO2
  rw [List.eraseIdx_set_eq] at hd
  have SX2 := (own_sl encO_len hO2).2
  clear hw hc
  have hw := Below.refl w2.heap.size w2
  have hd0 : decide (({ o with left := o.left - o.left } : Ord).left = 0) = true := by simp
  repeat' (first | (refine lw_pure rfl (pv_move rfl) ?_) | (refine is_cw ?_; first | (refine cw_seq ?_) | (refine cw_region ?_) | (refine is_cd ?_; refine cw_true rfl (by first | assumption | exact decide_eq_true (by omega) | exact dec_notT (by omega)) ?_)) | (refine is_qw ?_; first | (with_reducible refine qw_then ?_)) | (refine lw_nil ?_) | ((refine is_bin ?_; first | (refine lw_pure rfl (pv_eql rfl rfl) ?_) | (refine lw_pure rfl (pv_inc rfl rfl (by omega)) ?_))) | ((refine is_load ?_; first | (refine lw_pure rfl (pv_load (t1 rfl) rfl (by first | exact SlR.ld (SX2.mono hw) hk2 rfl | exact SlR.ld1 (SX2.mono hw) hk2 rfl)) ?_))) | ((refine is_fa ?_; first | (refine lw_pure rfl (pv_fa (tF rfl) rfl) ?_))) | ((refine is_ia ?_; first | (refine lw_pure rfl (pv_ian (tS rfl) rfl rfl (by omega)) ?_))))
  skip
  refine lw_call (f := 94) (by kernel_rfl) rfl rfl (hd) ?_; rintro e w3 ⟨⟨v3, rfl, hO3⟩, -, hb3⟩; refine ⟨_, rfl, ?_⟩
  repeat' (first | (refine lw_pure rfl (pv_move rfl) ?_) | (refine lw_pure rfl (pv_assign rfl) ?_) | (refine is_cw ?_; first | (refine cw_seq ?_) | (refine cw_region ?_) | (refine cw_ret ?_)) | (refine is_qw ?_; first | (with_reducible refine qw_then ?_)) | (refine lw_nil ?_))
  exact qw_ret2 rfl rfl rfl ⟨⟨_, rfl, hO3⟩, hE2.b.trans hb3⟩
set_option maxRecDepth 20000 in
set_option maxHeartbeats 2000000 in
theorem drop_O {l : List Ord} {m : Nat} {a : Option Addr} {ca k : Nat} {o : Ord} {id : Int} {w : World} (hm : l.length = m) (hM : mayO l = true) (hk : l[k]? = some o) (hid : o.id = id) (HS : SlR encO 6 w a ca l) : Calls Tryz.prog 29 #[.slice a m ca, .int .i64 id] w fun e w' => (∃ v, e = .returned (.tuple #[v, .int .i64 0]) ∧ Own encO 6 41 w.heap.size w' v (l.eraseIdx k)) ∧ Below w.heap.size w w' := by
  have hw := Below.refl w.heap.size w
  refine fn_enter 27 Tryz.func29 rfl rfl rfl ?_
  repeat' (first | (refine lw_pure rfl (pv_move rfl) ?_) | (refine lw_pure rfl (pv_assign rfl) ?_) | (refine is_cw ?_; first | (refine cw_seq ?_) | (refine cw_region ?_)) | (refine is_qw ?_; first | (with_reducible refine qw_then ?_)) | (refine lw_nil ?_))
  refine lw_call (f := 64) (by kernel_rfl) rfl rfl (find_O hm hM hk hid (HS.mono hw)) ?_; rintro e w1 ⟨rfl, hb⟩; refine ⟨_, rfl, ?_⟩; replace hw := grow_trans hw hb; clear hb
  repeat' (first | (refine lw_pure rfl (pv_move rfl) ?_) | (refine lw_pure rfl (pv_extract rfl rfl) ?_))
  refine lw_varN rfl (by first | exact tyv_29 | exact tyv_30 | exact tyv_33 | exact tyv_34 | exact tyv_36 | exact tyv_37 | exact tyv_38 | exact tyv_39 | exact tyv_40 | exact tyv_41 | exact tyv_43 | exact tyv_44 | exact tyv_45 | exact tyv_46 | exact tyv_73 | exact tyv_74 | exact tyv_80 | exact tyv_81 | exact tyv_107 | exact tyv_108 | exact tyv_123 | exact tyv_146 | exact tyv_147 | exact tyv_148 | exact tyv_149) rfl (tZ rfl) (fun _ => rfl) rfl rfl ?_; intro N6 w6 hN6 H6 hb
  replace H6 : PT w6 N6 41 (encO o) := H6
  replace hw := grow_trans hw hb
  clear hb
  have HS6 := HS.mono hw
  have hE := Ext.mk hw
  clear hw
  have hw := Below.refl w6.heap.size w6
  repeat' (first | (refine lw_pure rfl (pv_move rfl) ?_) | (refine lw_pure rfl (pv_assign rfl) ?_) | (refine is_cw ?_; first | (refine cw_seq ?_) | (refine cw_region ?_) | (refine cw_false rfl rfl ?_) | (refine cw_skip ?_)) | (refine is_qw ?_; first | (with_reducible refine qw_then ?_)) | (refine lw_nil ?_) | (refine is_guarded ?_; first | (refine lw_not rfl rfl rfl rfl ?_)) | ((refine is_load ?_; first | (refine lw_pure rfl (pv_load (t1 rfl) rfl (by first | exact PT.ld0 (H6.mono hw) rfl | exact PT.ld (H6.mono hw) rfl)) ?_))) | ((refine is_fa ?_; first | (refine lw_pure rfl (pv_fa (tF rfl) rfl) ?_))) | ((refine is_un ?_; first | (refine lw_pure rfl (pv_not rfl) ?_))) | (refine is_pk ?_; refine lw_pure rfl (pv_pick_f rfl rfl rfl) ?_))
  refine lw_call (f := 66) (by kernel_rfl) rfl rfl (take_O hm hM hk hid rfl HS6) ?_; rintro e w3 ⟨⟨v3, rfl, hO3⟩, hb3⟩; refine ⟨_, rfl, ?_⟩
  repeat' (first | (refine lw_pure rfl (pv_assign rfl) ?_) | (refine is_cw ?_; first | (refine cw_ret ?_)) | (refine is_qw ?_; first | (with_reducible refine qw_then ?_)) | (refine lw_nil ?_) | (refine lw_pure rfl (pv_extract rfl rfl) ?_))
  exact qw_ret2 rfl rfl rfl ⟨⟨_, rfl, hO3.weaken hE.b.size⟩, (hE.mono hb3).b⟩
end Go.Proofs.YtekomjnjddhfmaaGreat
namespace Go.Proofs
open Go.Shelf
def Tryz.sortE_ren : Go.Shelf.Ren := ⟨fun | 6 => 121 | 15 => 138 | 14 => 137 | 28 => 151 | 29 => 152 | 20 => 143 | 21 => 144 | 22 => 145 | 23 => 146 | 24 => 147 | 25 => 148 | 26 => 149 | 27 => 150 | 46 => 163 | 47 => 164 | 48 => 165 | 49 => 166 | 50 => 167 | 57 => 172 | n => n, fun | 22 => 150 | 24 => 149 | 25 => 154 | 3 => 3 | 39 => 56 | 0 => 0 | 53 => 180 | 55 => 106 | 4 => 4 | 46 => 174 | 45 => 173 | 50 => 117 | 5 => 5 | 9 => 9 | 66 => 190 | 70 => 194 | 76 => 198 | 77 => 199 | n => n, fun | n => n⟩
theorem Tryz.sortE : Go.Proofs.SlLaysF0.n6 Tryz.prog Tryz.sortE_ren := {
  mixed := by kernel_rfl
  f6 := ⟨Tryz.f121.name, by decide, Tryz.func121.trans (congrArg some (by kernel_rfl))⟩
  f14 := ⟨Tryz.f137.name, by decide, Tryz.func137.trans (congrArg some (by kernel_rfl))⟩
  f15 := Tryz.func138.trans (congrArg some (by kernel_rfl))
  f20 := ⟨Tryz.f143.name, by decide, Tryz.func143.trans (congrArg some (by kernel_rfl))⟩
  f21 := ⟨Tryz.f144.name, by decide, Tryz.func144.trans (congrArg some (by kernel_rfl))⟩
  f22 := ⟨Tryz.f145.name, by decide, Tryz.func145.trans (congrArg some (by kernel_rfl))⟩
  f23 := ⟨Tryz.f146.name, by decide, Tryz.func146.trans (congrArg some (by kernel_rfl))⟩
  f24 := ⟨Tryz.f147.name, by decide, Tryz.func147.trans (congrArg some (by kernel_rfl))⟩
  f25 := ⟨Tryz.f148.name, by decide, Tryz.func148.trans (congrArg some (by kernel_rfl))⟩
  f26 := ⟨Tryz.f149.name, by decide, Tryz.func149.trans (congrArg some (by kernel_rfl))⟩
  f27 := ⟨Tryz.f150.name, by decide, Tryz.func150.trans (congrArg some (by kernel_rfl))⟩
  f28 := Tryz.func151.trans (congrArg some (by kernel_rfl))
  f29 := Tryz.func152.trans (congrArg some (by kernel_rfl))
  f46 := ⟨Tryz.f163.name, by decide, Tryz.func163.trans (congrArg some (by kernel_rfl))⟩
  f47 := Tryz.func164.trans (congrArg some (by kernel_rfl))
  f48 := Tryz.func165.trans (congrArg some (by kernel_rfl))
  f49 := ⟨Tryz.f166.name, by decide, Tryz.func166.trans (congrArg some (by kernel_rfl))⟩
  f50 := ⟨Tryz.f167.name, by decide, Tryz.func167.trans (congrArg some (by kernel_rfl))⟩
  f57 := ⟨Tryz.f172.name, by decide, Tryz.func172.trans (congrArg some (by kernel_rfl))⟩
  t0 := Tryz.underlying0
  a0 := Tryz.isAgg0
  z0 := Tryz.sizeOf0
  v0 := Tryz.zeroValue0
  t3 := Tryz.underlying3
  a3 := Tryz.isAgg3
  z3 := Tryz.sizeOf3
  v3 := Tryz.zeroValue3
  t4 := Tryz.underlying4
  a4 := Tryz.isAgg4
  z4 := Tryz.sizeOf4
  v4 := Tryz.zeroValue4
  t5 := Tryz.underlying5
  a5 := Tryz.isAgg5
  z5 := Tryz.sizeOf5
  v5 := Tryz.zeroValue5
  t9 := Tryz.underlying9
  a9 := Tryz.isAgg9
  z9 := Tryz.sizeOf9
  v9 := Tryz.zeroValue9
  t22 := Tryz.underlying150
  a22 := Tryz.isAgg150
  z22 := Tryz.sizeOf150
  v22 := Tryz.zeroValue150
  t25 := Tryz.underlying154
  a25 := Tryz.isAgg154
  z25 := Tryz.sizeOf154
  v25 := Tryz.zeroValue154
  t39 := Tryz.underlying56
  a39 := Tryz.isAgg56
  z39 := Tryz.sizeOf56
  v39 := Tryz.zeroValue56
  t45 := Tryz.underlying173
  a45 := Tryz.isAgg173
  z45 := Tryz.sizeOf173
  v45 := Tryz.zeroValue173
  t46 := Tryz.underlying174
  a46 := Tryz.isAgg174
  z46 := Tryz.sizeOf174
  v46 := Tryz.zeroValue174
  t50 := Tryz.underlying117
  a50 := Tryz.isAgg117
  z50 := Tryz.sizeOf117
  v50 := Tryz.zeroValue117
  t53 := Tryz.underlying180
  a53 := Tryz.isAgg180
  z53 := Tryz.sizeOf180
  v53 := Tryz.zeroValue180
  t55 := Tryz.underlying106
  a55 := Tryz.isAgg106
  z55 := Tryz.sizeOf106
  v55 := Tryz.zeroValue106
  t66 := Tryz.underlying190
  a66 := Tryz.isAgg190
  z66 := Tryz.sizeOf190
  v66 := Tryz.zeroValue190
  t70 := Tryz.underlying194
  a70 := Tryz.isAgg194
  z70 := Tryz.sizeOf194
  v70 := Tryz.zeroValue194
  t76 := Tryz.underlying198
  a76 := Tryz.isAgg198
  z76 := Tryz.sizeOf198
  v76 := Tryz.zeroValue198
  t77 := Tryz.underlying199
  a77 := Tryz.isAgg199
  z77 := Tryz.sizeOf199
  v77 := Tryz.zeroValue199 }
end Go.Proofs
namespace Go.Proofs.YtekomjnjddhfmaaGreat
open Go.RowKit Go.ChangeShapes Go.WideShapes Go.Maps

def kA (q : Fin 17) : Value := .int .i64 (q.val : Int)
def vI (n : Int) : Value := .int .i64 n
theorem wf64 {n : Int} (h : -9223372036854775808 ≤ n ∧ n ≤ 9223372036854775807) : (Lit.int .i64 n).wf = true := by
  simp only [Lit.wf, Bool.and_eq_true, decide_eq_true_eq]
  exact h
theorem keyA : KeyE Tryz.prog 3 kA := ⟨int_keyed Tryz.underlying3, fun q => ⟨_, keyOf_int_mk Tryz.underlying3 (wf64 (by have := q.isLt; omega))⟩, fun a b h => by
  simp only [kA, Value.int.injEq, true_and] at h
  exact Fin.ext (by omega)⟩
theorem zI (w : World) : (zeroValue 2).run Tryz.prog w = .ok (vI 0) w := by kernel_rfl
theorem post_d (x : Row) : PostOk x ↔ (0 ≤ x.acct ∧ x.acct ≤ 64 ∧ 0 ≤ x.asset ∧ x.asset ≤ 16) ∧ ¬ (1125899906842624 < x.free ∨ x.free < -1125899906842624) ∧ ¬ (1125899906842624 < x.held ∨ x.held < -1125899906842624) ∧ ¬ (x.acct = 0 ∧ x.held ≠ 0) := by
  unfold PostOk mostA; rw [there_iff]; omega
theorem sumA_near : ∀ (l : List Row) (a : Int), (∀ r ∈ l, PostOk r) → -2251799813685248 * l.length ≤ sumA l a ∧ sumA l a ≤ 2251799813685248 * l.length
  | [], a, _ => by simp [sumA]
  | r :: l, a, h => by
    have h1 := (post_d r).1 (h r (by simp))
    have h2 := sumA_near l a (fun x hx => h x (by simp [hx]))
    have e : sumA (r :: l) a = (if r.asset = a then r.free + r.held else 0) + sumA l a := by
      unfold sumA
      by_cases hr : r.asset = a <;> simp [hr]
    rw [e]
    simp only [List.length_cons]
    split <;> omega
def SumsM (m : List (Fin 17 × Int)) (l : List Row) : Prop := ∀ q : Fin 17, (getM m q).getD 0 = sumA l (q.val : Int)
theorem SumsM.put {m : List (Fin 17 × Int)} {l : List Row} {k : Nat} {r : Row} (h : SumsM m (l.take k)) (hx : l[k]? = some r) {q : Fin 17} (hq : r.asset = (q.val : Int)) : SumsM (putM m q ((getM m q).getD 0 + (r.free + r.held))) (l.take (k + 1)) := by
  intro p
  rw [getM_put, sumA_take hx]
  by_cases hp : p = q
  · subst hp; rw [if_pos rfl, if_pos hq, ← h p]; rfl
  · rw [if_neg hp, if_neg (fun e => hp (Fin.ext (by omega))), Int.add_zero]; exact h p
set_option maxRecDepth 20000 in
set_option maxHeartbeats 4000000 in
theorem asked_c {l : List Row} {m : Nat} {ad : Option Addr} {cap : Nat} {w : World} (hm : l.length = m) (HS : SlL w ad cap l) (hin : In64R l) : Calls Tryz.prog 119 #[.slice ad m cap] w fun e w' => e = .returned (.int .i64 (askedR l)) ∧ Below w.heap.size w w' := by
  subst hm
  have hE := Ext.refl w
  have hw := Below.refl w.heap.size w
  have hla := HS.le
  have hma := HS.max
  have HS0 := HS
  refine fn_enter 64 Tryz.func119 rfl rfl rfl ?_
  by_cases hbig : 64 < l.length
  · repeat' (first | (refine lw_pure rfl (pv_move rfl) ?_) | (refine lw_pure rfl (pv_assign rfl) ?_) | (refine is_cw ?_; first | (refine cw_seq ?_) | (refine cw_region ?_) | (refine is_cd ?_; refine cw_true rfl (by first | assumption | exact decide_eq_true (by omega) | exact dec_notT (by omega)) ?_) | (refine cw_ret ?_)) | (refine is_qw ?_; first | (with_reducible refine qw_then ?_) | (with_reducible refine qw_then_ret ?_)) | (refine lw_nil ?_) | ((refine is_bin ?_; first | (refine lw_pure rfl (pv_gtr rfl rfl) ?_))) | ((refine is_bi ?_; first | (refine lw_pure rfl (pv_lenl (tS rfl) rfl) ?_))))
    refine qw_ret1 rfl rfl ⟨ret_int ?_, (hE.mono hw).b⟩
    rw [askedR, if_pos hbig]
  repeat' (first | (refine lw_pure rfl (pv_move rfl) ?_) | (refine lw_pure rfl (pv_assign rfl) ?_) | (refine lw_makeMap kA vI rfl ?_; intro M wm hM HM hb; replace hw := grow_trans hw hb; clear hb) | (refine is_cw ?_; first | (refine cw_seq ?_) | (refine cw_region ?_) | (refine is_cd ?_; refine cw_false rfl (by first | assumption | exact decide_eq_false (by omega) | exact dec_notF (by omega)) ?_) | (refine cw_skip ?_) | (refine cw_block ?_)) | (refine is_qw ?_; first | (with_reducible refine qw_then ?_)) | (refine lw_nil ?_) | ((refine is_bin ?_; first | (refine lw_pure rfl (pv_gtr rfl rfl) ?_))) | ((refine is_bi ?_; first | (refine lw_pure rfl (pv_lenl (tS rfl) rfl) ?_))))
  refine cw_loop (σ := Nat × List (Fin 17 × Int)) (fun s => [(0, .slice ad l.length cap), (3, .map (some M)), (12, .slice ad l.length cap), (13, .int .i64 (l.length : Nat)), (14, .int .i64 (s.1 : Nat))]) (fun s wr => s.1 ≤ l.length ∧ Below w.heap.size w wr ∧ Mp kA vI wr M s.2 ∧ SumsM s.2 (l.take s.1) ∧ (∀ j, j < s.1 → ∀ r, l[j]? = some r → PostOk r)) (fun s => l.length - s.1) (0, []) (by repeat' (first | exact trivial | refine ⟨rfl, ?_⟩)) ⟨Nat.zero_le _, hw, HM, fun q => by simp [getM, sumA], by intro j hj; exact absurd hj (Nat.not_lt_zero _)⟩ ?_
  clear hw HM
  rintro ⟨k, m⟩ wr ⟨hk, hw, HM, hm, hn⟩
  replace hk : k ≤ l.length := hk
  replace hn : ∀ j, j < k → ∀ r, l[j]? = some r → PostOk r := hn
  replace hm : SumsM m (l.take k) := hm
  replace HM : Mp kA vI wr M m := HM
  by_cases hlt : k < l.length
  · have hxk : l[k]? = some l[k] := List.getElem?_eq_getElem hlt
    obtain ⟨ab, ao, rfl, -, -⟩ := HS0.at (by intro h; rw [h] at hlt; simp at hlt)
    have hrin := hin _ (List.getElem_mem hlt)
    have hnr : -2251799813685248 * 64 ≤ sumA (l.take k) l[k].asset ∧ sumA (l.take k) l[k].asset ≤ 2251799813685248 * 64 := by
      have h1 := sumA_near (l.take k) l[k].asset (fun x hx => by
        obtain ⟨j, hj⟩ := List.getElem?_of_mem hx
        have hjk : j < k := by have := (List.getElem?_eq_some_iff.1 hj).1; rw [List.length_take] at this; omega
        rw [List.getElem?_take, if_pos hjk] at hj
        exact hn j hjk x hj)
      have h2 : (l.take k).length ≤ 64 := by rw [List.length_take]; omega
      omega
    generalize l[k] = r at hxk hrin hnr
    have hF : ¬ PostOk r → (1 : Int) = askedR l := fun h => by
      rw [askedR, if_neg hbig, if_neg]; intro hA; exact h (hA.1 r (List.mem_of_getElem? hxk))
    replace hE := hE.mono hw; replace HS := HS.mono hw; clear hw; have hw := Below.refl wr.heap.size wr
    repeat' (first | (refine is_cw ?_; first | (refine cw_seq ?_) | (refine cw_region ?_) | (refine is_cd ?_; refine cw_true rfl (by first | assumption | exact decide_eq_true (by omega) | exact dec_notT (by omega)) ?_) | (refine cw_skip ?_) | (refine cw_block ?_)) | (refine is_qw ?_; first | (with_reducible refine qw_then ?_)) | (refine lw_nil ?_) | ((refine is_bin ?_; first | (refine lw_pure rfl (pv_lss rfl rfl) ?_))) | ((refine is_load ?_; first | (refine lw_pure rfl (pv_loada (tA rfl) rfl (by first | exact SlR.lda (HS.mono hw) hxk) (by rfl)) ?_))) | ((refine is_ia ?_; first | (refine lw_pure rfl (pv_ian (tS rfl) rfl rfl (by omega)) ?_))))
    refine lw_varN rfl (by first | exact tyv_29 | exact tyv_30 | exact tyv_33 | exact tyv_34 | exact tyv_36 | exact tyv_37 | exact tyv_38 | exact tyv_39 | exact tyv_40 | exact tyv_41 | exact tyv_43 | exact tyv_44 | exact tyv_45 | exact tyv_46 | exact tyv_73 | exact tyv_74 | exact tyv_80 | exact tyv_81 | exact tyv_107 | exact tyv_108 | exact tyv_123 | exact tyv_146 | exact tyv_147 | exact tyv_148 | exact tyv_149) rfl (tZ rfl) (fun _ => rfl) rfl rfl ?_; intro N5 wn hN5 HX hb; replace hN5 := Nat.le_trans hw.size hN5; replace hw := grow_trans hw hb; clear hb
    replace hE := hE.mono hw; replace HS := HS.mono hw; replace HM := HM.mono hw; clear hw; have hw := Below.refl wn.heap.size wn
    refine lw_nil ?_; (with_reducible refine qw_then ?_)
    refine cw_cut (σ := Unit) (fun _ => [(0, .slice (some ⟨ab, ao, none⟩) l.length cap), (3, .map (some M)), (5, .pointer (some ⟨N5, 0, none⟩)), (12, .slice (some ⟨ab, ao, none⟩) l.length cap), (13, .int .i64 (l.length : Nat)), (14, .int .i64 (k : Nat))]) (fun _ w' => Below wn.heap.size wn w' ∧ ((0 ≤ r.acct ∧ r.acct ≤ 64 ∧ 0 ≤ r.asset ∧ r.asset ≤ 16) ∧ ¬ (1125899906842624 < r.free ∨ r.free < -1125899906842624) ∧ ¬ (1125899906842624 < r.held ∨ r.held < -1125899906842624) ∧ ¬ (r.acct = 0 ∧ r.held ≠ 0))) ?_ ?_
    · repeat' (first | (refine lw_pure rfl (pv_move rfl) ?_) | (refine lw_pure rfl (pv_assign rfl) ?_) | (refine lw_call (f := 131) (by kernel_rfl) rfl rfl (may_pd _ _ _) ?_; rintro e w1 ⟨rfl, hb⟩; refine ⟨_, rfl, ?_⟩; replace hw := grow_trans hw hb; clear hb) | (refine lw_call (f := 136) (by kernel_rfl) rfl rfl (far_c _ _) ?_; rintro e w1 ⟨rfl, rfl⟩; refine ⟨_, rfl, ?_⟩) | (refine is_cw ?_; first | (refine cw_seq ?_) | (refine cw_region ?_) | (refine cw_true rfl rfl ?_) | (refine cw_false rfl rfl ?_) | (refine cw_skip ?_) | (refine cw_ret ?_)) | (refine is_qw ?_; first | (with_reducible refine qw_then ?_) | (with_reducible refine qw_then_ret ?_) | (with_reducible refine qw_in_ret ?_)) | (refine lw_nil ?_) | (refine is_guarded ?_; first | (refine lw_not rfl rfl rfl rfl ?_) | (refine lw_not_u rfl rfl rfl ?_) | (refine lw_on rfl rfl (by first | assumption | exact decide_eq_true (by omega) | exact decide_eq_false (by omega) | exact dec_notT (by omega) | exact dec_notF (by omega)) ?_) | (refine lw_not rfl rfl rfl (by first | assumption | exact decide_eq_true (by omega) | exact decide_eq_false (by omega) | exact dec_notT (by omega) | exact dec_notF (by omega)) ?_) | (refine lw_gs_t rfl rfl rfl (fun hc => ?_) (fun hc => ?_) <;> (first | replace hc := of_decide_eq_true hc | replace hc := of_decide_eq_false hc | replace hc := dec_nT hc | replace hc := dec_nF hc | skip) <;> (try (exfalso; omega))) | (refine lw_gs_f rfl rfl rfl (fun hc => ?_) (fun hc => ?_) <;> (first | replace hc := of_decide_eq_true hc | replace hc := of_decide_eq_false hc | replace hc := dec_nT hc | replace hc := dec_nF hc | skip) <;> (try (exfalso; omega)))) | ((refine is_bin ?_; first | (refine lw_pure rfl (pv_eql rfl rfl) ?_) | (refine lw_pure rfl (pv_neq rfl rfl) ?_))) | ((refine is_load ?_; first | (refine lw_pure rfl (pv_load (t1 rfl) rfl (by first | exact PT.ld0 (HX.mono hw) rfl | exact PT.ld (HX.mono hw) rfl)) ?_))) | ((refine is_fa ?_; first | (refine lw_pure rfl (pv_fa (tF rfl) rfl) ?_))) | ((refine is_un ?_; first | (refine lw_pure rfl (pv_not rfl) ?_))) | ((refine is_bd ?_; first | (refine lw_pure rfl (tyB_147 rfl rfl rfl) ?_))) | (refine is_pk ?_; refine lw_pure rfl (pv_pick_t rfl rfl rfl) ?_) | (refine is_pk ?_; refine lw_pure rfl (pv_pick_t rfl (by first | assumption | exact decide_eq_true (by omega) | exact dec_notT (by omega)) rfl) ?_) | (refine is_pk ?_; refine lw_pure rfl (pv_pick_f rfl (by first | assumption | exact decide_eq_false (by omega) | exact dec_notF (by omega)) rfl) ?_) | (refine is_cw ?_; refine cw_split rfl (fun hc => ?_) (fun hc => ?_) <;> (first | replace hc := of_decide_eq_true hc | replace hc := of_decide_eq_false hc | replace hc := dec_nT hc | replace hc := dec_nF hc | skip) <;> (try (exfalso; omega))))
      all_goals first | (refine qw_join () (by repeat' (first | exact trivial | refine ⟨rfl, ?_⟩)) ⟨hw, ?_⟩; unfold mostA at *; omega) | (refine qw_ret1 rfl rfl ⟨ret_int (hF ?_), (hE.mono hw).b⟩; rw [post_d]; unfold mostA at *; omega)
    rintro - w1 ⟨hw, hc1⟩
    replace hE := hE.mono hw; replace HS := HS.mono hw; replace HM := HM.mono hw; replace HX := HX.mono hw; clear hw; have hw := Below.refl w1.heap.size w1
    obtain ⟨acct, asset, free, held⟩ := r
    dsimp only at hc1 hrin hnr
    obtain ⟨q, rfl⟩ : ∃ q : Fin 17, asset = (q.val : Int) := ⟨⟨asset.toNat, by omega⟩, by show asset = ((asset.toNat : Nat) : Int); omega⟩
    replace HX : PT w1 N5 123 [.int .i64 acct, .int .i64 (q.val : Int), .int .i64 free, .int .i64 held] := HX
    have hmq := hm q
    rw [← hmq] at hnr
    repeat' (first | (refine lw_pure rfl (pv_move rfl) ?_) | (refine lw_pure rfl (pv_lookupM (k := q) Tryz.underlying165 keyA zI rfl rfl (HM.mono hw)) ?_) | (refine is_cw ?_; first | (refine cw_region ?_)) | ((refine is_bin ?_; first | (refine lw_pure rfl (pv_add rfl rfl (by omega)) ?_))) | ((refine is_load ?_; first | (refine lw_pure rfl (pv_load (t1 rfl) rfl (by first | exact PT.ld0 (HX.mono hw) rfl | exact PT.ld (HX.mono hw) rfl)) ?_))) | ((refine is_fa ?_; first | (refine lw_pure rfl (pv_fa (tF rfl) rfl) ?_))))
    refine lw_updateM (k := q) (v := (getM m q).getD 0 + (free + held)) Tryz.underlying165 keyA rfl rfl rfl (HM.mono hw) ?_; intro w2 HM2 hg hz9
    replace hE := (hE.mono hw).grown hg (by intro q hq; injection hq with hq; omega)
    clear hg hz9 hw
    have hw := Below.refl w2.heap.size w2
    repeat' (first | (refine lw_pure rfl (pv_move rfl) ?_) | (refine is_cw ?_; first | (refine cw_region ?_)) | (refine is_qw ?_; first | (with_reducible refine qw_then ?_) | (with_reducible refine qw_in ?_)) | (refine lw_nil ?_) | ((refine is_bin ?_; first | (refine lw_pure rfl (pv_inc rfl rfl (by omega)) ?_))))
    refine qw_round (k + 1, _) (by repeat' (first | exact trivial | refine ⟨rfl, ?_⟩)) ⟨by show k + 1 ≤ _; omega, (hE.mono hw).b, HM2, hm.put hxk rfl, ?_⟩ (by show l.length - (k + 1) < l.length - k; omega)
    intro j hj x hx
    replace hj : j < k + 1 := hj
    by_cases hjk : j = k
    · subst hjk; rw [hxk] at hx; injection hx with hx; subst hx; exact (post_d _).2 hc1
    · exact hn j (by omega) x hx
  · have hkl : k = l.length := by omega
    subst hkl
    rw [List.take_length] at hm
    repeat' (first | (refine lw_pure rfl (pv_move rfl) ?_) | (refine is_cw ?_; first | (refine cw_seq ?_) | (refine cw_region ?_) | (refine is_cd ?_; refine cw_false rfl (by first | assumption | exact decide_eq_false (by omega) | exact dec_notF (by omega)) ?_) | (refine cw_exit ?_)) | (refine is_qw ?_; first | (with_reducible refine qw_then ?_) | (with_reducible refine qw_in_hit ?_) | (with_reducible refine qw_then_exit ?_)) | (refine lw_nil ?_) | ((refine is_bin ?_; first | (refine lw_pure rfl (pv_lss rfl rfl) ?_))))
    refine lw_rangeM Tryz.underlying165 rfl rfl HM ?_; intro I wi hI HI hb; replace hI := Nat.le_trans hw.size hI; replace hw := grow_trans hw hb; clear hb
    repeat' (first | (refine is_cw ?_; first | (refine cw_block ?_)) | (refine is_qw ?_; first | (with_reducible refine qw_then ?_)) | (refine lw_nil ?_))
    refine cw_loop (σ := List (Fin 17 × Int) × Option (Fin 17 × Int)) (fun s => [(57, .pointer (some ⟨I, 0, none⟩))]) (fun s wr => Below w.heap.size w wr ∧ It kA vI wr I M m s.1 s.2 ∧ ∀ e ∈ m, e ∈ s.1 ∨ e.2 = 0) (fun s => s.1.length) (m, none) (by repeat' (first | exact trivial | refine ⟨rfl, ?_⟩)) ⟨hw, HI, fun e he => Or.inl he⟩ ?_
    clear hw HI HM
    rintro ⟨rest, cur⟩ wr ⟨hw, HI, hz⟩
    replace HI : It kA vI wr I M m rest cur := HI
    replace hz : ∀ e ∈ m, e ∈ rest ∨ e.2 = 0 := hz
    have hnd := HI.mp.nodup
    repeat' (first | (refine is_cw ?_; first | (refine cw_seq ?_) | (refine cw_region ?_)))
    refine lw_nextM rfl rfl HI (fun hr => ?_) (fun q v rest' w2 hp HI2 hg hz9 => ?_)
    · subst hr
      repeat' (first | (refine lw_pure rfl (pv_assign rfl) ?_) | (refine is_cw ?_; first | (refine cw_seq ?_) | (refine cw_region ?_) | (refine cw_false rfl rfl ?_) | (refine cw_exit ?_) | (refine cw_ret ?_)) | (refine is_qw ?_; first | (with_reducible refine qw_then ?_) | (with_reducible refine qw_in_hit ?_) | (with_reducible refine qw_then_exit ?_)) | (refine lw_nil ?_) | (refine lw_pure rfl (pv_extract rfl rfl) ?_))
      refine qw_ret1 rfl rfl ⟨ret_int ?_, hw⟩
      rw [askedR, if_neg hbig, if_pos]
      refine ⟨mem_of_all hn, fun a ha => ?_⟩
      rw [List.mem_range] at ha
      have h1 := hm ⟨a, ha⟩
      cases hg : getM m (⟨a, ha⟩ : Fin 17) with
      | none => rw [hg] at h1; exact h1.symm
      | some v =>
        rw [hg] at h1
        rcases hz _ (getM_mem hg) with h2 | h2
        · cases h2
        · rw [← show v = 0 from h2]; exact h1.symm
    · have hE2 := (Ext.mk hw).grown hg (by intro q hq; injection hq with hq; omega)
      replace hw := hE2.b
      have hmem : (q, v) ∈ m := by
        obtain ⟨es, clk, seen, c0, _, hm2, _, _, hr2, _⟩ := HI
        have : (q, v) ∈ rest := hp.mem_iff.2 (by simp)
        rw [← hr2] at this
        obtain ⟨e, he, h3⟩ := List.mem_map.1 this
        rw [← hm2]; exact List.mem_map.2 ⟨e, (List.mem_filter.1 he).1, h3⟩
      by_cases hv : v = 0
      · subst hv
        repeat' (first | (refine lw_pure rfl (pv_move rfl) ?_) | (refine lw_pure rfl (pv_assign rfl) ?_) | (refine lw_pure rfl (pv_entryM rfl HI2) ?_) | (refine is_cw ?_; first | (refine cw_seq ?_) | (refine cw_region ?_) | (refine cw_true rfl rfl ?_) | (refine cw_false rfl rfl ?_) | (refine cw_skip ?_) | (refine cw_block ?_)) | (refine is_qw ?_; first | (with_reducible refine qw_then ?_) | (with_reducible refine qw_in ?_)) | (refine lw_nil ?_) | ((refine is_bin ?_; first | (refine lw_pure rfl (pv_neq rfl rfl) ?_))) | (refine lw_pure rfl (pv_extract rfl rfl) ?_))
        refine qw_round (rest', some (q, 0)) (by repeat' (first | exact trivial | refine ⟨rfl, ?_⟩)) ⟨hw, HI2, fun e he => ?_⟩ (by show rest'.length < rest.length; rw [hp.length_eq]; simp)
        rcases hz e he with h2 | h2
        · rcases List.mem_cons.1 (hp.mem_iff.1 h2) with rfl | h3
          · exact Or.inr rfl
          · exact Or.inl h3
        · exact Or.inr h2
      · repeat' (first | (refine lw_pure rfl (pv_move rfl) ?_) | (refine lw_pure rfl (pv_assign rfl) ?_) | (refine lw_pure rfl (pv_entryM rfl HI2) ?_) | (refine is_cw ?_; first | (refine cw_seq ?_) | (refine cw_region ?_) | (refine cw_true rfl rfl ?_) | (refine is_cd ?_; refine cw_true rfl (by first | assumption | exact decide_eq_true (by omega) | exact dec_notT (by omega)) ?_) | (refine cw_skip ?_) | (refine cw_block ?_) | (refine cw_ret ?_)) | (refine is_qw ?_; first | (with_reducible refine qw_then ?_) | (with_reducible refine qw_then_ret ?_) | (with_reducible refine qw_in_ret ?_)) | (refine lw_nil ?_) | ((refine is_bin ?_; first | (refine lw_pure rfl (pv_neq rfl rfl) ?_))) | (refine lw_pure rfl (pv_extract rfl rfl) ?_))
        refine qw_ret1 rfl rfl ⟨ret_int ?_, hw⟩
        rw [askedR, if_neg hbig, if_neg]
        intro hA
        have h1 := hm q
        rw [(getM_some hnd).2 hmem] at h1
        exact hv (h1.trans (hA.2 q.val (by rw [List.mem_range]; exact q.isLt)))
end Go.Proofs.YtekomjnjddhfmaaGreat
namespace Go.Proofs.YtekomjnjddhfmaaGreat
open Go.RowKit

set_option maxRecDepth 20000 in
theorem compare_d (a s b t : Int) (w : World) : Calls Tryz.prog 123 #[.agg #[.int .i64 a, .int .i64 s], .agg #[.int .i64 b, .int .i64 t]] w fun e w' => e = .returned (.int .i64 (compI a s b t)) ∧ BelowD w w' := by
  have hE := BelowD.refl w
  refine fn_enter 17 Tryz.func123 rfl rfl rfl ?_
  refine cw_seq (cw_region ?_)
  refine lw_boxD rfl rfl rfl ?_; intro N1 wn hN1 HA hb
  replace hE := hE.trans hb
  refine lw_boxD rfl rfl rfl ?_; intro N2 wm hN2 HB hb2
  replace HA := HA.mono hb2.b
  replace hE := hE.trans hb2
  have hd := BelowD.refl wm
  have hw := hd.b
  repeat' (first | (refine lw_pure rfl (pv_assign rfl) ?_) | (refine is_cw ?_; first | (refine cw_seq ?_)) | (refine is_qw ?_; first | (with_reducible refine qw_then ?_)) | (refine lw_nil ?_))
  refine cw_drawn (fun w' => BelowD wm w') (by kernel_rfl) (by repeat (first | exact NoPanic.body | with_reducible refine NoPanic.then ?_ | with_reducible refine NoPanic.inBlock ?_)) (fun hNP => ?_)
  have hS := hd.drew
  (refine at0 0 rfl (fun w' hq => pv_fa (tF rfl) rfl) ?_)
  (refine at0 1 rfl (fun w' hq => pv_load (t1 rfl) rfl (by first | exact PT.ld0 (HA.mono hq.b) rfl | exact PT.ld (HA.mono hq.b) rfl | exact PT.ld0 (HB.mono hq.b) rfl | exact PT.ld (HB.mono hq.b) rfl)) ?_)
  (refine at0 2 rfl (fun w' hq => pv_fa (tF rfl) rfl) ?_)
  (refine at0 3 rfl (fun w' hq => pv_load (t1 rfl) rfl (by first | exact PT.ld0 (HA.mono hq.b) rfl | exact PT.ld (HA.mono hq.b) rfl | exact PT.ld0 (HB.mono hq.b) rfl | exact PT.ld (HB.mono hq.b) rfl)) ?_)
  (refine at0 5 rfl (fun w' hq => pv_fa (tF rfl) rfl) ?_)
  (refine at0 6 rfl (fun w' hq => pv_load (t1 rfl) rfl (by first | exact PT.ld0 (HA.mono hq.b) rfl | exact PT.ld (HA.mono hq.b) rfl | exact PT.ld0 (HB.mono hq.b) rfl | exact PT.ld (HB.mono hq.b) rfl)) ?_)
  (refine at0 7 rfl (fun w' hq => pv_fa (tF rfl) rfl) ?_)
  (refine at0 8 rfl (fun w' hq => pv_load (t1 rfl) rfl (by first | exact PT.ld0 (HA.mono hq.b) rfl | exact PT.ld (HA.mono hq.b) rfl | exact PT.ld0 (HB.mono hq.b) rfl | exact PT.ld (HB.mono hq.b) rfl)) ?_)
  refine aw_act 4 (by kernel_rfl) rfl rfl rfl ?_
  refine act_call (f := 140) (by kernel_rfl) rfl (cmp_c _ _ _) ?_; rintro e w1 ⟨rfl, rfl⟩; refine ⟨_, rfl, hS, fun hS => ?_⟩
  refine aw_act 9 (by kernel_rfl) rfl rfl rfl ?_
  refine act_call (f := 140) (by kernel_rfl) rfl (cmp_c _ _ _) ?_; rintro e w1 ⟨rfl, rfl⟩; refine ⟨_, rfl, hS, fun hS => ?_⟩
  refine aw_act 10 (by kernel_rfl) rfl rfl rfl ?_
  refine act_bsD (vs := [.int .i64 (cmpI a b), .int .i64 (cmpI s t)]) (cs := [.int .i64 (cmpI a b), .int .i64 (cmpI s t)]) elemN rfl rfl (by omega) (by omega) rfl (by simp [Value.cells]) rfl ?_; intro wb HC hb; refine ⟨hS.trans hb, fun hS => ?_⟩
  refine aw_act 11 (by kernel_rfl) rfl rfl rfl ?_
  refine act_call (f := 139) (by kernel_rfl) rfl (or_c _ _ _ _ HC) ?_; rintro e w1 ⟨rfl, rfl⟩; refine ⟨_, rfl, hS, fun hS => ?_⟩
  (refine at0 12 rfl (fun w' hq => pv_assign rfl) ?_)
  refine aw_done (by kernel_rfl) ?_
  replace hd := hS; have hw := hd.b; clear hS hNP
  repeat' (first | (refine is_cw ?_; first | (refine cw_ret ?_)) | (refine is_qw ?_; first | (with_reducible refine qw_then ?_)))
  exact qw_ret1 rfl rfl ⟨rfl, hE.trans hd⟩
set_option maxRecDepth 20000 in
theorem postF_d (x y : Row) (w : World) : Calls Tryz.prog 122 #[(.agg #[.int .i64 x.acct, .int .i64 x.asset, .int .i64 x.free, .int .i64 x.held]), (.agg #[.int .i64 y.acct, .int .i64 y.asset, .int .i64 y.free, .int .i64 y.held])] w fun e w' => e = .returned (.int .i64 (compI x.acct x.asset y.acct y.asset)) ∧ BelowD w w' := by
  have hE := BelowD.refl w
  refine fn_enter 10 Tryz.func122 rfl rfl rfl ?_
  refine cw_seq (cw_region ?_)
  refine lw_boxD rfl rfl (cs := [.int .i64 x.acct, .int .i64 x.asset, .int .i64 x.free, .int .i64 x.held]) rfl ?_; intro N1 wn hN1 HA hb
  replace hE := hE.trans hb
  refine lw_boxD rfl rfl (cs := [.int .i64 y.acct, .int .i64 y.asset, .int .i64 y.free, .int .i64 y.held]) rfl ?_; intro N2 wm hN2 HB hb2
  replace HA := HA.mono hb2.b
  replace hE := hE.trans hb2
  have hw := Below.refl wm.heap.size wm
  repeat' (first | (refine lw_pure rfl (pv_assign rfl) ?_) | (refine is_cw ?_; first | (refine cw_seq ?_) | (refine cw_region ?_)) | (refine is_qw ?_; first | (with_reducible refine qw_then ?_)) | (refine lw_nil ?_) | ((refine is_load ?_; first | (refine lw_pure rfl (pv_loadp (tA rfl) rfl (by first | exact PT.ldp (HA.mono hw) | exact PT.ldp (HB.mono hw)) (by first | (simp only [Nat.add_zero, List.drop_zero, List.take_succ_cons, List.take_zero]; rfl) | (simp only [Nat.zero_add, Nat.add_zero, List.drop_zero, List.drop_succ_cons, List.take_succ_cons, List.take_zero]; rfl) | (simp only [Nat.zero_add, List.drop_zero, List.drop_succ_cons, List.take_succ_cons, List.take_zero]; rfl)) rfl) ?_))) | ((refine is_fa ?_; first | (refine lw_pure rfl (pv_fa (tF rfl) rfl) ?_))))
  refine lw_call (f := 123) (by kernel_rfl) rfl rfl (compare_d x.acct x.asset y.acct y.asset _) ?_; rintro e w1 ⟨rfl, hb⟩; refine ⟨_, rfl, ?_⟩
  have hw := hb.b
  repeat' (first | (refine lw_pure rfl (pv_assign rfl) ?_) | (refine is_cw ?_; first | (refine cw_ret ?_)) | (refine is_qw ?_; first | (with_reducible refine qw_then ?_)) | (refine lw_nil ?_))
  exact qw_ret1 rfl rfl ⟨rfl, hE.trans hb⟩
end Go.Proofs.YtekomjnjddhfmaaGreat
namespace Go.Proofs.YtekomjnjddhfmaaGreat
open Go.RowKit Go.Sort
variable {α : Type}

theorem Own.heapK {enc : α → List Value} {k : Nat} {T : TypeId} {base : Nat} {w : World} {g cap : Nat} {xs : List α} (h : Own enc k T base w (.slice (some ⟨g, 0, none⟩) xs.length cap) xs) : ∃ cur, base ≤ g ∧ w.heap[g]? = some (.cells cur T (0, 0)) ∧ xs.length ≤ cap ∧ cap ≤ maxLen ∧ cur.size = cap * k ∧ cur.toList.take (xs.length * k) = xs.flatMap enc := by
  obtain ⟨h1, h2⟩ := h
  rcases h2 with ⟨h2, _⟩ | ⟨g', cap', cur, e1, hb, hg, hle, hmax, hsz, htk⟩
  · cases h2
  · injection e1 with e1 _ e3
    injection e1 with e1; injection e1 with e1
    subst e1; subst e3
    exact ⟨cur, hb, hg, hle, hmax, hsz, htk⟩
variable [Inhabited α]

theorem flatK_get (enc : α → List Value) (k : Nat) (hk : ∀ x, (enc x).length = k) (d : Array α) (t : Nat) (ht : t < d.size * k) : (d.toList.flatMap enc)[t]? = some (flatK enc k d)[t]! := by
  have k0 : 0 < k := by rcases Nat.eq_zero_or_pos k with h | h; · subst h; simp at ht
                        · exact h
  have hq : t / k < d.size := Nat.div_lt_of_lt_mul (by rwa [Nat.mul_comm])
  have hr : t % k < k := Nat.mod_lt _ k0
  have hx : d.toList[t / k]? = some d[t / k]! := by rw [getElem!_pos d (t / k) hq]; simp [hq]
  have hv : (enc d[t / k]!)[t % k]? = some (enc d[t / k]!)[t % k]! := by rw [getElem!_pos (enc d[t / k]!) (t % k) (by rw [hk]; exact hr)]; exact List.getElem?_eq_getElem _
  have := flat_get enc k hk d.toList (t / k) _ (t % k) _ hx hv
  rw [Nat.div_add_mod' t k] at this
  rw [get_flatK enc k d t ht]; exact this

theorem Own.holdsK {enc : α → List Value} {k : Nat} (hk : ∀ x, (enc x).length = k) {T : TypeId} {base : Nat} {w : World} {g cap : Nat} {d : Array α} (h : Own enc k T base w (.slice (some ⟨g, 0, none⟩) d.toList.length cap) d.toList) : HoldsK enc k w g 0 d := by
  obtain ⟨cur, _, hg, hle, _, hsz, htk⟩ := Own.heapK h
  intro t ht
  rw [size_flatK] at ht
  have hf := flatK_get enc k hk d t ht
  rw [← htk, List.getElem?_take, if_pos (by simpa using ht)] at hf
  refine ⟨?_, by simp [World.frozen?, hg]⟩
  rw [Nat.zero_add, cell_of_row w g t cur T (0, 0) hg]
  simpa using hf
theorem Own.sorted {enc : α → List Value} {k : Nat} (hk : ∀ x, (enc x).length = k) {T : TypeId} {base : Nat} {w : World} {g cap : Nat} {xs : List α} (h : Own enc k T base w (.slice (some ⟨g, 0, none⟩) xs.length cap) xs) (d' : Array α) (hd : d'.size = xs.length) (n : Nat) (os : Array Obj) :
    Own enc k T base (sortWorldK enc k w g 0 n d' os) (.slice (some ⟨g, 0, none⟩) xs.length cap) d'.toList ∧ w.grownBy (sortWorldK enc k w g 0 n d' os) (some g) := by
  obtain ⟨cur, hb, hg, hle, hmax, hsz, htk⟩ := Own.heapK h
  have hgl : g < w.heap.size := (Array.getElem?_eq_some_iff.1 hg).1
  have hm := Nat.mul_le_mul_right k hle
  have e : (sortWorldK enc k w g 0 n d' os).heap = (w.heap.modify g (onCells (putCells id 0 (flatK enc k d')))) ++ os := rfl
  refine ⟨⟨by rw [flat_len enc k hk], Or.inr ⟨g, cap, putCells id 0 (flatK enc k d') cur, by simp [hd], hb, ?_, by simpa [hd] using hle, hmax, by simp [putCells, hsz], ?_⟩⟩, ⟨rfl, rfl, rfl, ?_, fun q hq hne => ?_⟩⟩
  · rw [e, Array.getElem?_append_left (by simpa using hgl), Array.getElem?_modify, if_pos rfl, hg]; rfl
  · refine List.ext_getElem? fun t => ?_
    rw [List.getElem?_take]
    by_cases ht : t < d'.toList.length * k
    · rw [if_pos ht]
      have ht' : t < d'.size * k := by simpa using ht
      have htc : t < cur.size := by rw [hsz]; rw [hd] at ht'; omega
      rw [flatK_get enc k hk d' t ht']
      simp only [putCells, Array.toList_mapIdx, List.getElem?_mapIdx, Array.getElem?_toList, Array.getElem?_eq_getElem htc, Option.map_some, size_flatK, Nat.zero_le, true_and, Nat.zero_add, Nat.sub_zero, id]
      rw [if_pos ht']
    · rw [if_neg ht, List.getElem?_eq_none (by rw [flat_len enc k hk]; omega)]
  · rw [e]; simp
  · rw [e, Array.getElem?_append_left (by simpa using hq), Array.getElem?_modify, if_neg (fun h => hne (by rw [h]))]
theorem perm_of {d d' : Array α} (h : PermIn 0 d.size d d') : d'.toList.Perm d.toList ∧ d'.size = d.size := by
  obtain ⟨hsz, _, hp⟩ := h
  have e1 : d'.extract 0 d.size = d' := by rw [← hsz]; exact Array.extract_size
  rw [e1, Array.extract_size] at hp
  exact ⟨hp, hsz⟩
theorem sortedList_of {lt : α → α → Bool} {d' : Array α} {n : Nat} (hn : d'.size = n) (h : SortedIn lt 0 n d') : d'.toList.Pairwise (fun x y => lt y x = false) := by
  rw [List.pairwise_iff_getElem]
  intro i j hi hj hij
  have hi' : i < d'.size := by simpa using hi
  have hj' : j < d'.size := by simpa using hj
  have := h i j (Nat.zero_le _) hij (by omega)
  rw [getElem!_pos d' j hj', getElem!_pos d' i hi'] at this
  simpa using this
end Go.Proofs.YtekomjnjddhfmaaGreat
namespace Go.Proofs.YtekomjnjddhfmaaGreat
open Go.RowKit Go.Sort

def compR (x y : Row) : Int := compI x.acct x.asset y.acct y.asset
theorem compR_lt {x y : Row} : ltOf compR x y = true ↔ keyLt x y := by
  unfold ltOf compR keyLt; rw [decide_eq_true_eq, compI_lt]
theorem compR_not {x y : Row} : ltOf compR x y = false ↔ ¬ keyLt x y := by rw [← compR_lt]; simp
theorem compR_swo : SWO (ltOf compR) where
  irrefl x := by rw [compR_not]; exact keyLt_irr x
  trans x y z h1 h2 := by rw [compR_lt] at *; exact keyLt_trans h1 h2
  ntrans x y z h1 h2 := by rw [compR_not] at *; unfold keyLt at *; omega
theorem sorted_rows {ys zs : List Row} (hp : zs.Perm ys) (hs : zs.Pairwise fun x y => ltOf compR y x = false) (hn : (ys.map fun r => (r.acct, r.asset)).Nodup) : zs.Pairwise keyLt := by
  have hn' : (zs.map fun r => (r.acct, r.asset)).Nodup := ((hp.map _).nodup_iff).2 hn
  rw [List.nodup_iff_pairwise_ne, List.pairwise_map] at hn'
  refine (hs.and hn').imp fun {x y} ⟨h1, h2⟩ => ?_
  rw [compR_not] at h1
  unfold keyLt at *
  have : ¬ (x.acct = y.acct ∧ x.asset = y.asset) := fun ⟨e1, e2⟩ => h2 (by rw [e1, e2])
  omega
set_option maxHeartbeats 1000000 in
theorem sort_E (base g cap : Nat) (ys : List Row) (w : World) (hown : OwnL 149 base w (.slice (some ⟨g, 0, none⟩) ys.length cap) ys) (hlen : ys.length ≤ 1000000) (hn : (ys.map fun r => (r.acct, r.asset)).Nodup) :
    Calls Tryz.prog 121 #[.slice (some ⟨g, 0, none⟩) ys.length cap, .func (.func 122) #[] #[]] w fun e w' =>
      e = .returned (.tuple #[]) ∧ (∃ zs, zs.Perm ys ∧ zs.Pairwise keyLt ∧ OwnL 149 base w' (.slice (some ⟨g, 0, none⟩) ys.length cap) zs) ∧ w.grownBy w' (some g) := by
  have hbg : base ≤ g := (Own.lt hown g rfl).1
  have hgl : g < w.heap.size := (Own.lt hown g rfl).2
  have hown' : Own encR 4 149 base w (.slice (some ⟨g, 0, none⟩) ys.toArray.toList.length cap) ys.toArray.toList := by simpa using hown
  have eg : ∀ args w, (callFunc 122 args).run Tryz.prog w = .ok (.enter 122 args) w := Go.Proofs.enters_of Tryz.func122 (by kernel_rfl) rfl
  have hcmp : Go.Proofs.CmpLays Tryz.prog 122 #[] encR 4 compR g 0 ys.toArray.size w := fun m os dk _ x y => by
    exact (postF_d x y (sortWorldK encR 4 w g 0 m dk os)).mono fun e w' ⟨he, hb⟩ => ⟨he, grown_of hb.b hb.d⟩
  have hcon := Go.Proofs.AnyQ.slices_SortFunc Tryz.sortE 4 Tryz.isAgg149 Tryz.sizeOf149 encR (fun x => encR_len _) (fun x => encR_one _) compR compR_swo 122 #[] g 0 cap ys.toArray w eg hcmp (Own.holdsK (fun x => encR_len _) hown') hgl (by simp; omega)
  refine Calls.mono (R := _) hcon ?_
  rintro e w' ⟨he, d', n, os, hperm, hsort, rfl⟩
  obtain ⟨hp1, hsz⟩ := perm_of hperm
  have hso := sortedList_of hsz hsort
  have hsz' : d'.size = ys.length := by simpa using hsz
  have hp2 : d'.toList.Perm ys := by simpa using hp1
  obtain ⟨q1, q2⟩ := Own.sorted (enc := encR) (fun x => encR_len _) hown d' hsz' n os
  exact ⟨he, ⟨d'.toList, hp2, sorted_rows hp2 hso hn, q1⟩, q2⟩
end Go.Proofs.YtekomjnjddhfmaaGreat
namespace Go.Proofs.YtekomjnjddhfmaaGreat

abbrev Pl := Fin 65 × Fin 17
def keyRow (k : Pl) (r : Row) : Prop := r.acct = (k.1.val : Int) ∧ r.asset = (k.2.val : Int)
def AtM (m : List (Pl × Row)) (f g : Int → Int → Int) : Prop := ∀ k : Pl, ((getM m k).getD ⟨0, 0, 0, 0⟩).free = f k.1.val k.2.val ∧ ((getM m k).getD ⟨0, 0, 0, 0⟩).held = g k.1.val k.2.val ∧ ∀ r, getM m k = some r → keyRow k r
theorem AtM.put {m : List (Pl × Row)} {f g f' g' : Int → Int → Int} (h : AtM m f g) {k : Pl} {r : Row} (hk : keyRow k r) (h1 : ∀ q : Pl, f' q.1.val q.2.val = if q = k then r.free else f q.1.val q.2.val) (h2 : ∀ q : Pl, g' q.1.val q.2.val = if q = k then r.held else g q.1.val q.2.val) : AtM (putM m k r) f' g' := by
  intro q
  rw [getM_put, h1 q, h2 q]
  by_cases hq : q = k
  · subst hq; rw [if_pos rfl, if_pos rfl, if_pos rfl]; exact ⟨rfl, rfl, fun r' e => by injection e with e; subst e; exact hk⟩
  · rw [if_neg hq, if_neg hq, if_neg hq]; exact h q
theorem freeAt_take {l : List Row} {k : Nat} {r : Row} (h : l[k]? = some r) (a s : Int) : freeAt (l.take (k + 1)) a s = freeAt (l.take k) a s + if r.acct = a ∧ r.asset = s then r.free else 0 := by
  unfold freeAt; rw [List.take_add_one, h]
  by_cases h1 : r.acct = a <;> by_cases h2 : r.asset = s <;> simp [List.filter_append, isKey, h1, h2]
theorem heldAt_take {l : List Row} {k : Nat} {r : Row} (h : l[k]? = some r) (a s : Int) : heldAt (l.take (k + 1)) a s = heldAt (l.take k) a s + if r.acct = a ∧ r.asset = s then r.held else 0 := by
  unfold heldAt; rw [List.take_add_one, h]
  by_cases h1 : r.acct = a <;> by_cases h2 : r.asset = s <;> simp [List.filter_append, isKey, h1, h2]
theorem pl_of {r : Row} (h : there r.acct r.asset = true) : ∃ k : Pl, keyRow k r := by
  rw [there_iff] at h
  exact ⟨(⟨r.acct.toNat, by omega⟩, ⟨r.asset.toNat, by omega⟩), by show r.acct = ((r.acct.toNat : Nat) : Int); omega, by show r.asset = ((r.asset.toNat : Nat) : Int); omega⟩
theorem keyRow_eq {k q : Pl} {r : Row} (hk : keyRow k r) : (q = k) ↔ (r.acct = (q.1.val : Int) ∧ r.asset = (q.2.val : Int)) := by
  constructor
  · rintro rfl; exact hk
  · intro h
    obtain ⟨h1, h2⟩ := hk
    exact Prod.ext (Fin.ext (by omega)) (Fin.ext (by omega))
theorem AtM.old {m : List (Pl × Row)} {l : List Row} (hp : l.Pairwise keyLt) {j : Nat} {r : Row} (h : AtM m (freeAt (l.take j)) (heldAt (l.take j))) (hx : l[j]? = some r) {k : Pl} (hk : keyRow k r) : AtM (putM m k r) (freeAt (l.take (j + 1))) (heldAt (l.take (j + 1))) := by
  have hz : freeAt (l.take j) r.acct r.asset = 0 ∧ heldAt (l.take j) r.acct r.asset = 0 := freeAt_none fun x hxm he => by
    obtain ⟨i, hi⟩ := List.getElem?_of_mem hxm
    have hij : i < j := by have := (List.getElem?_eq_some_iff.1 hi).1; rw [List.length_take] at this; omega
    rw [List.getElem?_take, if_pos hij] at hi
    have := pw_get hp hij hi hx
    unfold keyLt at this; omega
  refine h.put hk (fun q => ?_) (fun q => ?_)
  · rw [freeAt_take hx]
    by_cases hq : q = k
    · have := (keyRow_eq hk).1 hq
      rw [if_pos this, if_pos hq, ← this.1, ← this.2, hz.1, Int.zero_add]
    · rw [if_neg (fun e => hq ((keyRow_eq hk).2 e)), if_neg hq, Int.add_zero]
  · rw [heldAt_take hx]
    by_cases hq : q = k
    · have := (keyRow_eq hk).1 hq
      rw [if_pos this, if_pos hq, ← this.1, ← this.2, hz.2, Int.zero_add]
    · rw [if_neg (fun e => hq ((keyRow_eq hk).2 e)), if_neg hq, Int.add_zero]
theorem AtM.new {m : List (Pl × Row)} {l p : List Row} {j : Nat} {x : Row} (h : AtM m (fun a s => freeAt l a s + freeAt (p.take j) a s) (fun a s => heldAt l a s + heldAt (p.take j) a s)) (hx : p[j]? = some x) {k : Pl} (hk : keyRow k x) :
    AtM (putM m k ⟨x.acct, x.asset, ((getM m k).getD ⟨0, 0, 0, 0⟩).free + x.free, ((getM m k).getD ⟨0, 0, 0, 0⟩).held + x.held⟩) (fun a s => freeAt l a s + freeAt (p.take (j + 1)) a s) (fun a s => heldAt l a s + heldAt (p.take (j + 1)) a s) := by
  refine h.put hk (fun q => ?_) (fun q => ?_)
  · dsimp only
    rw [freeAt_take hx]
    by_cases hq : q = k
    · rw [if_pos ((keyRow_eq hk).1 hq), if_pos hq]; subst hq; rw [(h q).1]; dsimp only; omega
    · rw [if_neg (fun e => hq ((keyRow_eq hk).2 e)), if_neg hq]; omega
  · dsimp only
    rw [heldAt_take hx]
    by_cases hq : q = k
    · rw [if_pos ((keyRow_eq hk).1 hq), if_pos hq]; subst hq; rw [(h q).2.1]; dsimp only; omega
    · rw [if_neg (fun e => hq ((keyRow_eq hk).2 e)), if_neg hq]; omega
def nzB (r : Row) : Bool := !(decide (r.free = 0) && decide (r.held = 0))
theorem nzB_iff {r : Row} : nzB r = true ↔ (r.free ≠ 0 ∨ r.held ≠ 0) := by
  unfold nzB; by_cases h1 : r.free = 0 <;> by_cases h2 : r.held = 0 <;> simp [h1, h2]
theorem AtM.mem {m : List (Pl × Row)} {f g : Int → Int → Int} (hn : (m.map (·.1)).Nodup) (h : AtM m f g) {r : Row} (hz : r.free ≠ 0 ∨ r.held ≠ 0) : r ∈ m.map (·.2) ↔ (there r.acct r.asset = true ∧ f r.acct r.asset = r.free ∧ g r.acct r.asset = r.held) := by
  constructor
  · intro hm
    obtain ⟨⟨k, r'⟩, h1, rfl⟩ := List.mem_map.1 hm
    have h2 := (getM_some hn).2 h1
    obtain ⟨h3, h4, h5⟩ := h k
    obtain ⟨h6, h7⟩ := h5 _ h2
    rw [h2] at h3 h4
    dsimp only at h6 h7 hz ⊢
    rw [h6, h7]
    refine ⟨there_iff.2 ?_, h3.symm, h4.symm⟩
    have := k.1.isLt; have := k.2.isLt; omega
  · rintro ⟨h1, h2, h3⟩
    obtain ⟨k, hk⟩ := pl_of h1
    obtain ⟨h4, h5, h6⟩ := h k
    rw [← hk.1, ← hk.2] at h4 h5
    cases hg : getM m k with
    | none => rw [hg] at h4 h5; simp at h4 h5; omega
    | some r' =>
      rw [hg] at h4 h5
      have h7 := h6 _ hg
      have : r' = r := by
        obtain ⟨a, b, c, d⟩ := r'; obtain ⟨a', b', c', d'⟩ := r
        obtain ⟨e1, e2⟩ := h7; obtain ⟨e3, e4⟩ := hk
        simp only [Option.getD_some] at h4 h5
        simp only [Row.mk.injEq] at *
        omega
      rw [← this]
      exact List.mem_map.2 ⟨_, getM_mem hg, rfl⟩
theorem AtM.rows {m : List (Pl × Row)} {f g : Int → Int → Int} (hn : (m.map (·.1)).Nodup) (h : AtM m f g) {zs : List Row} (hp : zs.Perm ((m.map (·.2)).filter nzB)) (hs : zs.Pairwise keyLt) : zs = rowsOf f g := by
  refine pw_eq hs (rowsOf_pw f g) fun r => ?_
  rw [hp.mem_iff, List.mem_filter, mem_rowsOf, nzB_iff]
  constructor
  · rintro ⟨h1, h2⟩
    obtain ⟨h3, h4, h5⟩ := (h.mem hn h2).1 h1
    exact ⟨h3, h2, h4, h5⟩
  · rintro ⟨h1, h2, h3, h4⟩
    exact ⟨(h.mem hn h2).2 ⟨h1, h3, h4⟩, h2⟩
theorem AtM.keys {m : List (Pl × Row)} {f g : Int → Int → Int} (hn : (m.map (·.1)).Nodup) (h : AtM m f g) : (((m.map (·.2)).filter nzB).map fun r => (r.acct, r.asset)).Nodup := by
  have h1 : ((m.map (·.2)).map fun r => (r.acct, r.asset)).Nodup := by
    have e : (m.map (·.2)).map (fun r => (r.acct, r.asset)) = (m.map (·.1)).map fun k : Pl => ((k.1.val : Int), (k.2.val : Int)) := by
      rw [List.map_map, List.map_map]
      refine List.map_congr_left fun ⟨k, r⟩ he => ?_
      have h2 := (h k).2.2 r ((getM_some hn).2 he)
      simp [h2.1, h2.2]
    rw [e, List.nodup_iff_pairwise_ne, List.pairwise_map]
    rw [List.nodup_iff_pairwise_ne] at hn
    refine hn.imp fun {a b} hab e => hab ?_
    simp only [Prod.mk.injEq] at e
    exact Prod.ext (Fin.ext (by omega)) (Fin.ext (by omega))
  exact h1.sublist (List.filter_sublist.map _)
def worstOf (ps : List Row) : Int := if ps.any (fun r => decide (wrongR r = 47)) then 47 else if ps.any (fun r => decide (wrongR r = 41)) then 41 else 0
theorem wrongR_cases (r : Row) : wrongR r = 0 ∨ wrongR r = 41 ∨ wrongR r = 47 := by unfold wrongR; (repeat' split) <;> omega
theorem worstOf_snoc (ps : List Row) (r : Row) : worstOf (ps ++ [r]) = if wrongR r = 47 ∨ worstOf ps = 0 then wrongR r else worstOf ps := by
  unfold worstOf
  rcases wrongR_cases r with h | h | h <;> cases h1 : ps.any (fun r => decide (wrongR r = 47)) <;> cases h2 : ps.any (fun r => decide (wrongR r = 41)) <;> simp [List.any_append, h, h1, h2]
theorem worstOf_perm {ps qs : List Row} (h : ps.Perm qs) : worstOf ps = worstOf qs := by
  unfold worstOf
  rw [h.any_eq, h.any_eq]
def NearR (l : List Row) : Prop := ∀ r ∈ l, (-4503599627370496000 ≤ r.free ∧ r.free ≤ 4503599627370496000) ∧ (-4503599627370496000 ≤ r.held ∧ r.held ≤ 4503599627370496000)
theorem wrong_funds {r : Row} : wrongR r = 47 ↔ fundsB r = true := by
  unfold wrongR fundsB
  simp only [Bool.and_eq_true, bne_iff_ne, ne_eq, Bool.or_eq_true, decide_eq_true_eq]
  (repeat' split) <;> omega
theorem wrong_over {r : Row} (h : (-4503599627370496000 ≤ r.free ∧ r.free ≤ 4503599627370496000) ∧ (-4503599627370496000 ≤ r.held ∧ r.held ≤ 4503599627370496000)) (hf : fundsB r = false) : wrongR r = 41 ↔ overB r = true := by
  have hw : IntKind.i64.wrap (r.free + r.held) = r.free + r.held := IntWalk.i64_in _ (by omega)
  have hf' : ¬ (r.acct ≠ 0 ∧ (r.free < 0 ∨ r.held < 0)) := by
    intro h2
    rw [Bool.eq_false_iff] at hf
    exact hf (by unfold fundsB; simp only [Bool.and_eq_true, bne_iff_ne, ne_eq, Bool.or_eq_true, decide_eq_true_eq]; exact h2)
  unfold wrongR overB
  rw [hw]
  simp only [Bool.and_eq_true, bne_iff_ne, ne_eq, decide_eq_true_eq]
  unfold mostA
  (repeat' split) <;> omega
theorem worst_rows {m : List (Pl × Row)} {f g : Int → Int → Int} (hn : (m.map (·.1)).Nodup) (h : AtM m f g) (hN : NearR (m.map (·.2))) : worstOf (m.map (·.2)) = if (rowsOf f g).any fundsB then 47 else if (rowsOf f g).any overB then 41 else 0 := by
  have hin : ∀ r, wrongR r ≠ 0 → (r ∈ m.map (·.2) ↔ r ∈ rowsOf f g) := fun r hw => by
    have hz : r.free ≠ 0 ∨ r.held ≠ 0 := by
      rcases Classical.em (r.free = 0 ∧ r.held = 0) with ⟨h1, h2⟩ | h1
      · exfalso; apply hw; rw [wrongR_ok, h1, h2]; unfold mostA; omega
      · omega
    rw [h.mem hn hz, mem_rowsOf]
    exact ⟨fun ⟨a, b, c⟩ => ⟨a, hz, b, c⟩, fun ⟨a, _, b, c⟩ => ⟨a, b, c⟩⟩
  have h1 : (m.map (·.2)).any (fun r => decide (wrongR r = 47)) = (rowsOf f g).any fundsB := by
    rw [Bool.eq_iff_iff, List.any_eq_true, List.any_eq_true]
    constructor
    · rintro ⟨r, hr, hw⟩
      rw [decide_eq_true_eq] at hw
      exact ⟨r, (hin r (by omega)).1 hr, wrong_funds.1 hw⟩
    · rintro ⟨r, hr, hw⟩
      have := wrong_funds.2 hw
      exact ⟨r, (hin r (by omega)).2 hr, by rw [decide_eq_true_eq]; exact this⟩
  unfold worstOf
  rw [h1]
  cases hc : (rowsOf f g).any fundsB with
  | true => rfl
  | false =>
    have hfb : ∀ r ∈ rowsOf f g, fundsB r = false := fun r hr => by
      rw [List.any_eq_false] at hc
      simpa using hc r hr
    have h2 : (m.map (·.2)).any (fun r => decide (wrongR r = 41)) = (rowsOf f g).any overB := by
      rw [Bool.eq_iff_iff, List.any_eq_true, List.any_eq_true]
      constructor
      · rintro ⟨r, hr, hw⟩
        rw [decide_eq_true_eq] at hw
        have hr' := (hin r (by omega)).1 hr
        exact ⟨r, hr', (wrong_over (hN r hr) (hfb r hr')).1 hw⟩
      · rintro ⟨r, hr, hw⟩
        have hz := (mem_rowsOf.1 hr)
        have hr' : r ∈ m.map (·.2) := (h.mem hn hz.2.1).2 ⟨hz.1, hz.2.2.1, hz.2.2.2⟩
        exact ⟨r, hr', by rw [decide_eq_true_eq]; exact (wrong_over (hN r hr') (hfb r hr)).2 hw⟩
    rw [h2]
theorem may_nearAt {l : List Row} (h : MayR l) (a s : Int) : (-72057594037927936 ≤ freeAt l a s ∧ freeAt l a s ≤ 72057594037927936) ∧ (-72057594037927936 ≤ heldAt l a s ∧ heldAt l a s ≤ 72057594037927936) := by
  obtain ⟨h1, h2, _⟩ := may_ref.1 h
  by_cases hk : ∃ r ∈ l, r.acct = a ∧ r.asset = s
  · obtain ⟨r, hr, rfl, rfl⟩ := hk
    have h3 := freeAt_mem h2 hr
    have h4 := (h1 r hr).2.2
    have h5 := h.1 r hr
    have h6 := there_iff.1 h5.1
    obtain ⟨h7, h8⟩ := h4
    have h9 := h5.2.2.1
    have h10 := h5.2.2.2
    unfold mostA at *
    by_cases h0 : r.acct = 0
    · have := h9 h0; omega
    · have := h10 h0; omega
  · have := freeAt_none (l := l) (a := a) (s := s) fun r hr e => hk ⟨r, hr, e⟩
    omega
theorem post_nearAt : ∀ (p : List Row), (∀ x ∈ p, PostOk x) → ∀ a s, (-1125899906842624 * p.length ≤ freeAt p a s ∧ freeAt p a s ≤ 1125899906842624 * p.length) ∧ (-1125899906842624 * p.length ≤ heldAt p a s ∧ heldAt p a s ≤ 1125899906842624 * p.length)
  | [], _, a, s => by simp [freeAt, heldAt]
  | x :: p, h, a, s => by
    have h1 := (post_d x).1 (h x (by simp))
    have h2 := post_nearAt p (fun y hy => h y (by simp [hy])) a s
    have e : freeAt (x :: p) a s = freeAt [x] a s + freeAt p a s := freeAt_append [x] p a s
    have e' : heldAt (x :: p) a s = heldAt [x] a s + heldAt p a s := heldAt_append [x] p a s
    have e2 : freeAt [x] a s = (if isKey a s x then x.free else 0) := by unfold freeAt; cases hk : isKey a s x <;> simp [hk]
    have e3 : heldAt [x] a s = (if isKey a s x then x.held else 0) := by unfold heldAt; cases hk : isKey a s x <;> simp [hk]
    rw [e, e', e2, e3]
    simp only [List.length_cons]
    constructor <;> constructor <;> split <;> omega
end Go.Proofs.YtekomjnjddhfmaaGreat
namespace Go.Proofs.YtekomjnjddhfmaaGreat
open Go.RowKit Go.ChangeShapes Go.WideShapes Go.Maps

def kP (k : Pl) : Value := .agg #[.int .i64 (k.1.val : Int), .int .i64 (k.2.val : Int)]
def vE (r : Row) : Value := .agg (encR r).toArray
theorem keyLits_int {n : Nat} {a : Int} (wa : (Lit.int .i64 a).wf = true) : (Tryz.prog).keyLits (n + 1) 3 [.int .i64 a] = some [.int .i64 a] := by
  unfold Program.keyLits
  simp only [Tryz.underlying3]
  rw [if_pos ⟨trivial, wa⟩]
theorem cells_place : (Tryz.prog).cellsOf 147 = 2 := by kernel_rfl
theorem cells_int : (Tryz.prog).cellsOf 3 = 1 := by kernel_rfl
theorem keyLits_place {n : Nat} {a s : Int} (wa : (Lit.int .i64 a).wf = true) (ws : (Lit.int .i64 s).wf = true) : ∃ ls, (Tryz.prog).keyLits (n + 2) 147 [.int .i64 a, .int .i64 s] = some ls := by
  unfold Program.keyLits
  simp only [Tryz.underlying147, cells_place]
  rw [if_pos ⟨rfl, by simp⟩]
  simp [List.mapM_cons, cells_int, keyLits_int wa, keyLits_int ws]
theorem types_size : ∃ m, (Tryz.prog).types.size = m + 1 := ⟨((Tryz.prog).types.size - 1), by kernel_rfl⟩
theorem keyOf_place {a s : Int} (wa : (Lit.int .i64 a).wf = true) (ws : (Lit.int .i64 s).wf = true) : ∃ l, keyOf Tryz.prog 147 (.agg #[.int .i64 a, .int .i64 s]) = some l := by
  have h1 : (Tryz.prog).keyType 147 = true := by kernel_rfl
  have h2 : Value.formed Tryz.prog 147 (.agg #[.int .i64 a, .int .i64 s]) = true := by kernel_rfl
  obtain ⟨m, hm⟩ := types_size
  obtain ⟨ls, hls⟩ := keyLits_place (n := m) wa ws
  unfold keyOf
  simp only [Tryz.underlying147, h1, h2]
  rw [if_pos (show (true && true) = true from rfl), hm]
  show ∃ l, (((Tryz.prog).keyLits (m + 2) 147 [.int .i64 a, .int .i64 s]).map fun ls => Lit.string (keyBytes ls)) = some l
  rw [hls]
  exact ⟨_, rfl⟩
theorem keyP : KeyE Tryz.prog 147 kP := ⟨Keyed.of_law (deep_law_gate (by kernel_rfl) (of_decide_eq_true (by kernel_rfl)) (of_decide_eq_true (by kernel_rfl)) (by kernel_rfl) (by kernel_rfl)), fun k => keyOf_place (wf64 (by have := k.1.isLt; omega)) (wf64 (by have := k.2.isLt; omega)), fun a b h => by
  simp only [kP, Value.agg.injEq, Array.mk.injEq, List.cons.injEq, Value.int.injEq, true_and, and_true] at h
  exact Prod.ext (Fin.ext (by omega)) (Fin.ext (by omega))⟩
theorem zE (w : World) : (zeroValue 149).run Tryz.prog w = .ok (vE ⟨0, 0, 0, 0⟩) w := by kernel_rfl
theorem own_slice {α : Type} {enc : α → List Value} {k : Nat} {T : TypeId} {base : Nat} {w : World} {v : Value} {xs : List α} (h : Own enc k T base w v xs) : (v = .slice none 0 0 ∧ xs = []) ∨ ∃ g cap, v = .slice (some ⟨g, 0, none⟩) xs.length cap := by
  obtain ⟨_, h2⟩ := h
  rcases h2 with ⟨rfl, h0⟩ | ⟨g, cap, cur, rfl, _⟩
  · exact Or.inl ⟨rfl, List.eq_nil_of_length_eq_zero h0⟩
  · exact Or.inr ⟨g, cap, rfl⟩
theorem sort_v (base : Nat) (v : Value) (ys : List Row) (w : World) (hown : OwnL 149 base w v ys) (hlen : ys.length ≤ 1000000) (hn : (ys.map fun r => (r.acct, r.asset)).Nodup) :
    Calls Tryz.prog 121 #[v, .func (.func 122) #[] #[]] w fun e w' =>
      e = .returned (.tuple #[]) ∧ (∃ zs, zs.Perm ys ∧ zs.Pairwise keyLt ∧ OwnL 149 base w' v zs) ∧ w.grownBy w' v.ownBlock := by
  rcases own_slice hown with ⟨rfl, rfl⟩ | ⟨g, cap, rfl⟩
  · refine (Go.Proofs.AnyF.slices_SortFunc_none Tryz.sortE none 0 _ w).mono fun e w' ⟨he, hw⟩ => ?_
    subst hw
    exact ⟨he, ⟨[], List.Perm.refl _, List.Pairwise.nil, Own.nil _⟩, ⟨rfl, rfl, rfl, Nat.le_refl _, fun _ _ _ => rfl⟩⟩
  · exact sort_E base g cap ys w hown hlen hn
set_option maxRecDepth 20000 in
set_option maxHeartbeats 4000000 in
theorem post_c {l p : List Row} {m n : Nat} {ad bd : Option Addr} {cap dap : Nat} {w : World} (hm : l.length = m) (hn : p.length = n) (HS : SlL w ad cap l) (HT : SlL w bd dap p) (hin : In64R l) (hip : In64R p) : Calls Tryz.prog 95 #[.slice ad m cap, .slice bd n dap] w fun e w' => (∃ v, e = .returned (.tuple #[v, .int .i64 (postR l p).2]) ∧ OwnL 39 w.heap.size w' v (postR l p).1) ∧ Below w.heap.size w w' := by
  subst hm hn
  have hE := Ext.refl w
  have hw := Below.refl w.heap.size w
  have hla := HS.le
  have hma := HS.max
  have hlb := HT.le
  have hmb := HT.max
  have HS0 := HS
  have HT0 := HT
  refine fn_enter 135 Tryz.func95 rfl rfl rfl ?_
  repeat' (first | (refine lw_pure rfl (pv_move rfl) ?_) | (refine lw_pure rfl (pv_assign rfl) ?_) | (refine lw_call (f := 105) (by kernel_rfl) rfl rfl (may_c rfl HS hin) ?_; rintro e w1 ⟨rfl, hb⟩; refine ⟨_, rfl, ?_⟩; replace hw := grow_trans hw hb; clear hb) | (refine is_cw ?_; first | (refine cw_seq ?_) | (refine cw_region ?_)) | (refine is_qw ?_; first | (with_reducible refine qw_then ?_)) | (refine lw_nil ?_) | ((refine is_un ?_; first | (refine lw_pure rfl (pv_not rfl) ?_))))
  by_cases hM' : mayR l = false
  · have e : postR l p = ([], 4) := by simp [postR, hM']
    rw [e, hM']
    repeat' (first | (refine lw_pure rfl (pv_assign rfl) ?_) | (refine is_cw ?_; first | (refine cw_seq ?_) | (refine cw_region ?_) | (refine cw_true rfl rfl ?_) | (refine cw_ret ?_)) | (refine is_qw ?_; first | (with_reducible refine qw_then ?_) | (with_reducible refine qw_then_ret ?_)) | (refine lw_nil ?_))
    exact qw_ret2 rfl rfl rfl ⟨⟨_, rfl, Own.nil _⟩, (hE.mono hw).b⟩
  have hM : mayR l = true := by simpa using hM'
  rw [hM]
  repeat' (first | (refine lw_pure rfl (pv_move rfl) ?_) | (refine lw_pure rfl (pv_assign rfl) ?_) | (refine lw_call (f := 119) (by kernel_rfl) rfl rfl (asked_c rfl (HT.mono hw) hip) ?_; rintro e w1 ⟨rfl, hb⟩; refine ⟨_, rfl, ?_⟩; replace hw := grow_trans hw hb; clear hb) | (refine is_cw ?_; first | (refine cw_seq ?_) | (refine cw_region ?_) | (refine cw_false rfl rfl ?_) | (refine cw_skip ?_)) | (refine is_qw ?_; first | (with_reducible refine qw_then ?_)) | (refine lw_nil ?_) | ((refine is_bin ?_; first | (refine lw_pure rfl (pv_neq rfl rfl) ?_))))
  by_cases hA : ¬ askedR p = 0
  · have e : postR l p = ([], askedR p) := by simp [postR, hM, hA]
    rw [e]
    repeat' (first | (refine lw_pure rfl (pv_move rfl) ?_) | (refine lw_pure rfl (pv_assign rfl) ?_) | (refine is_cw ?_; first | (refine cw_seq ?_) | (refine cw_region ?_) | (refine is_cd ?_; refine cw_true rfl (by first | assumption | exact decide_eq_true (by omega) | exact dec_notT (by omega)) ?_) | (refine cw_ret ?_)) | (refine is_qw ?_; first | (with_reducible refine qw_then ?_) | (with_reducible refine qw_then_ret ?_)) | (refine lw_nil ?_))
    exact qw_ret2 rfl rfl rfl ⟨⟨_, rfl, Own.nil _⟩, (hE.mono hw).b⟩
  replace hA : askedR p = 0 := Classical.not_not.1 hA
  have hp : ∀ x ∈ p, PostOk x := by
    unfold askedR at hA
    split at hA
    · omega
    · split at hA
      · rename_i h; exact h.1
      · omega
  have hp64 : p.length ≤ 64 := by
    unfold askedR at hA
    split at hA
    · omega
    · omega
  rw [hA]
  have hMM := mayR_iff.1 hM
  repeat' (first | (refine lw_pure rfl (pv_move rfl) ?_) | (refine lw_pure rfl (pv_assign rfl) ?_) | (refine lw_makeMap kP vE rfl ?_; intro M wm hMs HM hb; replace hMs := Nat.le_trans hw.size hMs; replace hw := grow_trans hw hb; clear hb) | (refine is_cw ?_; first | (refine cw_seq ?_) | (refine cw_region ?_) | (refine cw_false rfl rfl ?_) | (refine cw_skip ?_) | (refine cw_block ?_)) | (refine is_qw ?_; first | (with_reducible refine qw_then ?_)) | (refine lw_nil ?_) | ((refine is_bi ?_; first | (refine lw_pure rfl (pv_lenl (tS rfl) rfl) ?_))))
  refine cw_loop (σ := Nat × List (Pl × Row)) (fun s => [(1, .slice bd p.length dap), (7, .map (some M)), (32, .slice ad l.length cap), (33, .int .i64 (l.length : Nat)), (34, .int .i64 (s.1 : Nat))]) (fun s wr => s.1 ≤ l.length ∧ Below w.heap.size w wr ∧ Mp kP vE wr M s.2 ∧ AtM s.2 (freeAt (l.take s.1)) (heldAt (l.take s.1))) (fun s => l.length - s.1) (0, []) (by repeat' (first | exact trivial | refine ⟨rfl, ?_⟩)) ⟨Nat.zero_le _, hw, HM, fun k => ⟨by simp [getM, freeAt], by simp [getM, heldAt], fun r h => by simp [getM] at h⟩⟩ ?_
  clear hw HM
  rintro ⟨k, m⟩ wr ⟨hk, hw, HM, hm⟩
  replace hk : k ≤ l.length := hk
  replace HM : Mp kP vE wr M m := HM
  replace hm : AtM m (freeAt (l.take k)) (heldAt (l.take k)) := hm
  by_cases hlt : k < l.length
  · have hxk : l[k]? = some l[k] := List.getElem?_eq_getElem hlt
    obtain ⟨ab, ao, rfl, -, -⟩ := HS0.at (by intro h; rw [h] at hlt; simp at hlt)
    have hok := hMM.1 _ (List.getElem_mem hlt)
    generalize l[k] = r at hxk hok
    have HS := HS0
    replace hE := hE.mono hw; replace HS := HS.mono hw; clear hw; have hw := Below.refl wr.heap.size wr
    repeat' (first | (refine is_cw ?_; first | (refine cw_seq ?_) | (refine cw_region ?_) | (refine is_cd ?_; refine cw_true rfl (by first | assumption | exact decide_eq_true (by omega) | exact dec_notT (by omega)) ?_) | (refine cw_skip ?_) | (refine cw_block ?_)) | (refine is_qw ?_; first | (with_reducible refine qw_then ?_)) | (refine lw_nil ?_) | ((refine is_bin ?_; first | (refine lw_pure rfl (pv_lss rfl rfl) ?_))) | ((refine is_load ?_; first | (refine lw_pure rfl (pv_loada (tA rfl) rfl (by first | exact SlR.lda (HS.mono hw) hxk) (by rfl)) ?_))) | ((refine is_ia ?_; first | (refine lw_pure rfl (pv_ian (tS rfl) rfl rfl (by omega)) ?_))))
    refine lw_varN rfl (by first | exact tyv_29 | exact tyv_30 | exact tyv_33 | exact tyv_34 | exact tyv_36 | exact tyv_37 | exact tyv_38 | exact tyv_39 | exact tyv_40 | exact tyv_41 | exact tyv_43 | exact tyv_44 | exact tyv_45 | exact tyv_46 | exact tyv_73 | exact tyv_74 | exact tyv_80 | exact tyv_81 | exact tyv_107 | exact tyv_108 | exact tyv_123 | exact tyv_146 | exact tyv_147 | exact tyv_148 | exact tyv_149) rfl (tZ rfl) (fun _ => rfl) rfl rfl ?_; intro N9 wn hN9 HX hb; replace hN9 := Nat.le_trans hw.size hN9; replace hw := grow_trans hw hb; clear hb
    replace hE := hE.mono hw; replace HS := HS.mono hw; replace HM := HM.mono hw; clear hw; have hw := Below.refl wn.heap.size wn
    obtain ⟨q, hq⟩ := pl_of hok.1
    have hqv : kP q = .agg #[.int .i64 r.acct, .int .i64 r.asset] := by rw [hq.1, hq.2]; rfl
    repeat' (first | (refine is_cw ?_; first | (refine cw_seq ?_) | (refine cw_region ?_)) | (refine is_qw ?_; first | (with_reducible refine qw_then ?_)) | (refine lw_nil ?_) | ((refine is_load ?_; first | (refine lw_pure rfl (pv_load (t1 rfl) rfl (by first | exact PT.ld0 (HX.mono hw) rfl | exact PT.ld (HX.mono hw) rfl)) ?_))) | ((refine is_fa ?_; first | (refine lw_pure rfl (pv_fa (tF rfl) rfl) ?_))) | ((refine is_bd ?_; first | (refine lw_pure rfl (tyB_147 rfl rfl rfl) ?_))))
    refine lw_varN rfl (by first | exact tyv_29 | exact tyv_30 | exact tyv_33 | exact tyv_34 | exact tyv_36 | exact tyv_37 | exact tyv_38 | exact tyv_39 | exact tyv_40 | exact tyv_41 | exact tyv_43 | exact tyv_44 | exact tyv_45 | exact tyv_46 | exact tyv_73 | exact tyv_74 | exact tyv_80 | exact tyv_81 | exact tyv_107 | exact tyv_108 | exact tyv_123 | exact tyv_146 | exact tyv_147 | exact tyv_148 | exact tyv_149) rfl (tZ rfl) (fun _ => rfl) rfl rfl ?_; intro N10 wn hN10 HY hb; replace hN10 := Nat.le_trans hw.size hN10; replace hw := grow_trans hw hb; clear hb
    replace hE := hE.mono hw; replace HS := HS.mono hw; replace HM := HM.mono hw; replace HX := HX.mono hw; clear hw; have hw := Below.refl wn.heap.size wn
    repeat' (first | (refine lw_pure rfl (pv_move rfl) ?_) | (refine is_cw ?_; first | (refine cw_region ?_)) | (refine is_qw ?_; first | (with_reducible refine qw_then ?_)) | (refine lw_nil ?_) | ((refine is_load ?_; first | (refine lw_pure rfl (pv_load (t1 rfl) rfl (by first | exact PT.ld0 (HX.mono hw) rfl | exact PT.ld (HX.mono hw) rfl | exact PT.ld0 (HY.mono hw) rfl | exact PT.ld (HY.mono hw) rfl)) ?_) | (refine lw_pure rfl (pv_loada (tA rfl) rfl (by first | exact PT.lda (HX.mono hw) | exact PT.lda (HY.mono hw)) (by rfl)) ?_))) | ((refine is_fa ?_; first | (refine lw_pure rfl (pv_fa (tF rfl) rfl) ?_))) | ((refine is_bd ?_; first | (refine lw_pure rfl (tyB_149 rfl rfl rfl) ?_))))
    refine lw_updateM (k := q) (v := r) Tryz.underlying145 keyP rfl (by rw [hqv]; rfl) rfl (HM.mono hw) ?_; intro w2 HM2 hg hz9
    replace hE := (hE.mono hw).grown hg (by intro q hq; injection hq with hq; omega)
    clear hg hz9 hw
    have hw := Below.refl w2.heap.size w2
    repeat' (first | (refine lw_pure rfl (pv_move rfl) ?_) | (refine is_cw ?_; first | (refine cw_region ?_)) | (refine is_qw ?_; first | (with_reducible refine qw_then ?_) | (with_reducible refine qw_in ?_)) | (refine lw_nil ?_) | ((refine is_bin ?_; first | (refine lw_pure rfl (pv_inc rfl rfl (by omega)) ?_))))
    exact qw_round (k + 1, _) (by repeat' (first | exact trivial | refine ⟨rfl, ?_⟩)) ⟨by show k + 1 ≤ _; omega, (hE.mono hw).b, HM2, hm.old hMM.2.1 hxk hq⟩ (by show l.length - (k + 1) < l.length - k; omega)
  have hkl : k = l.length := by omega
  subst hkl
  rw [List.take_length] at hm
  repeat' (first | (refine lw_pure rfl (pv_move rfl) ?_) | (refine is_cw ?_; first | (refine cw_seq ?_) | (refine cw_region ?_) | (refine is_cd ?_; refine cw_false rfl (by first | assumption | exact decide_eq_false (by omega) | exact dec_notF (by omega)) ?_) | (refine cw_block ?_) | (refine cw_exit ?_)) | (refine is_qw ?_; first | (with_reducible refine qw_then ?_) | (with_reducible refine qw_in_hit ?_) | (with_reducible refine qw_then_exit ?_)) | (refine lw_nil ?_) | ((refine is_bin ?_; first | (refine lw_pure rfl (pv_lss rfl rfl) ?_))) | ((refine is_bi ?_; first | (refine lw_pure rfl (pv_lenl (tS rfl) rfl) ?_))))
  refine cw_loop (σ := Nat × List (Pl × Row)) (fun s => [(7, .map (some M)), (52, .slice bd p.length dap), (53, .int .i64 (p.length : Nat)), (54, .int .i64 (s.1 : Nat))]) (fun s wr => s.1 ≤ p.length ∧ Below w.heap.size w wr ∧ Mp kP vE wr M s.2 ∧ AtM s.2 (fun a s' => freeAt l a s' + freeAt (p.take s.1) a s') (fun a s' => heldAt l a s' + heldAt (p.take s.1) a s')) (fun s => p.length - s.1) (0, m) (by repeat' (first | exact trivial | refine ⟨rfl, ?_⟩)) ⟨Nat.zero_le _, hw, HM, fun k => by have := hm k; simpa [freeAt, heldAt] using this⟩ ?_
  clear hw HM hm
  rintro ⟨k, m⟩ wr ⟨hk, hw, HM, hm⟩
  replace hk : k ≤ p.length := hk
  replace HM : Mp kP vE wr M m := HM
  replace hm : AtM m (fun a s' => freeAt l a s' + freeAt (p.take k) a s') (fun a s' => heldAt l a s' + heldAt (p.take k) a s') := hm
  have hnr : ∀ q : Pl, (-144115188075855872 ≤ ((getM m q).getD ⟨0, 0, 0, 0⟩).free ∧ ((getM m q).getD ⟨0, 0, 0, 0⟩).free ≤ 144115188075855872) ∧ (-144115188075855872 ≤ ((getM m q).getD ⟨0, 0, 0, 0⟩).held ∧ ((getM m q).getD ⟨0, 0, 0, 0⟩).held ≤ 144115188075855872) := fun q => by
    obtain ⟨h1, h2, _⟩ := hm q
    have h3 := may_nearAt hMM q.1.val q.2.val
    have h4 := post_nearAt (p.take k) (fun x hx => hp x (List.mem_of_mem_take hx)) q.1.val q.2.val
    have h5 : (p.take k).length ≤ 64 := by rw [List.length_take]; omega
    rw [h1, h2]
    dsimp only
    omega
  by_cases hlt : k < p.length
  · have hxk : p[k]? = some p[k] := List.getElem?_eq_getElem hlt
    obtain ⟨bb, bo, rfl, -, -⟩ := HT0.at (by intro h; rw [h] at hlt; simp at hlt)
    have hok := hp _ (List.getElem_mem hlt)
    have hok2 := (post_d _).1 hok
    generalize p[k] = x at hxk hok hok2
    have HT := HT0
    replace hE := hE.mono hw; replace HT := HT.mono hw; clear hw; have hw := Below.refl wr.heap.size wr
    repeat' (first | (refine is_cw ?_; first | (refine cw_seq ?_) | (refine cw_region ?_) | (refine is_cd ?_; refine cw_true rfl (by first | assumption | exact decide_eq_true (by omega) | exact dec_notT (by omega)) ?_) | (refine cw_skip ?_) | (refine cw_block ?_)) | (refine is_qw ?_; first | (with_reducible refine qw_then ?_)) | (refine lw_nil ?_) | ((refine is_bin ?_; first | (refine lw_pure rfl (pv_lss rfl rfl) ?_))) | ((refine is_load ?_; first | (refine lw_pure rfl (pv_loada (tA rfl) rfl (by first | exact SlR.lda (HT.mono hw) hxk) (by rfl)) ?_))) | ((refine is_ia ?_; first | (refine lw_pure rfl (pv_ian (tS rfl) rfl rfl (by omega)) ?_))))
    refine lw_varN rfl (by first | exact tyv_29 | exact tyv_30 | exact tyv_33 | exact tyv_34 | exact tyv_36 | exact tyv_37 | exact tyv_38 | exact tyv_39 | exact tyv_40 | exact tyv_41 | exact tyv_43 | exact tyv_44 | exact tyv_45 | exact tyv_46 | exact tyv_73 | exact tyv_74 | exact tyv_80 | exact tyv_81 | exact tyv_107 | exact tyv_108 | exact tyv_123 | exact tyv_146 | exact tyv_147 | exact tyv_148 | exact tyv_149) rfl (tZ rfl) (fun _ => rfl) rfl rfl ?_; intro N9 wn hN9 HX hb; replace hN9 := Nat.le_trans hw.size hN9; replace hw := grow_trans hw hb; clear hb
    replace hE := hE.mono hw; replace HM := HM.mono hw; clear hw; have hw := Below.refl wn.heap.size wn
    obtain ⟨q, hq⟩ := pl_of hok.1
    have hqv : kP q = .agg #[.int .i64 x.acct, .int .i64 x.asset] := by rw [hq.1, hq.2]; rfl
    have hnq := hnr q
    have hnew := hm.new hxk hq
    generalize ho : (getM m q).getD ⟨0, 0, 0, 0⟩ = old at hnq hnew
    repeat' (first | (refine is_cw ?_; first | (refine cw_seq ?_) | (refine cw_region ?_)) | (refine is_qw ?_; first | (with_reducible refine qw_then ?_)) | (refine lw_nil ?_) | ((refine is_load ?_; first | (refine lw_pure rfl (pv_load (t1 rfl) rfl (by first | exact PT.ld0 (HX.mono hw) rfl | exact PT.ld (HX.mono hw) rfl)) ?_))) | ((refine is_fa ?_; first | (refine lw_pure rfl (pv_fa (tF rfl) rfl) ?_))) | ((refine is_bd ?_; first | (refine lw_pure rfl (tyB_147 rfl rfl rfl) ?_))))
    refine lw_varN rfl (by first | exact tyv_29 | exact tyv_30 | exact tyv_33 | exact tyv_34 | exact tyv_36 | exact tyv_37 | exact tyv_38 | exact tyv_39 | exact tyv_40 | exact tyv_41 | exact tyv_43 | exact tyv_44 | exact tyv_45 | exact tyv_46 | exact tyv_73 | exact tyv_74 | exact tyv_80 | exact tyv_81 | exact tyv_107 | exact tyv_108 | exact tyv_123 | exact tyv_146 | exact tyv_147 | exact tyv_148 | exact tyv_149) rfl (tZ rfl) (fun _ => rfl) rfl rfl ?_; intro N10 wn hN10 HY hb; replace hN10 := Nat.le_trans hw.size hN10; replace hw := grow_trans hw hb; clear hb
    replace hE := hE.mono hw; replace HM := HM.mono hw; replace HX := HX.mono hw; clear hw; have hw := Below.refl wn.heap.size wn
    repeat' (first | (refine lw_pure rfl (pv_move rfl) ?_) | (refine is_cw ?_; first | (refine cw_seq ?_) | (refine cw_region ?_)) | (refine is_qw ?_; first | (with_reducible refine qw_then ?_)) | (refine lw_nil ?_) | ((refine is_load ?_; first | (refine lw_pure rfl (pv_loada (tA rfl) rfl (by first | exact PT.lda (HY.mono hw)) (by rfl)) ?_))))
    refine lw_pure rfl (pv_lookupM (k := q) Tryz.underlying145 keyP zE rfl (by rw [hqv]; rfl) (HM.mono hw)) ?_
    rw [ho]
    refine lw_varN rfl (by first | exact tyv_29 | exact tyv_30 | exact tyv_33 | exact tyv_34 | exact tyv_36 | exact tyv_37 | exact tyv_38 | exact tyv_39 | exact tyv_40 | exact tyv_41 | exact tyv_43 | exact tyv_44 | exact tyv_45 | exact tyv_46 | exact tyv_73 | exact tyv_74 | exact tyv_80 | exact tyv_81 | exact tyv_107 | exact tyv_108 | exact tyv_123 | exact tyv_146 | exact tyv_147 | exact tyv_148 | exact tyv_149) rfl (tZ rfl) (fun _ => rfl) rfl rfl ?_; intro N11 wn hN11 HZ hb; replace hN11 := Nat.le_trans hw.size hN11; replace hw := grow_trans hw hb; clear hb
    replace hE := hE.mono hw; replace HM := HM.mono hw; replace HX := HX.mono hw; replace HY := HY.mono hw; clear hw; have hw := Below.refl wn.heap.size wn
    repeat' (first | (refine lw_pure rfl (pv_move rfl) ?_) | (refine is_cw ?_; first | (refine cw_region ?_)) | (refine is_qw ?_; first | (with_reducible refine qw_then ?_)) | (refine lw_nil ?_) | ((refine is_bin ?_; first | (refine lw_pure rfl (pv_add rfl rfl (by omega)) ?_))) | ((refine is_load ?_; first | (refine lw_pure rfl (pv_load (t1 rfl) rfl (by first | exact PT.ld0 (HX.mono hw) rfl | exact PT.ld (HX.mono hw) rfl | exact PT.ld0 (HY.mono hw) rfl | exact PT.ld (HY.mono hw) rfl | exact PT.ld0 (HZ.mono hw) rfl | exact PT.ld (HZ.mono hw) rfl)) ?_) | (refine lw_pure rfl (pv_loada (tA rfl) rfl (by first | exact PT.lda (HX.mono hw) | exact PT.lda (HY.mono hw) | exact PT.lda (HZ.mono hw)) (by rfl)) ?_))) | ((refine is_fa ?_; first | (refine lw_pure rfl (pv_fa (tF rfl) rfl) ?_))) | ((refine is_bd ?_; first | (refine lw_pure rfl (tyB_149 rfl rfl rfl) ?_))))
    refine lw_updateM (k := q) (v := ⟨x.acct, x.asset, old.free + x.free, old.held + x.held⟩) Tryz.underlying145 keyP rfl (by rw [hqv]; rfl) rfl (HM.mono hw) ?_; intro w2 HM2 hg hz9
    replace hE := (hE.mono hw).grown hg (by intro q hq; injection hq with hq; omega)
    clear hg hz9 hw
    have hw := Below.refl w2.heap.size w2
    repeat' (first | (refine lw_pure rfl (pv_move rfl) ?_) | (refine is_cw ?_; first | (refine cw_region ?_)) | (refine is_qw ?_; first | (with_reducible refine qw_then ?_) | (with_reducible refine qw_in ?_)) | (refine lw_nil ?_) | ((refine is_bin ?_; first | (refine lw_pure rfl (pv_inc rfl rfl (by omega)) ?_))))
    exact qw_round (k + 1, _) (by repeat' (first | exact trivial | refine ⟨rfl, ?_⟩)) ⟨by show k + 1 ≤ _; omega, (hE.mono hw).b, HM2, hnew⟩ (by show p.length - (k + 1) < p.length - k; omega)
  have hkl : k = p.length := by omega
  subst hkl
  rw [List.take_length] at hm
  repeat' (first | (refine lw_pure rfl (pv_move rfl) ?_) | (refine lw_pure rfl (pv_assign rfl) ?_) | (refine is_cw ?_; first | (refine cw_seq ?_) | (refine cw_region ?_) | (refine is_cd ?_; refine cw_false rfl (by first | assumption | exact decide_eq_false (by omega) | exact dec_notF (by omega)) ?_) | (refine cw_exit ?_)) | (refine is_qw ?_; first | (with_reducible refine qw_then ?_) | (with_reducible refine qw_in_hit ?_) | (with_reducible refine qw_then_exit ?_)) | (refine lw_nil ?_) | ((refine is_bin ?_; first | (refine lw_pure rfl (pv_lss rfl rfl) ?_))))
  refine lw_rangeM Tryz.underlying145 rfl rfl HM ?_; intro I W1 hI HI hb
  have hwW := Nat.le_trans hw.size hb.size
  have hMI : M < I := Nat.lt_of_lt_of_le HM.bound hI
  replace hI := Nat.le_trans hw.size hI
  replace hw := grow_trans hw hb
  clear hb
  have hIW := HI.bound
  repeat' (first | (refine is_cw ?_; first | (refine cw_block ?_)) | (refine is_qw ?_; first | (with_reducible refine qw_then ?_)) | (refine lw_nil ?_))
  refine cw_loop (σ := (List (Pl × Row) × Option (Pl × Row)) × (List Row × Value)) (fun s => [(15, .int .i64 (worstOf s.2.1)), (16, s.2.2), (82, .pointer (some ⟨I, 0, none⟩))]) (fun s wr => Below w.heap.size w wr ∧ W1.heap.size ≤ wr.heap.size ∧ It kP vE wr I M m s.1.1 s.1.2 ∧ (m.map (·.2)).Perm (s.2.1 ++ s.1.1.map (·.2)) ∧ OwnL 149 W1.heap.size wr s.2.2 (s.2.1.filter nzB)) (fun s => s.1.1.length) ((m, none), ([], .slice none 0 0)) (by repeat' (first | exact trivial | refine ⟨rfl, ?_⟩)) ⟨hw, Nat.le_refl _, HI, by simp, Own.nil _⟩ ?_
  clear hw HI HM
  rintro ⟨⟨rest, cur⟩, ⟨ps, v⟩⟩ wr ⟨hw, hW, HI, hpm, hO⟩
  replace HI : It kP vE wr I M m rest cur := HI
  replace hpm : (m.map (·.2)).Perm (ps ++ rest.map (·.2)) := hpm
  replace hO : OwnL 149 W1.heap.size wr v (ps.filter nzB) := hO
  change CW _ _ _ _ [(15, .int .i64 (worstOf ps)), (16, v), (82, .pointer (some ⟨I, 0, none⟩))] wr
  have hE : Ext w wr := ⟨hw⟩
  have hnd := HI.mp.nodup
  have hNR : ∀ q r, (q, r) ∈ m → (-144115188075855872 ≤ r.free ∧ r.free ≤ 144115188075855872) ∧ (-144115188075855872 ≤ r.held ∧ r.held ≤ 144115188075855872) := fun q r h => by
    have h1 := hnr q
    rw [(getM_some hnd).2 h] at h1
    exact h1
  have hlenp : ps.length + rest.length = m.length := by have := hpm.length_eq; simp at this; omega
  have hlenf : (ps.filter nzB).length ≤ ps.length := List.length_filter_le _ _
  have hmlen : m.length ≤ 1105 := by
    have h1 : (m.map (·.1)).length ≤ 1105 := by
      have : ((m.map (·.1)).map fun k : Pl => k.1.val * 17 + k.2.val).Nodup := by
        rw [List.nodup_iff_pairwise_ne, List.pairwise_map]
        rw [List.nodup_iff_pairwise_ne] at hnd
        refine hnd.imp fun {a b} hab e => hab ?_
        have h1 := a.2.isLt; have h2 := b.2.isLt
        exact Prod.ext (Fin.ext (by omega)) (Fin.ext (by omega))
      have h2 := List.Nodup.length_le_of_subset this (l₂ := List.range 1105) (by
        intro x hx
        obtain ⟨k, _, rfl⟩ := List.mem_map.1 hx
        rw [List.mem_range]
        have h1 := k.1.isLt; have h2 := k.2.isLt
        omega)
      simpa using h2
    simpa using h1
  repeat' (first | (refine is_cw ?_; first | (refine cw_seq ?_) | (refine cw_region ?_)))
  refine lw_nextM rfl rfl HI (fun hr => ?_) (fun q r rest' w2 hq HI2 hg hz9 => ?_)
  · subst hr
    simp only [List.map_nil, List.append_nil] at hpm
    have e := worst_rows hnd hm (fun r hr => by
      obtain ⟨⟨q, r'⟩, h1, rfl⟩ := List.mem_map.1 hr
      have := hNR q r' h1
      dsimp only; omega)
    rw [worstOf_perm hpm] at e
    change worstOf ps = if (postL l p).any fundsB then 47 else if (postL l p).any overB then 41 else 0 at e
    by_cases hwz : worstOf ps = 0
    · have hf1 : (postL l p).any fundsB = false := by
        cases h : (postL l p).any fundsB with
        | false => rfl
        | true => rw [h, if_pos rfl] at e; omega
      have hf2 : (postL l p).any overB = false := by
        cases h : (postL l p).any overB with
        | false => rfl
        | true => rw [hf1, h, if_neg (by simp), if_pos rfl] at e; omega
      have er : postR l p = (postL l p, 0) := by simp [postR, hM, hA, hf1, hf2]
      have hkey := hm.keys hnd
      have hpf : (ps.filter nzB).Perm ((m.map (·.2)).filter nzB) := (hpm.filter _).symm
      rw [er]
      repeat' (first | (refine lw_pure rfl (pv_move rfl) ?_) | (refine is_cw ?_; first | (refine cw_seq ?_) | (refine cw_region ?_) | (refine cw_false rfl rfl ?_) | (refine is_cd ?_; refine cw_false rfl (by first | assumption | exact decide_eq_false (by omega) | exact dec_notF (by omega)) ?_) | (refine cw_skip ?_) | (refine cw_exit ?_)) | (refine is_qw ?_; first | (with_reducible refine qw_then ?_) | (with_reducible refine qw_in_hit ?_) | (with_reducible refine qw_then_exit ?_)) | (refine lw_nil ?_) | ((refine is_bin ?_; first | (refine lw_pure rfl (pv_neq rfl rfl) ?_))) | (refine lw_pure rfl (pv_extract rfl rfl) ?_))
      refine lw_call (f := 121) (by kernel_rfl) rfl rfl (sort_v _ v _ _ hO (by omega) (((hpf.map _).nodup_iff).2 hkey)) ?_
      rintro e w3 ⟨rfl, ⟨zs, hz1, hz2, hO3⟩, hg3⟩; refine ⟨_, rfl, ?_⟩
      have hzr := hm.rows hnd (hz1.trans hpf) hz2
      replace hE := hE.grown hg3 (fun q hq => Nat.le_trans hwW (hO.lt q hq).1)
      obtain ⟨fa, fc, rfl, HF, -⟩ := Own.slR encR_len hO3
      have hzl : zs.length ≤ 1105 := by rw [hz1.length_eq]; omega
      clear hw
      have hw := Below.refl w3.heap.size w3
      have hfl := HF.le
      have hfm := HF.max
      repeat' (first | (refine lw_pure rfl (pv_move rfl) ?_) | (refine lw_pure rfl (pv_assign rfl) ?_) | (refine is_cw ?_; first | (refine cw_seq ?_) | (refine cw_region ?_) | (refine cw_block ?_)) | (refine is_qw ?_; first | (with_reducible refine qw_then ?_)) | (refine lw_nil ?_) | ((refine is_bi ?_; first | (refine lw_pure rfl (pv_lenl (tS rfl) rfl) ?_))))
      refine cw_loop (σ := Nat × Value) (fun s => [(20, s.2), (113, .slice fa zs.length fc), (114, .int .i64 (zs.length : Nat)), (115, .int .i64 (s.1 : Nat))]) (fun s wr => s.1 ≤ zs.length ∧ Below w3.heap.size w3 wr ∧ OwnL 39 w3.heap.size wr s.2 (zs.take s.1)) (fun s => zs.length - s.1) (0, .slice none 0 0) (by repeat' (first | exact trivial | refine ⟨rfl, ?_⟩)) ⟨Nat.zero_le _, hw, Own.nil _⟩ ?_
      clear hw
      rintro ⟨k, v⟩ wr ⟨hk, hw, hQ⟩
      replace hk : k ≤ zs.length := hk
      replace hQ : OwnL 39 w3.heap.size wr v (zs.take k) := hQ
      by_cases hlt : k < zs.length
      · have hxk : zs[k]? = some zs[k] := List.getElem?_eq_getElem hlt
        obtain ⟨ab, ao, rfl, -, -⟩ := HF.at (by intro h; rw [h] at hlt; simp at hlt)
        have htl : (zs.take k).length ≤ k := by rw [List.length_take]; omega
        generalize hr : zs[k] = r at hxk
        repeat' (first | (refine is_cw ?_; first | (refine cw_seq ?_) | (refine cw_region ?_) | (refine is_cd ?_; refine cw_true rfl (by first | assumption | exact decide_eq_true (by omega) | exact dec_notT (by omega)) ?_) | (refine cw_skip ?_) | (refine cw_block ?_)) | (refine is_qw ?_; first | (with_reducible refine qw_then ?_)) | (refine lw_nil ?_) | ((refine is_bin ?_; first | (refine lw_pure rfl (pv_lss rfl rfl) ?_))) | ((refine is_load ?_; first | (refine lw_pure rfl (pv_loada (tA rfl) rfl (by first | exact SlR.lda (HF.mono hw) hxk) (by rfl)) ?_))) | ((refine is_ia ?_; first | (refine lw_pure rfl (pv_ian (tS rfl) rfl rfl (by omega)) ?_))))
        refine lw_varN rfl (by first | exact tyv_29 | exact tyv_30 | exact tyv_33 | exact tyv_34 | exact tyv_36 | exact tyv_37 | exact tyv_38 | exact tyv_39 | exact tyv_40 | exact tyv_41 | exact tyv_43 | exact tyv_44 | exact tyv_45 | exact tyv_46 | exact tyv_73 | exact tyv_74 | exact tyv_80 | exact tyv_81 | exact tyv_107 | exact tyv_108 | exact tyv_123 | exact tyv_146 | exact tyv_147 | exact tyv_148 | exact tyv_149) rfl (tZ rfl) (fun _ => rfl) rfl rfl ?_; intro N wn hN HX hb; replace hw := grow_trans hw hb; replace hQ := hQ.mono hb; clear hb
        repeat' (first | (refine lw_pure rfl (pv_move rfl) ?_) | (refine is_cw ?_; first | (refine cw_region ?_)) | (refine is_qw ?_; first | (with_reducible refine qw_then ?_)) | (refine lw_nil ?_) | ((refine is_load ?_; first | (refine lw_pure rfl (pv_load (t1 rfl) rfl (by first | exact PT.ld0 HX rfl | exact PT.ld HX rfl)) ?_))) | ((refine is_fa ?_; first | (refine lw_pure rfl (pv_fa (tF rfl) rfl) ?_))) | ((refine is_bd ?_; first | (refine lw_pure rfl (tyB_39 rfl rfl rfl) ?_))))
        refine lw_bs1 elemR rfl rfl (cs := encR r) rfl rfl (by omega) ?_; intro wb HB hb hz
        have hbs := (grow_trans hw hb).size
        refine lw_app elemR encR_len encR_one rfl rfl rfl (hQ.mono hb) (HB.slR (xs := [r]) encR_len rfl (by omega)) rfl hbs (by simp; omega) (by simp [maxLen]; omega) ?_; intro v9 w9 hQ9 hg9 hb9
        replace hw := (grow_trans hw hb).trans hb9
        repeat' (first | (refine lw_pure rfl (pv_move rfl) ?_) | (refine lw_pure rfl (pv_assign rfl) ?_) | (refine is_cw ?_; first | (refine cw_region ?_)) | (refine is_qw ?_; first | (with_reducible refine qw_then ?_) | (with_reducible refine qw_in ?_)) | (refine lw_nil ?_) | ((refine is_bin ?_; first | (refine lw_pure rfl (pv_inc rfl rfl (by omega)) ?_))))
        refine qw_round (k + 1, v9) (by repeat' (first | exact trivial | refine ⟨rfl, ?_⟩)) ⟨by show k + 1 ≤ _; omega, hw, ?_⟩ (by show zs.length - (k + 1) < zs.length - k; omega)
        show OwnL _ _ _ _ (zs.take (k + 1))
        rw [List.take_add_one, hxk]; exact hQ9
      · have hkz : k = zs.length := by omega
        subst hkz
        rw [List.take_length] at hQ
        repeat' (first | (refine lw_pure rfl (pv_move rfl) ?_) | (refine lw_pure rfl (pv_assign rfl) ?_) | (refine is_cw ?_; first | (refine cw_seq ?_) | (refine cw_region ?_) | (refine is_cd ?_; refine cw_false rfl (by first | assumption | exact decide_eq_false (by omega) | exact dec_notF (by omega)) ?_) | (refine cw_exit ?_) | (refine cw_ret ?_)) | (refine is_qw ?_; first | (with_reducible refine qw_then ?_) | (with_reducible refine qw_in_hit ?_) | (with_reducible refine qw_then_exit ?_)) | (refine lw_nil ?_) | ((refine is_bin ?_; first | (refine lw_pure rfl (pv_lss rfl rfl) ?_))))
        refine qw_ret2 rfl rfl rfl ⟨⟨_, rfl, ?_⟩, (hE.mono hw).b⟩
        rw [show postL l p = zs from hzr.symm]
        exact Own.weaken hQ hE.le
    · have er : postR l p = ([], worstOf ps) := by
        cases h1 : (postL l p).any fundsB with
        | true => rw [h1, if_pos rfl] at e; simp [postR, hM, hA, h1, e]
        | false =>
          rw [h1, if_neg (by simp)] at e
          cases h2 : (postL l p).any overB with
          | true => rw [h2, if_pos rfl] at e; simp [postR, hM, hA, h1, h2, e]
          | false => rw [h2, if_neg (by simp)] at e; exact absurd e hwz
      rw [er]
      repeat' (first | (refine lw_pure rfl (pv_move rfl) ?_) | (refine lw_pure rfl (pv_assign rfl) ?_) | (refine is_cw ?_; first | (refine cw_seq ?_) | (refine cw_region ?_) | (refine cw_false rfl rfl ?_) | (refine is_cd ?_; refine cw_true rfl (by first | assumption | exact decide_eq_true (by omega) | exact dec_notT (by omega)) ?_) | (refine cw_exit ?_) | (refine cw_ret ?_)) | (refine is_qw ?_; first | (with_reducible refine qw_then ?_) | (with_reducible refine qw_in_hit ?_) | (with_reducible refine qw_then_exit ?_) | (with_reducible refine qw_then_ret ?_)) | (refine lw_nil ?_) | ((refine is_bin ?_; first | (refine lw_pure rfl (pv_neq rfl rfl) ?_))) | (refine lw_pure rfl (pv_extract rfl rfl) ?_))
      exact qw_ret2 rfl rfl rfl ⟨⟨_, rfl, Own.nil _⟩, hE.b⟩
  · have hmem : (q, r) ∈ m := by
      obtain ⟨es, clk, seen, c0, _, hm2, _, _, hr2, _⟩ := HI
      have : (q, r) ∈ rest := hq.mem_iff.2 (by simp)
      rw [← hr2] at this
      obtain ⟨e, he, h3⟩ := List.mem_map.1 this
      rw [← hm2]; exact List.mem_map.2 ⟨e, (List.mem_filter.1 he).1, h3⟩
    have hrlen : rest.length = rest'.length + 1 := by rw [hq.length_eq]; simp
    have hperm : (m.map (·.2)).Perm ((ps ++ [r]) ++ rest'.map (·.2)) := by
      refine hpm.trans ?_
      rw [List.append_assoc]
      exact (hq.map (·.2)).append_left ps
    have hOb : ∀ b, v.ownBlock = some b → W1.heap.size ≤ b := fun b hb => (hO.lt b hb).1
    replace hO := hO.kept hg (Or.inr (fun e => by have := hOb I e; omega))
    replace hE := hE.grown hg (by intro q hq; injection hq with hq; omega)
    replace hW : W1.heap.size ≤ w2.heap.size := by omega
    clear hw hg hz9 HI
    have hw := Below.refl w2.heap.size w2
    repeat' (first | (refine lw_pure rfl (pv_entryM rfl HI2) ?_) | (refine is_cw ?_; first | (refine cw_seq ?_) | (refine cw_region ?_) | (refine cw_true rfl rfl ?_) | (refine cw_skip ?_) | (refine cw_block ?_)) | (refine is_qw ?_; first | (with_reducible refine qw_then ?_)) | (refine lw_nil ?_) | (refine lw_pure rfl (pv_extract rfl rfl) ?_))
    refine lw_varN rfl (by first | exact tyv_29 | exact tyv_30 | exact tyv_33 | exact tyv_34 | exact tyv_36 | exact tyv_37 | exact tyv_38 | exact tyv_39 | exact tyv_40 | exact tyv_41 | exact tyv_43 | exact tyv_44 | exact tyv_45 | exact tyv_46 | exact tyv_73 | exact tyv_74 | exact tyv_80 | exact tyv_81 | exact tyv_107 | exact tyv_108 | exact tyv_123 | exact tyv_146 | exact tyv_147 | exact tyv_148 | exact tyv_149) rfl (tZ rfl) (fun _ => rfl) rfl rfl ?_; intro N18 wn hN18 HX hb; replace hN18 := Nat.le_trans hw.size hN18; replace hw := grow_trans hw hb; clear hb
    replace hW := Nat.le_trans hW hw.size
    replace hE := hE.mono hw; replace HI2 := HI2.mono hw; replace hO := hO.mono hw; clear hw; have hw := Below.refl wn.heap.size wn
    repeat' (first | (refine is_cw ?_; first | (refine cw_seq ?_) | (refine cw_region ?_)) | (refine is_qw ?_; first | (with_reducible refine qw_then ?_)) | (refine lw_nil ?_) | ((refine is_load ?_; first | (refine lw_pure rfl (pv_loada (tA rfl) rfl (by first | exact PT.lda (HX.mono hw)) (by rfl)) ?_))))
    refine lw_call (f := 120) (by kernel_rfl) rfl rfl (wrong_c r _) ?_; rintro e w1 ⟨rfl, hb⟩; refine ⟨_, rfl, ?_⟩; replace hw := grow_trans hw hb; clear hb
    replace hW := Nat.le_trans hW hw.size
    replace hE := hE.mono hw; replace HI2 := HI2.mono hw; replace hO := hO.mono hw; replace HX := HX.mono hw; clear hw; have hw := Below.refl w1.heap.size w1
    refine lw_pure rfl (pv_assign rfl) ?_
    refine lw_nil ?_; (with_reducible refine qw_then ?_)
    refine cw_cutq (σ := Unit) (fun _ => [(15, .int .i64 (worstOf (ps ++ [r]))), (16, v), (18, .pointer (some ⟨N18, 0, none⟩)), (82, .pointer (some ⟨I, 0, none⟩))]) (fun _ w' => Below w1.heap.size w1 w' ∧ (True)) ?_ ?_
    · repeat' (first | (refine lw_pure rfl (pv_move rfl) ?_) | (refine lw_pure rfl (pv_assign rfl) ?_) | (refine is_cw ?_; first | (refine cw_seq ?_) | (refine cw_region ?_) | (refine cw_true rfl rfl ?_) | (refine cw_skip ?_)) | (refine is_qw ?_; first | (with_reducible refine qw_then ?_)) | (refine lw_nil ?_) | (refine is_guarded ?_; first | (refine lw_on rfl rfl (by first | assumption | exact decide_eq_true (by omega) | exact decide_eq_false (by omega) | exact dec_notT (by omega) | exact dec_notF (by omega)) ?_) | (refine lw_not rfl rfl rfl (by first | assumption | exact decide_eq_true (by omega) | exact decide_eq_false (by omega) | exact dec_notT (by omega) | exact dec_notF (by omega)) ?_) | (refine lw_gs_f rfl rfl rfl (fun hc => ?_) (fun hc => ?_) <;> (first | replace hc := of_decide_eq_true hc | replace hc := of_decide_eq_false hc | replace hc := dec_nT hc | replace hc := dec_nF hc | skip) <;> (try (exfalso; omega)))) | ((refine is_bin ?_; first | (refine lw_pure rfl (pv_eql rfl rfl) ?_))) | (refine is_pk ?_; refine lw_pure rfl (pv_pick_t rfl (by first | assumption | exact decide_eq_true (by omega) | exact dec_notT (by omega)) rfl) ?_) | (refine is_pk ?_; refine lw_pure rfl (pv_pick_f rfl (by first | assumption | exact decide_eq_false (by omega) | exact dec_notF (by omega)) rfl) ?_) | (refine is_cw ?_; refine cw_split rfl (fun hc => ?_) (fun hc => ?_) <;> (first | replace hc := of_decide_eq_true hc | replace hc := of_decide_eq_false hc | replace hc := dec_nT hc | replace hc := dec_nF hc | skip) <;> (try (exfalso; omega))))
      all_goals (refine qw_join () ⟨(by rw [worstOf_snoc]; split <;> first | rfl | (exfalso; omega)), rfl, rfl, rfl, trivial⟩ ⟨hw, trivial⟩)
    rintro - w2 ⟨hw, -⟩
    replace hW := Nat.le_trans hW hw.size
    replace hE := hE.mono hw; replace HI2 := HI2.mono hw; replace hO := hO.mono hw; replace HX := HX.mono hw; clear hw; have hw := Below.refl w2.heap.size w2
    refine cw_cut (σ := Bool) (fun b => [(103, .bool b), (15, .int .i64 (worstOf (ps ++ [r]))), (16, v), (18, .pointer (some ⟨N18, 0, none⟩)), (82, .pointer (some ⟨I, 0, none⟩))]) (fun b w' => Below w2.heap.size w2 w' ∧ b = decide (r.free ≠ 0 ∨ r.held ≠ 0)) ?_ ?_
    · repeat' (first | (refine lw_pure rfl (pv_move rfl) ?_) | (refine is_cw ?_; first | (refine cw_region ?_)) | (refine lw_nil ?_) | (refine is_guarded ?_; first | (refine lw_on rfl rfl (by first | assumption | exact decide_eq_true (by omega) | exact decide_eq_false (by omega) | exact dec_notT (by omega) | exact dec_notF (by omega)) ?_) | (refine lw_not rfl rfl rfl (by first | assumption | exact decide_eq_true (by omega) | exact decide_eq_false (by omega) | exact dec_notT (by omega) | exact dec_notF (by omega)) ?_) | (refine lw_gs_f rfl rfl rfl (fun hc => ?_) (fun hc => ?_) <;> (first | replace hc := of_decide_eq_true hc | replace hc := of_decide_eq_false hc | replace hc := dec_nT hc | replace hc := dec_nF hc | skip) <;> (try (exfalso; omega)))) | ((refine is_bin ?_; first | (refine lw_pure rfl (pv_neq rfl rfl) ?_))) | ((refine is_load ?_; first | (refine lw_pure rfl (pv_load (t1 rfl) rfl (by first | exact PT.ld0 (HX.mono hw) rfl | exact PT.ld (HX.mono hw) rfl)) ?_))) | ((refine is_fa ?_; first | (refine lw_pure rfl (pv_fa (tF rfl) rfl) ?_))) | (refine is_pk ?_; refine lw_pure rfl (pv_pick_t rfl (by first | assumption | exact decide_eq_true (by omega) | exact dec_notT (by omega)) rfl) ?_) | (refine is_pk ?_; refine lw_pure rfl (pv_pick_f rfl (by first | assumption | exact decide_eq_false (by omega) | exact dec_notF (by omega)) rfl) ?_))
      all_goals (refine qw_join _ (by repeat' (first | exact trivial | refine ⟨rfl, ?_⟩)) ⟨hw, ?_⟩; first | (symm; rw [decide_eq_true_eq]; omega) | (symm; rw [decide_eq_false_iff_not]; omega) | (rw [decide_eq_decide]; omega) | (rw [← decide_not, decide_eq_decide]; omega) | (simp [*]; done))
    rintro b w3 ⟨hw, rfl⟩
    replace hW := Nat.le_trans hW hw.size
    replace hE := hE.mono hw; replace HI2 := HI2.mono hw; replace hO := hO.mono hw; replace HX := HX.mono hw; clear hw; have hw := Below.refl w3.heap.size w3
    have hfs : (ps ++ [r]).filter nzB = ps.filter nzB ++ (if nzB r = true then [r] else []) := by
      rw [List.filter_append]; cases h : nzB r <;> simp [h]
    by_cases hz : r.free ≠ 0 ∨ r.held ≠ 0
    · rw [if_pos (nzB_iff.2 hz)] at hfs
      repeat' (first | (refine lw_pure rfl (pv_move rfl) ?_) | (refine is_cw ?_; first | (refine cw_region ?_) | (refine is_cd ?_; refine cw_true rfl (by first | assumption | exact decide_eq_true (by omega) | exact dec_notT (by omega)) ?_)) | ((refine is_load ?_; first | (refine lw_pure rfl (pv_loada (tA rfl) rfl (by first | exact PT.lda (HX.mono hw)) (by rfl)) ?_))))
      refine lw_bs1 elemE rfl rfl (cs := encR r) rfl rfl (by omega) ?_; intro wb HB hb hzz
      replace hW := Nat.le_trans hW hb.size
      replace hE := hE.mono (grow_trans hw hb)
      replace HI2 := HI2.mono (grow_trans hw hb)
      refine lw_app elemE encR_len encR_one rfl rfl rfl (hO.mono (grow_trans hw hb)) (HB.slR (xs := [r]) encR_len rfl (by omega)) rfl hW (by simp; omega) (by simp [maxLen]; omega) ?_; intro v9 w9 hO9 hg9 hb9
      replace hE := hE.grown hg9 (fun q hq => Nat.le_trans hwW (hOb q hq))
      replace HI2 := HI2.kept hg9 (fun e => by have := hOb M e; omega) (fun e => by have := hOb I e; omega)
      clear hw
      have hw := Below.refl w9.heap.size w9
      repeat' (first | (refine lw_pure rfl (pv_assign rfl) ?_) | (refine is_qw ?_; first | (with_reducible refine qw_in ?_)) | (refine lw_nil ?_))
      exact qw_round ((rest', some (q, r)), (ps ++ [r], v9)) (by repeat' (first | exact trivial | refine ⟨rfl, ?_⟩)) ⟨hE.b, Nat.le_trans hW hb9.size, HI2, hperm, by rw [hfs]; exact hO9⟩ (by show rest'.length < rest.length; omega)
    · rw [if_neg (fun h => hz (nzB_iff.1 h)), List.append_nil] at hfs
      repeat' (first | (refine is_cw ?_; first | (refine is_cd ?_; refine cw_false rfl (by first | assumption | exact decide_eq_false (by omega) | exact dec_notF (by omega)) ?_) | (refine cw_skip ?_)) | (refine is_qw ?_; first | (with_reducible refine qw_in ?_)))
      exact qw_round ((rest', some (q, r)), (ps ++ [r], v)) (by repeat' (first | exact trivial | refine ⟨rfl, ?_⟩)) ⟨(hE.mono hw).b, hW, HI2, hperm, by rw [hfs]; exact hO⟩ (by show rest'.length < rest.length; omega)
end Go.Proofs.YtekomjnjddhfmaaGreat
namespace Go.Proofs.YtekomjnjddhfmaaGreat
open Go.RowKit

def ownR (l : List Row) (a s f h : Int) : List Row × Int := postR l [⟨a, s, f, h⟩]
def holdR (l : List Row) (a s n : Int) : List Row × Int := postR l [⟨a, s, -amountR n, amountR n⟩]
def releaseR (l : List Row) (a s n : Int) : List Row × Int := postR l [⟨a, s, amountR n, -amountR n⟩]
def qtyR (f t n : Int) : Int := if f = t then mostA + 1 else amountR n
def moveR (l : List Row) (f t s n : Int) : List Row × Int := postR l [⟨f, s, -qtyR f t n, 0⟩, ⟨t, s, qtyR f t n, 0⟩]
def payR (l : List Row) (f t s n : Int) : List Row × Int := postR l [⟨f, s, 0, -qtyR f t n⟩, ⟨t, s, qtyR f t n, 0⟩]
theorem amount_in (n : Int) : 1 ≤ amountR n ∧ amountR n ≤ 1125899906842625 := by unfold amountR mostA; split <;> omega
def In1 (n : Int) : Prop := -9223372036854775808 ≤ n ∧ n ≤ 9223372036854775807
theorem in64_1 {a s f h : Int} (hf : In1 f) (hh : In1 h) : In64R [⟨a, s, f, h⟩] := by
  intro r hr; simp at hr; subst hr; exact ⟨hf, hh⟩
set_option maxRecDepth 20000 in
theorem lown_c {l : List Row} {m : Nat} {ad : Option Addr} {cap : Nat} {w : World} (a s f h : Int) (hm : l.length = m) (HS : SlL w ad cap l) (hin : In64R l) (hf : In1 f) (hh : In1 h) : Calls Tryz.prog 67 #[.slice ad m cap, .int .i64 a, .int .i64 s, .int .i64 f, .int .i64 h] w fun e w' => (∃ v, e = .returned (.tuple #[v, .int .i64 (ownR l a s f h).2]) ∧ OwnL 39 w.heap.size w' v (ownR l a s f h).1) ∧ Below w.heap.size w w' := by
  have hw := Below.refl w.heap.size w
  refine fn_enter 22 Tryz.func67 rfl rfl rfl ?_
  repeat' (first | (refine lw_pure rfl (pv_move rfl) ?_) | (refine lw_pure rfl (pv_assign rfl) ?_) | (refine is_cw ?_; first | (refine cw_seq ?_) | (refine cw_region ?_) | (refine cw_ret ?_)) | (refine is_qw ?_; first | (with_reducible refine qw_then ?_) | (with_reducible refine qw_then_ret ?_)) | (refine lw_nil ?_) | ((refine is_bd ?_; first | (refine lw_pure rfl (tyB_123 rfl rfl rfl) ?_))) | (refine lw_pure rfl (pv_extract rfl rfl) ?_))
  refine lw_bs1 elemP rfl rfl (cs := encR ⟨a, s, f, h⟩) rfl rfl (by omega) ?_; intro wb HB hb hz
  refine lw_call (f := 95) (by kernel_rfl) rfl rfl (post_c (p := [⟨a, s, f, h⟩]) hm rfl (HS.mono hb) (HB.slR encR_len rfl (by omega)) hin (in64_1 hf hh)) ?_; rintro e w1 ⟨⟨v, rfl, hO⟩, hb1⟩; refine ⟨_, rfl, ?_⟩
  repeat' (first | (refine lw_pure rfl (pv_move rfl) ?_) | (refine lw_pure rfl (pv_assign rfl) ?_) | (refine is_cw ?_; first | (refine cw_seq ?_) | (refine cw_region ?_) | (refine cw_ret ?_)) | (refine is_qw ?_; first | (with_reducible refine qw_then ?_) | (with_reducible refine qw_then_ret ?_)) | (refine lw_nil ?_) | ((refine is_bd ?_; first | (refine lw_pure rfl (tyB_123 rfl rfl rfl) ?_))) | (refine lw_pure rfl (pv_extract rfl rfl) ?_))
  exact qw_ret2 rfl rfl rfl ⟨⟨_, rfl, hO.weaken hb.size⟩, grow_trans hb hb1⟩
set_option maxRecDepth 20000 in
theorem release_c {l : List Row} {m : Nat} {ad : Option Addr} {cap : Nat} {w : World} (a s n : Int) (hm : l.length = m) (HS : SlL w ad cap l) (hin : In64R l) : Calls Tryz.prog 30 #[.slice ad m cap, .int .i64 a, .int .i64 s, .int .i64 n] w fun e w' => (∃ v, e = .returned (.tuple #[v, .int .i64 (releaseR l a s n).2]) ∧ OwnL 39 w.heap.size w' v (releaseR l a s n).1) ∧ Below w.heap.size w w' := by
  have hw := Below.refl w.heap.size w
  have hq := amount_in n
  refine fn_enter 21 Tryz.func30 rfl rfl rfl ?_
  repeat' (first | (refine lw_pure rfl (pv_move rfl) ?_) | (refine lw_pure rfl (pv_assign rfl) ?_) | (refine lw_call (f := 68) (by kernel_rfl) rfl rfl (amount_c _ _) ?_; rintro e w1 ⟨rfl, rfl⟩; refine ⟨_, rfl, ?_⟩) | (refine is_cw ?_; first | (refine cw_seq ?_) | (refine cw_region ?_) | (refine cw_ret ?_)) | (refine is_qw ?_; first | (with_reducible refine qw_then ?_) | (with_reducible refine qw_then_ret ?_)) | (refine lw_nil ?_) | ((refine is_un ?_; first | (refine lw_pure rfl (pv_neg rfl (by omega)) ?_))) | (refine lw_pure rfl (pv_extract rfl rfl) ?_))
  refine lw_call (f := 67) (by kernel_rfl) rfl rfl (lown_c a s _ _ hm HS hin (by unfold In1; omega) (by unfold In1; omega)) ?_; rintro e w1 ⟨⟨v, rfl, hO⟩, hb1⟩; refine ⟨_, rfl, ?_⟩
  repeat' (first | (refine lw_pure rfl (pv_move rfl) ?_) | (refine lw_pure rfl (pv_assign rfl) ?_) | (refine is_cw ?_; first | (refine cw_seq ?_) | (refine cw_region ?_) | (refine cw_ret ?_)) | (refine is_qw ?_; first | (with_reducible refine qw_then ?_) | (with_reducible refine qw_then_ret ?_)) | (refine lw_nil ?_) | ((refine is_un ?_; first | (refine lw_pure rfl (pv_neg rfl (by omega)) ?_))) | (refine lw_pure rfl (pv_extract rfl rfl) ?_))
  exact qw_ret2 rfl rfl rfl ⟨⟨_, rfl, hO⟩, hb1⟩
end Go.Proofs.YtekomjnjddhfmaaGreat
namespace Go.Proofs.YtekomjnjddhfmaaGreat

theorem sum_one (n : Nat) (f : Nat → Int) (k : Nat) : ((List.range n).map fun c => if c = k then f c else 0).sum = if k < n then f k else 0 := by
  induction n with
  | zero => simp
  | succ n ih =>
    rw [List.range_succ, List.map_append, List.sum_append, ih]
    simp only [List.map_cons, List.map_nil, List.sum_cons, List.sum_nil, Int.add_zero]
    by_cases h1 : k < n
    · rw [if_pos h1, if_neg (by omega), if_pos (by omega), Int.add_zero]
    · by_cases h2 : n = k
      · subst h2; simp
      · rw [if_neg h1, if_neg h2, if_neg (by omega)]; rfl
theorem sum_add (xs : List Nat) (f g : Nat → Int) : (xs.map fun c => f c + g c).sum = (xs.map f).sum + (xs.map g).sum := by
  induction xs with
  | nil => rfl
  | cons x xs ih => simp only [List.map_cons, List.sum_cons, ih]; omega
theorem freeAt_cons (r : Row) (l : List Row) (a s : Int) : freeAt (r :: l) a s = (if r.acct = a ∧ r.asset = s then r.free else 0) + freeAt l a s := by
  unfold freeAt
  by_cases h1 : r.acct = a <;> by_cases h2 : r.asset = s <;> simp [isKey, h1, h2]
theorem heldAt_cons (r : Row) (l : List Row) (a s : Int) : heldAt (r :: l) a s = (if r.acct = a ∧ r.asset = s then r.held else 0) + heldAt l a s := by
  unfold heldAt
  by_cases h1 : r.acct = a <;> by_cases h2 : r.asset = s <;> simp [isKey, h1, h2]
theorem sumA_cons (r : Row) (l : List Row) (a : Int) : sumA (r :: l) a = (if r.asset = a then r.free + r.held else 0) + sumA l a := by
  unfold sumA
  by_cases h : r.asset = a <;> simp [h]
theorem sumA_cols {l : List Row} (h : ∀ r ∈ l, there r.acct r.asset = true) (a : Int) : sumA l a = ((List.range 65).map fun c : Nat => freeAt l c a + heldAt l c a).sum := by
  induction l with
  | nil => simp [sumA, freeAt, heldAt]; decide
  | cons r l ih =>
    have hr := there_iff.1 (h r (by simp))
    rw [sumA_cons, ih (fun x hx => h x (by simp [hx]))]
    have e : ((List.range 65).map fun c : Nat => freeAt (r :: l) c a + heldAt (r :: l) c a) = (List.range 65).map fun c : Nat => (if c = r.acct.toNat then (if r.asset = a then r.free + r.held else 0) else 0) + (freeAt l c a + heldAt l c a) := by
      refine List.map_congr_left fun c _ => ?_
      rw [freeAt_cons, heldAt_cons]
      by_cases h1 : c = r.acct.toNat
      · have : r.acct = (c : Int) := by omega
        by_cases h2 : r.asset = a
        · rw [if_pos ⟨this, h2⟩, if_pos ⟨this, h2⟩, if_pos h1, if_pos h2]; omega
        · rw [if_neg (fun e => h2 e.2), if_neg (fun e => h2 e.2), if_pos h1, if_neg h2]; omega
      · have : ¬ r.acct = (c : Int) := by omega
        rw [if_neg (fun e => this e.1), if_neg (fun e => this e.1), if_neg h1]; omega
    have h9 := sum_add (List.range 65) (fun c => if c = r.acct.toNat then (if r.asset = a then r.free + r.held else 0) else 0) (fun c : Nat => freeAt l c a + heldAt l c a)
    have h10 := sum_one 65 (fun _ => if r.asset = a then r.free + r.held else 0) r.acct.toNat
    rw [if_pos (show r.acct.toNat < 65 by omega)] at h10
    rw [e, h9, h10]
theorem sumA_post {l p : List Row} (hl : ∀ r ∈ l, there r.acct r.asset = true) (hp : ∀ r ∈ p, there r.acct r.asset = true) {a : Int} (ha : 0 ≤ a ∧ a ≤ 16) : sumA (postL l p) a = sumA l a + sumA p a := by
  unfold postL
  rw [sumA_cols (rowsOf_there _ _), sumA_cols hl, sumA_cols hp, ← sum_add]
  congr 1
  refine List.map_congr_left fun c hc => ?_
  rw [List.mem_range] at hc
  obtain ⟨h1, h2⟩ := at_rowsOf (f := fun a s => freeAt l a s + freeAt p a s) (g := fun a s => heldAt l a s + heldAt p a s) (a := (c : Int)) (s := a) (there_iff.2 (by omega))
  show freeAt (rowsOf _ _) _ _ + heldAt (rowsOf _ _) _ _ = _
  rw [h1, h2]; omega
theorem at_post {l p : List Row} (hl : ∀ r ∈ l, there r.acct r.asset = true) (hp : ∀ r ∈ p, there r.acct r.asset = true) (a s : Int) : freeAt (postL l p) a s = freeAt l a s + freeAt p a s ∧ heldAt (postL l p) a s = heldAt l a s + heldAt p a s := by
  by_cases h : there a s = true
  · exact at_rowsOf h
  · have h1 := at_out hl h
    have h2 := at_out hp h
    have h3 := at_out (rowsOf_there (fun a s => freeAt l a s + freeAt p a s) (fun a s => heldAt l a s + heldAt p a s)) h
    show freeAt (rowsOf _ _) _ _ = _ ∧ heldAt (rowsOf _ _) _ _ = _
    omega
structure Taken (l p : List Row) : Prop where
  may : MayR l
  asked : AskedOk p
  len : p.length ≤ 64
  funds : ∀ r ∈ postL l p, fundsB r = false
  over : ∀ r ∈ postL l p, overB r = false
theorem taken_iff {l p out : List Row} : postR l p = (out, 0) ↔ Taken l p ∧ out = postL l p := by
  constructor
  · intro h
    unfold postR at h
    by_cases h1 : mayR l = true
    · rw [if_neg (by simp [h1])] at h
      by_cases h2 : askedR p = 0
      · rw [if_neg (by simp [h2])] at h
        by_cases h3 : (postL l p).any fundsB = true
        · rw [if_pos h3] at h; simp at h
        · rw [if_neg h3] at h
          by_cases h4 : (postL l p).any overB = true
          · rw [if_pos h4] at h; simp at h
          · rw [if_neg h4] at h
            simp only [Prod.mk.injEq, and_true] at h
            have h5 : p.length ≤ 64 ∧ AskedOk p := by
              unfold askedR at h2
              split at h2
              · omega
              · split at h2
                · rename_i h6 h7; exact ⟨by omega, h7⟩
                · omega
            refine ⟨⟨mayR_iff.1 h1, h5.2, h5.1, fun r hr => ?_, fun r hr => ?_⟩, h.symm⟩
            · rw [Bool.eq_false_iff]; intro h6; exact h3 (List.any_eq_true.2 ⟨r, hr, h6⟩)
            · rw [Bool.eq_false_iff]; intro h6; exact h4 (List.any_eq_true.2 ⟨r, hr, h6⟩)
      · rw [if_pos h2] at h
        simp only [Prod.mk.injEq] at h
        exact absurd h.2 h2
    · rw [if_pos (by simpa using h1)] at h; simp at h
  · rintro ⟨⟨h1, h2, h3, h4, h5⟩, rfl⟩
    have e2 : askedR p = 0 := by rw [askedR, if_neg (by omega), if_pos h2]
    have e3 : (postL l p).any fundsB = false := by rw [List.any_eq_false]; intro r hr; rw [h4 r hr]; simp
    have e4 : (postL l p).any overB = false := by rw [List.any_eq_false]; intro r hr; rw [h5 r hr]; simp
    simp [postR, mayR_iff.2 h1, e2, e3, e4]
theorem MayR.there {l : List Row} (h : MayR l) : ∀ r ∈ l, there r.acct r.asset = true := fun r hr => (h.1 r hr).1
theorem AskedOk.there {p : List Row} (h : AskedOk p) : ∀ r ∈ p, there r.acct r.asset = true := fun r hr => (h.1 r hr).1
theorem Taken.out {l p : List Row} (h : Taken l p) : MayR (postL l p) := by
  have hl := h.may.there
  have hp := h.asked.there
  have hat := fun a s => at_post hl hp a s
  have hpw : (postL l p).Pairwise keyLt := rowsOf_pw _ _
  have hth : ∀ r ∈ postL l p, there r.acct r.asset = true := rowsOf_there _ _
  have hsum : ∀ a : Int, 0 ≤ a ∧ a ≤ 16 → sumA (postL l p) a = 0 := fun a ha => by
    have h1 := h.may.2.2 a.toNat (by rw [List.mem_range]; omega)
    have h2 := h.asked.2 a.toNat (by rw [List.mem_range]; omega)
    rw [show ((a.toNat : Nat) : Int) = a by omega] at h1 h2
    rw [sumA_post hl hp ha]; omega
  have h0 : ∀ r ∈ postL l p, r.acct = 0 → r.held = 0 := fun r hr e => by
    have h1 := (freeAt_mem hpw hr).2
    rw [(hat r.acct r.asset).2, e] at h1
    have h2 := held0 (fun x hx e => ((h.may.1 x hx).2.2.1 e).1) r.asset
    have h3 := held0 (fun x hx e => (h.asked.1 x hx).2.2.2.2.2 e) r.asset
    omega
  have hpos : ∀ r ∈ postL l p, r.acct ≠ 0 → 0 ≤ r.free ∧ 0 ≤ r.held ∧ r.free + r.held ≤ mostA := fun r hr e => by
    have h1 := h.funds r hr
    have h2 := h.over r hr
    unfold fundsB at h1; unfold overB at h2
    rw [Bool.eq_false_iff] at h1 h2
    simp only [ne_eq, Bool.and_eq_true, bne_iff_ne, Bool.or_eq_true, decide_eq_true_eq] at h1 h2
    omega
  refine ⟨fun r hr => ⟨hth r hr, (mem_rowsOf.1 hr).2.1, fun e => ⟨h0 r hr e, ?_⟩, hpos r hr⟩, hpw, fun a ha => hsum a (by rw [List.mem_range] at ha; omega)⟩
  have h1 := there_iff.1 (hth r hr)
  have h2 := hsum r.asset (by omega)
  rw [sumA_parts (fun x hx => (there_iff.1 (hth x hx)).1), held0 h0] at h2
  have h3 := (freeAt_mem hpw hr).1
  rw [e] at h3
  have h4 : 0 ≤ posA (postL l p) r.asset := by
    unfold posA
    have : ∀ xs : List Int, (∀ x ∈ xs, 0 ≤ x) → 0 ≤ xs.sum := by
      intro xs
      induction xs with
      | nil => intro _; simp
      | cons x xs ih => intro hx; rw [List.sum_cons]; have := hx x (by simp); have := ih (fun y hy => hx y (by simp [hy])); omega
    refine this _ fun x hx => ?_
    obtain ⟨q, hq, rfl⟩ := List.mem_map.1 hx
    simp only [List.mem_filter, Bool.and_eq_true, decide_eq_true_eq] at hq
    have := hpos q hq.1 (by omega)
    omega
  omega
/-! ### there and back -/
def negR (r : Row) : Row := ⟨r.acct, r.asset, -r.free, -r.held⟩
def backP (p : List Row) : List Row := (p.map negR).reverse
/-! ### in whatever row, in parts -/
end Go.Proofs.YtekomjnjddhfmaaGreat
namespace Go.Proofs.YtekomjnjddhfmaaGreat
open Go.RowKit Go.PlainAid

theorem chk_all {t : Stt} : checkF t = ByteArray.empty ↔ numsB t = true ∧ accsB t.accs = true ∧ inssB t.inss = true ∧ rowsB t = true ∧ ordsB t = true ∧ aucsB t = true ∧ heldB t = true := by
  constructor
  · intro h
    unfold checkF at h
    have e1 : wNums ≠ ByteArray.empty := by decide
    have e2 : wAccs ≠ ByteArray.empty := by decide
    have e3 : wInss ≠ ByteArray.empty := by decide
    have e4 : wRows ≠ ByteArray.empty := by decide
    have e5 : wOrds ≠ ByteArray.empty := by decide
    have e6 : wAucs ≠ ByteArray.empty := by decide
    have e7 : wHeld ≠ ByteArray.empty := by decide
    split at h
    · exact absurd h e1
    split at h
    · exact absurd h e2
    split at h
    · exact absurd h e3
    split at h
    · exact absurd h e4
    split at h
    · exact absurd h e5
    split at h
    · exact absurd h e6
    split at h
    · exact absurd h e7
    simp_all
  · rintro ⟨h1, h2, h3, h4, h5, h6, h7⟩
    unfold checkF
    simp [h1, h2, h3, h4, h5, h6, h7]
theorem at_may {l : List Row} (h : MayR l) {a : Int} (ha : a ≠ 0) (s : Int) : 0 ≤ freeAt l a s ∧ 0 ≤ heldAt l a s ∧ freeAt l a s + heldAt l a s ≤ mostA := by
  by_cases hk : ∃ r ∈ l, r.acct = a ∧ r.asset = s
  · obtain ⟨r, hr, rfl, rfl⟩ := hk
    have h1 := freeAt_mem h.2.1 hr
    have h2 := (h.1 r hr).2.2.2 ha
    rw [h1.1, h1.2]; exact h2
  · have h1 := freeAt_none (l := l) (a := a) (s := s) fun r hr hh => hk ⟨r, hr, hh⟩
    rw [h1.1, h1.2]; exact ⟨Int.le_refl _, Int.le_refl _, by decide⟩
structure Rel (l : List Row) (ps : List PartT) (m : List Row) : Prop where
  may : MayR m
  at' : ∀ a s : Int, freeAt m a s = freeAt l a s + heldL ps (a, s) ∧ heldAt m a s = heldAt l a s - heldL ps (a, s)
theorem Rel.nil {l : List Row} (h : MayR l) : Rel l [] l := ⟨h, fun a s => ⟨by simp [heldL], by simp [heldL]⟩⟩
theorem at_one (r : Row) (a s : Int) : freeAt [r] a s = (if r.acct = a ∧ r.asset = s then r.free else 0) ∧ heldAt [r] a s = (if r.acct = a ∧ r.asset = s then r.held else 0) := by
  rw [freeAt_cons, heldAt_cons]
  exact ⟨by simp [freeAt], by simp [heldAt]⟩
theorem Rel.step {l m : List Row} {ps : List PartT} (h : Rel l ps m) {p : PartT} (hp : PartIn p) (hle : heldL (ps ++ [p]) p.1 ≤ heldAt l p.1.1 p.1.2) : ∃ m', releaseR m p.1.1 p.1.2 p.2 = (m', 0) ∧ Rel l (ps ++ [p]) m' := by
  obtain ⟨⟨a, s⟩, n⟩ := p
  obtain ⟨⟨ha1, ha2⟩, ⟨hs1, hs2⟩, hn1, hn2⟩ := hp
  dsimp only at ha1 ha2 hs1 hs2 hn1 hn2 hle ⊢
  have hone : ∀ b j : Int, heldL [((a, s), n)] (b, j) = if a = b ∧ s = j then n else 0 := fun b j => by
    rw [heldL_cons]; simp [heldL, Prod.mk.injEq]
  rw [heldL_app, hone, if_pos ⟨rfl, rfl⟩] at hle
  have hn : amountR n = n := by unfold amountR mostA; rw [if_neg (by omega)]
  have hth : there a s = true := there_iff.2 ⟨by omega, by omega, by omega, by omega⟩
  have hl := h.may.there
  have hp : ∀ r ∈ [(⟨a, s, n, -n⟩ : Row)], there r.acct r.asset = true := fun r hr => by
    rw [List.mem_singleton] at hr; subst hr; exact hth
  have hat : ∀ b j : Int, freeAt (postL m [⟨a, s, n, -n⟩]) b j = freeAt m b j + (if a = b ∧ s = j then n else 0) ∧ heldAt (postL m [⟨a, s, n, -n⟩]) b j = heldAt m b j - (if a = b ∧ s = j then n else 0) := fun b j => by
    have h1 := at_post hl hp b j
    have h2 := at_one ⟨a, s, n, -n⟩ b j
    rw [h1.1, h1.2, h2.1, h2.2]
    dsimp only
    split <;> omega
  have hpw : (postL m [⟨a, s, n, -n⟩]).Pairwise keyLt := rowsOf_pw _ _
  have hpos : ∀ r ∈ postL m [⟨a, s, n, -n⟩], r.acct ≠ 0 → 0 ≤ r.free ∧ 0 ≤ r.held ∧ r.free + r.held ≤ mostA := fun r hr h0 => by
    have h1 := freeAt_mem hpw hr
    have h2 := hat r.acct r.asset
    have h3 := at_may h.may h0 r.asset
    have h4 := (h.at' a s).2
    rw [h1.1, h1.2] at h2
    by_cases hk : a = r.acct ∧ s = r.asset
    · rw [if_pos hk] at h2
      obtain ⟨rfl, rfl⟩ := hk
      omega
    · rw [if_neg hk] at h2; omega
  have hT : Taken m [⟨a, s, n, -n⟩] := by
    refine ⟨h.may, ⟨fun x hx => ?_, fun b hb => ?_⟩, by simp, fun r hr => ?_, fun r hr => ?_⟩
    · rw [List.mem_singleton] at hx; subst hx
      unfold PostOk mostA
      exact ⟨hth, by dsimp only; omega, by dsimp only; omega, by dsimp only; omega, by dsimp only; omega, fun e => by dsimp only at e; omega⟩
    · rw [sumA_cons]
      dsimp only
      simp only [sumA, List.filter_nil, List.map_nil, List.sum_nil]
      split <;> omega
    · by_cases h0 : r.acct = 0
      · unfold fundsB; simp [h0]
      · have := hpos r hr h0
        unfold fundsB
        rw [decide_eq_false (by omega), decide_eq_false (by omega)]; simp
    · by_cases h0 : r.acct = 0
      · unfold overB; simp [h0]
      · have := hpos r hr h0
        unfold overB
        rw [decide_eq_false (by omega)]; simp
  refine ⟨postL m [⟨a, s, n, -n⟩], ?_, hT.out, fun b j => ?_⟩
  · unfold releaseR; rw [hn]; exact taken_iff.2 ⟨hT, rfl⟩
  · have h1 := hat b j
    have h2 := h.at' b j
    rw [heldL_app, hone]
    omega
theorem Rel.key {l m : List Row} {ps : List PartT} (h : Rel l ps m) (hp : ∀ p ∈ ps, PartIn p) {r : Row} (hr : r ∈ m) : ∃ q ∈ l, q.acct = r.acct ∧ q.asset = r.asset := by
  by_cases hk : ∃ q ∈ l, q.acct = r.acct ∧ q.asset = r.asset
  · exact hk
  · exfalso
    have h1 := freeAt_none (l := l) (a := r.acct) (s := r.asset) fun q hq hh => hk ⟨q, hq, hh⟩
    have h2 := h.at' r.acct r.asset
    have h3 := freeAt_mem h.may.2.1 hr
    have h4 := h.may.1 r hr
    have h5 := (heldL_bd (l := ps) (k := (r.acct, r.asset)) fun p hpp => (hp p hpp).2.2).1
    have h6 := h4.2.1
    have h7 : r.acct = 0 → heldL ps (r.acct, r.asset) = 0 := fun e => heldL_none fun p hpp e2 => by
      have := (hp p hpp).1
      rw [e2] at this; dsimp only at this; omega
    by_cases h0 : r.acct = 0
    · have := h7 h0; omega
    · have := h4.2.2.2 h0; omega
theorem less_may {t : Stt} (h : checkF t = ByteArray.empty) {ps : List PartT} {m : List Row} {os : List Ord} {us : List Auc} (hR : Rel t.rows ps m) (hp : ∀ p ∈ ps, PartIn p) (ho : List.Sublist os t.ords) (hu : List.Sublist us t.aucs) (hs : ∀ k, heldL (partsP t.ords t.aucs) k = heldL ps k + heldL (partsP os us) k) : checkF { t with rows := m, ords := os, aucs := us } = ByteArray.empty := by
  obtain ⟨h1, h2, h3, h4, h5, h6, h7⟩ := chk_all.1 h
  have g4 := h4
  unfold rowsB at g4
  rw [Bool.and_eq_true, Bool.not_eq_true', List.any_eq_false] at g4
  have hl := mayR_iff.1 g4.1
  unfold ordsB at h5
  rw [Bool.and_eq_true, Bool.not_eq_true', List.any_eq_false, mayO_iff] at h5
  unfold aucsB at h6
  rw [Bool.and_eq_true, Bool.not_eq_true', List.any_eq_false, mayAus_iff] at h6
  refine chk_all.2 ⟨h1, h2, h3, ?_, ?_, ?_, ?_⟩
  · unfold rowsB
    rw [Bool.and_eq_true, Bool.not_eq_true', List.any_eq_false]
    refine ⟨mayR_iff.2 hR.may, fun r hr => ?_⟩
    obtain ⟨q, hq, e1, e2⟩ := hR.key hp hr
    have := g4.2 q hq
    unfold rowW at this ⊢
    rw [e1, e2] at this; exact this
  · unfold ordsB
    rw [Bool.and_eq_true, Bool.not_eq_true', List.any_eq_false, mayO_iff]
    exact ⟨⟨Nat.le_trans ho.length_le h5.1.1, fun o hm => h5.1.2.1 o (ho.subset hm), h5.1.2.2.sublist ho⟩, fun o hm => h5.2 o (ho.subset hm)⟩
  · unfold aucsB
    rw [Bool.and_eq_true, Bool.not_eq_true', List.any_eq_false, mayAus_iff]
    exact ⟨⟨fun o hm => h6.1.1 o (hu.subset hm), h6.1.2.1.sublist hu, Nat.le_trans hu.length_le h6.1.2.2⟩, fun o hm => h6.2 o (hu.subset hm)⟩
  · refine (held_iff (t := { t with rows := m, ords := os, aucs := us }) hR.may).1 fun a s hth => ?_
    have e1 := (held_iff hl).2 h7 a s hth
    show (getR m a s).held = heldL (partsP os us) (a, s)
    rw [getR_at hR.may.2.1]
    rw [getR_at hl.2.1] at e1
    have e2 := (hR.at' a s).2
    have e3 := hs (a, s)
    have e1 : heldAt t.rows a s = heldL (partsP t.ords t.aucs) (a, s) := e1
    show heldAt m a s = _
    omega
theorem heldL_flat_erase {α : Type} (f : α → List PartT) (k : Int × Int) : ∀ {l : List α} {i : Nat} {x : α}, l[i]? = some x → heldL (l.flatMap f) k = heldL (f x) k + heldL ((l.eraseIdx i).flatMap f) k
  | [], i, x, h => by simp at h
  | y :: l, 0, x, h => by
    rw [List.getElem?_cons_zero, Option.some.injEq] at h; subst h
    rw [List.eraseIdx_cons_zero, List.flatMap_cons, heldL_app]
  | y :: l, i + 1, x, h => by
    rw [List.getElem?_cons_succ] at h
    have := heldL_flat_erase f k h
    rw [List.eraseIdx_cons_succ, List.flatMap_cons, List.flatMap_cons, heldL_app, heldL_app]; omega
theorem held_ord {t : Stt} {i : Nat} {o : Ord} (h : t.ords[i]? = some o) (k : Int × Int) : heldL (partsP t.ords t.aucs) k = heldL (partO o) k + heldL (partsP (t.ords.eraseIdx i) t.aucs) k := by
  unfold partsP
  rw [heldL_app, heldL_app, heldL_flat_erase partO k h]; omega
theorem held_auc {os : List Ord} {us : List Auc} {i : Nat} {a : Auc} (h : us[i]? = some a) (k : Int × Int) : heldL (partsP os us) k = heldL (partA a) k + heldL (partsP os (us.eraseIdx i)) k := by
  unfold partsP
  rw [heldL_app, heldL_app, heldL_flat_erase partA k h]; omega
theorem held_rows {t : Stt} (h : checkF t = ByteArray.empty) (a s : Int) (hth : there a s = true) : heldAt t.rows a s = heldL (partsP t.ords t.aucs) (a, s) := by
  obtain ⟨h1, h2, h3, h4, h5, h6, h7⟩ := chk_all.1 h
  unfold rowsB at h4
  rw [Bool.and_eq_true] at h4
  have hl := mayR_iff.1 h4.1
  have e1 := (held_iff hl).2 h7 a s hth
  rw [getR_at hl.2.1] at e1
  exact e1
theorem MayR.in64s {l : List Row} (h : MayR l) : In64R l := fun r hr => by
  have h1 := may_nearAt h r.acct r.asset
  have h2 := freeAt_mem h.2.1 hr
  omega
theorem there_part {p : PartT} (h : PartIn p) : there p.1.1 p.1.2 = true := there_iff.2 ⟨by have := h.1; omega, by have := h.1; omega, h.2.1.1, h.2.1.2⟩
end Go.Proofs.YtekomjnjddhfmaaGreat
