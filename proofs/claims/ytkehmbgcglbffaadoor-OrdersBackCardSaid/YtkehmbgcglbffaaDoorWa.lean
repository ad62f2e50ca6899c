/-
  Contract of the laws' run (layer 22): events told one after another, from nothing. Conditions: the events read as such; the table of kinds lies in memory (KnW).
-/
import Derived.Test.YtkehmbgcglbffaaDoorOz
namespace Go.Proofs.YtkehmbgcglbffaaDoor
open Go.RowKit Go.PlainAid

def stepF (s : List Opn × List Lt × Int) (e : Evt) : List Opn × List Lt × Int := if (eventR s.1 s.2.1 e).2.2 = 0 then eventR s.1 s.2.1 e else (s.1, s.2.1, (eventR s.1 s.2.1 e).2.2)
def runF (es : List Evt) : List Opn × List Lt × Int := es.foldl stepF ([], [], 0)
theorem runF_take {es : List Evt} {k : Nat} {e : Evt} (h : es[k]? = some e) : runF (es.take (k + 1)) = stepF (runF (es.take k)) e := by
  unfold runF; rw [take_snoc h, List.foldl_append]; rfl
/-- events in memory, one beside another -/
def EvsR (w : World) (xs : List EvC) (es : List Evt) : Prop := xs.length = es.length ∧ ∀ (j : Nat) x e, xs[j]? = some x → es[j]? = some e → EvR w x e
theorem EvsR.mono {w w' : World} {xs : List EvC} {es : List Evt} (h : EvsR w xs es) (hb : Below w.heap.size w w') : EvsR w' xs es := ⟨h.1, fun j x e h1 h2 => (h.2 j x e h1 h2).mono hb⟩
set_option maxRecDepth 20000 in
set_option maxHeartbeats 4000000 in
theorem run_c {xs : List EvC} {es : List Evt} {o cc : Nat} {c : Option Addr} {w : World} (ho : xs.length = o) (HV : SlR encV 4 w c cc xs) (HE : EvsR w xs es) (hK : KnW w) :
    Calls Tryd.prog 7 #[.slice c o cc] w fun e w' => (∃ vo vt, e = .returned (.tuple #[vo, vt, .int .i64 (runF es).2.2]) ∧ Own encP 6 34 w.heap.size w' vo (runF es).1 ∧ Own encL 4 36 w.heap.size w' vt (runF es).2.1) ∧ Below w.heap.size w w' := by
  subst ho
  have hcc := HV.le
  have hcm := HV.max
  have hw := Below.refl w.heap.size w
  refine fn_enter 35 Tryd.func7 rfl rfl rfl ?_
  repeat' (first | (refine lw_pure rfl (pv_assign rfl) ?_) | (refine is_cw ?_; first | (refine cw_seq ?_) | (refine cw_region ?_) | (refine cw_block ?_)) | (refine is_qw ?_; first | (with_reducible refine qw_then ?_)) | (refine lw_nil ?_))
  refine cw_loop (σ := Nat × Value × Value) (fun s => [(0, .slice c xs.length cc), (5, s.2.1), (6, s.2.2), (7, .int .i64 (runF (es.take s.1)).2.2), (8, .int .i64 (s.1 : Nat))]) (fun s wr => s.1 ≤ xs.length ∧ Below w.heap.size w wr ∧ Own encP 6 34 w.heap.size wr s.2.1 (runF (es.take s.1)).1 ∧ Own encL 4 36 w.heap.size wr s.2.2 (runF (es.take s.1)).2.1) (fun s => xs.length - s.1) (0, .slice none 0 0, .slice none 0 0) (by repeat' (first | exact trivial | refine ⟨rfl, ?_⟩)) ⟨Nat.zero_le _, hw, Own.nil _, Own.nil _⟩ ?_
  clear hw
  rintro ⟨k, vo, vt⟩ wr ⟨hk, hW, hO, hT⟩
  dsimp only at hk hO hT
  change CW _ _ _ _ [(0, .slice c xs.length cc), (5, vo), (6, vt), (7, .int .i64 (runF (es.take k)).2.2), (8, .int .i64 (k : Nat))] wr
  have hxe := HE.1
  by_cases hlt : k < xs.length
  · have hxk : xs[k]? = some xs[k] := List.getElem?_eq_getElem hlt
    have hek : es[k]? = some (es[k]'(by omega)) := List.getElem?_eq_getElem _
    obtain ⟨ab, ao, rfl, -, -⟩ := HV.at (by intro h; rw [h] at hlt; simp at hlt)
    generalize xs[k] = x at hxk
    generalize es[k]'(by omega) = e at hek
    have hst := runF_take hek
    have hR := (HE.2 k x e hxk hek).mono hW
    obtain ⟨xv, xk, xan, xmn, xcn, xax, xmx, xcx⟩ := x
    obtain ⟨r1, r2, r3, r4, r5, r6, r7, r8⟩ := hR
    simp only at r1 r2 r3 r4 r5 r6
    subst r1 r2 r3 r4
    have hK1 := hK.mono hW
    have HS := HV.mono hW
    have hsz := hW.size
    obtain ⟨oa, oc, rfl, HOs, -⟩ := Own.slR encP_len hO
    obtain ⟨ta, tc, rfl, HTs, -⟩ := Own.slR encL_len hT
    generalize runF (es.take k) = s at *
    have hw := Below.refl wr.heap.size wr
    repeat' (first | (refine lw_pure rfl (pv_move rfl) ?_) | (refine lw_pure rfl (pv_assign rfl) ?_) | (refine is_cw ?_; first | (refine cw_seq ?_) | (refine cw_region ?_) | (refine cw_true rfl (by first | assumption | exact decide_eq_true (by omega) | exact dec_notT (by omega)) ?_) | (refine cw_skip ?_) | (refine cw_block ?_)) | (refine is_qw ?_; first | (with_reducible refine qw_then ?_)) | (refine lw_nil ?_) | ((refine is_bin ?_; first | (refine lw_pure rfl (pv_lss rfl rfl) ?_))) | ((refine is_load ?_; first | (refine lw_pure rfl (pv_loada (tA rfl) rfl (by first | exact SlR.lda (HS.mono hw) hxk) (by rfl)) ?_))) | ((refine is_ia ?_; first | (refine lw_pure rfl (pv_ian (tS rfl) rfl rfl (by omega)) ?_))) | ((refine is_bi ?_; first | (refine lw_pure rfl (pv_lenl (tS rfl) rfl) ?_))))
    refine lw_call (f := 8) (by kernel_rfl) rfl rfl (ev_c r7 rfl rfl rfl rfl (HOs.mono hw) (HTs.mono hw) (r5.mono hw) (r6.mono hw) r8 (hK1.mono hw)) ?_; rintro e1 w5 ⟨⟨vo2, vt2, rfl, hO2, hT2⟩, hb⟩; refine ⟨_, rfl, ?_⟩
    have hz := hw.size
    replace hO2 := hO2.weaken (Nat.le_trans hsz hz)
    replace hT2 := hT2.weaken (Nat.le_trans hsz hz)
    replace hw := grow_trans hw hb
    replace hO := hO.mono hw
    replace hT := hT.mono hw
    have hW2 := grow_trans hW hw
    clear hb hw
    have hw := Below.refl w5.heap.size w5
    unfold stepF at hst
    by_cases h0 : (eventR s.1 s.2.1 e).2.2 = 0
    · rw [if_pos h0] at hst
      repeat' (first | (refine lw_pure rfl (pv_move rfl) ?_) | (refine lw_pure rfl (pv_assign rfl) ?_) | (refine is_cw ?_; first | (refine cw_seq ?_) | (refine cw_region ?_) | (refine cw_true rfl (by first | assumption | exact decide_eq_true (by omega) | exact dec_notT (by omega)) ?_)) | (refine is_qw ?_; first | (with_reducible refine qw_then ?_) | (with_reducible refine qw_in ?_)) | (refine lw_nil ?_) | ((refine is_bin ?_; first | (refine lw_pure rfl (pv_eql rfl rfl) ?_) | (refine lw_pure rfl (pv_inc rfl rfl (by omega)) ?_))) | (refine lw_pure rfl (pv_extract rfl rfl) ?_))
      refine qw_round (k + 1, vo2, vt2) (by simp only [hst]; exact (by repeat' (first | exact trivial | refine ⟨rfl, ?_⟩))) ⟨by show k + 1 ≤ _; omega, grow_trans hW2 hw, by rw [hst]; exact hO2, by rw [hst]; exact hT2⟩ (by show xs.length - (k + 1) < xs.length - k; omega)
    · rw [if_neg h0] at hst
      repeat' (first | (refine lw_pure rfl (pv_move rfl) ?_) | (refine lw_pure rfl (pv_assign rfl) ?_) | (refine is_cw ?_; first | (refine cw_seq ?_) | (refine cw_region ?_) | (refine cw_false rfl (by first | assumption | exact decide_eq_false (by omega) | exact dec_notF (by omega)) ?_) | (refine cw_skip ?_)) | (refine is_qw ?_; first | (with_reducible refine qw_then ?_) | (with_reducible refine qw_in ?_)) | (refine lw_nil ?_) | ((refine is_bin ?_; first | (refine lw_pure rfl (pv_eql rfl rfl) ?_) | (refine lw_pure rfl (pv_inc rfl rfl (by omega)) ?_))) | (refine lw_pure rfl (pv_extract rfl rfl) ?_))
      refine qw_round (k + 1, .slice oa s.1.length oc, .slice ta s.2.1.length tc) (by simp only [hst]; exact (by repeat' (first | exact trivial | refine ⟨rfl, ?_⟩))) ⟨by show k + 1 ≤ _; omega, grow_trans hW2 hw, by rw [hst]; exact hO, by rw [hst]; exact hT⟩ (by show xs.length - (k + 1) < xs.length - k; omega)
  · have hkl : k = es.length := by omega
    subst hkl
    rw [List.take_length] at hO hT ⊢
    have hw := hW
    repeat' (first | (refine lw_pure rfl (pv_move rfl) ?_) | (refine lw_pure rfl (pv_assign rfl) ?_) | (refine is_cw ?_; first | (refine cw_seq ?_) | (refine cw_region ?_) | (refine cw_false rfl (by first | assumption | exact decide_eq_false (by omega) | exact dec_notF (by omega)) ?_) | (refine cw_exit ?_) | (refine cw_ret ?_)) | (refine is_qw ?_; first | (with_reducible refine qw_then ?_) | (with_reducible refine qw_in_hit ?_) | (with_reducible refine qw_then_exit ?_)) | (refine lw_nil ?_) | ((refine is_bin ?_; first | (refine lw_pure rfl (pv_lss rfl rfl) ?_))) | ((refine is_bi ?_; first | (refine lw_pure rfl (pv_lenl (tS rfl) rfl) ?_))))
    exact qw_ret3 rfl rfl rfl rfl ⟨⟨_, _, rfl, hO, hT⟩, hw⟩
end Go.Proofs.YtkehmbgcglbffaaDoor
