/-
  Plain: held, and then paid, or freed. And the contract of 'given': postings in new memory. Conditions: at most 2^19 of them.
-/
import Derived.Test.YtchalebenpmnpaaGpl
import Derived.Test.YtchalebenpmnpaaGy
namespace Go.Proofs.Ytchalebenpmnpaa
open Go.RowKit

theorem asked_1 {a s f h : Int} (hA : AskedOk [⟨a, s, f, h⟩]) : PostOk ⟨a, s, f, h⟩ ∧ (f + h = 0) := by
  have h1 := hA.1 _ (List.mem_singleton.2 rfl)
  have h2 := there_iff.1 h1.1
  have h3 := hA.2 s.toNat (by rw [List.mem_range]; dsimp only at h2; omega)
  dsimp only at h2
  rw [show ((s.toNat : Nat) : Int) = s by omega, sumA_cons, if_pos rfl] at h3
  simp only [sumA, List.filter_nil, List.map_nil, List.sum_nil, Int.add_zero] at h3
  exact ⟨h1, h3⟩
theorem asked2_iff {f t s a b c d : Int} (hs : a + b + (c + d) = 0) : AskedOk [⟨f, s, a, b⟩, ⟨t, s, c, d⟩] ↔ PostOk ⟨f, s, a, b⟩ ∧ PostOk ⟨t, s, c, d⟩ := by
  constructor
  · intro h; exact ⟨h.1 _ (by simp), h.1 _ (by simp)⟩
  · rintro ⟨h1, h2⟩
    refine ⟨fun x hx => ?_, fun q hq => ?_⟩
    · simp at hx; rcases hx with rfl | rfl <;> assumption
    · rw [sumA_cons, sumA_cons]
      simp only [sumA, List.filter_nil, List.map_nil, List.sum_nil, Int.add_zero]
      split <;> omega
theorem amount_ok {n : Int} (h : amountR n ≤ mostA) : 1 ≤ n ∧ n ≤ mostA ∧ amountR n = n := by
  unfold amountR at *; unfold mostA at *
  split at h <;> rename_i h1
  · omega
  · rw [if_neg h1]; omega
theorem at_1 (a s f h c d : Int) : freeAt [⟨a, s, f, h⟩] c d = (if a = c ∧ s = d then f else 0) ∧ heldAt [⟨a, s, f, h⟩] c d = (if a = c ∧ s = d then h else 0) := by
  rw [freeAt_cons, heldAt_cons]; simp [freeAt, heldAt]
theorem at_2 (a s f h a' s' f' h' c d : Int) : freeAt [⟨a, s, f, h⟩, ⟨a', s', f', h'⟩] c d = (if a = c ∧ s = d then f else 0) + (if a' = c ∧ s' = d then f' else 0) ∧ heldAt [⟨a, s, f, h⟩, ⟨a', s', f', h'⟩] c d = (if a = c ∧ s = d then h else 0) + (if a' = c ∧ s' = d then h' else 0) := by
  rw [freeAt_cons, heldAt_cons, (at_1 a' s' f' h' c d).1, (at_1 a' s' f' h' c d).2]; exact ⟨rfl, rfl⟩
theorem way_law {l A : List Row} {f t s n : Int} (h : holdR l f s n = (A, 0)) : payR A f t s n = moveR l f t s n ∧ releaseR A f s n = (l, 0) ∧ totalR A f s = totalR l f s ∧ (getR A f s).held = (getR l f s).held + n ∧ (1 ≤ n ∧ n ≤ mostA) ∧ MayR l := by
  obtain ⟨hT, rfl⟩ := taken_iff.1 h
  obtain ⟨hp, _⟩ := asked_1 hT.asked
  have hpd := (post_d _).1 hp
  have hq := amount_in n
  dsimp only at hpd
  obtain ⟨hn1, hn2, hqn⟩ := amount_ok (n := n) (by unfold mostA; omega)
  have hat := at_post hT.may.there hT.asked.there
  rw [hqn] at hat hT hpd hq h ⊢
  have hf0 : f ≠ 0 := fun e => hpd.2.2.2 ⟨e, by omega⟩
  have hth : there f s = true := hp.1
  have hM := hT.out
  refine ⟨?_, ?_, ?_, ?_, ⟨hn1, hn2⟩, hT.may⟩
  · unfold payR moveR
    by_cases hft : f = t
    · have hk : qtyR f t n = mostA + 1 := by rw [qtyR, if_pos hft]
      have bad : ∀ (L : List Row) (x y : Row), mayR L = true → ¬ PostOk x → postR L [x, y] = ([], 1) := fun L x y h1 h2 => by
        have h3 : askedR [x, y] = 1 := by
          rw [askedR, if_neg (by simp), if_neg]
          intro h4; exact h2 (h4.1 x (by simp))
        simp [postR, h1, h3]
      rw [hk, bad _ _ _ (mayR_iff.2 hM) (by rw [post_d]; unfold mostA; dsimp only; omega), bad _ _ _ (mayR_iff.2 hT.may) (by rw [post_d]; unfold mostA; dsimp only; omega)]
    · have hk : qtyR f t n = n := by rw [qtyR, if_neg hft, hqn]
      rw [hk]
      have e1 : askedR [⟨f, s, 0, -n⟩, ⟨t, s, n, 0⟩] = askedR [⟨f, s, -n, 0⟩, ⟨t, s, n, 0⟩] := by
        have h1 : AskedOk [⟨f, s, 0, -n⟩, ⟨t, s, n, 0⟩] ↔ AskedOk [⟨f, s, -n, 0⟩, ⟨t, s, n, 0⟩] := by
          rw [asked2_iff (by omega), asked2_iff (by omega), post_d, post_d, post_d]
          unfold mostA at *
          dsimp only
          omega
        unfold askedR
        by_cases h2 : AskedOk [⟨f, s, -n, 0⟩, ⟨t, s, n, 0⟩]
        · simp only [h2, h1.2 h2]; rfl
        · have h3 : ¬ AskedOk [⟨f, s, 0, -n⟩, ⟨t, s, n, 0⟩] := fun h4 => h2 (h1.1 h4)
          simp only [h2, h3]; rfl
      have e2 : postL (postL l [⟨f, s, -n, n⟩]) [⟨f, s, 0, -n⟩, ⟨t, s, n, 0⟩] = postL l [⟨f, s, -n, 0⟩, ⟨t, s, n, 0⟩] := rowsOf_congr fun c d _ => by
        have h1 := hat c d
        rw [(at_1 f s (-n) n c d).1, (at_1 f s (-n) n c d).2] at h1
        rw [h1.1, h1.2, (at_2 f s 0 (-n) t s n 0 c d).1, (at_2 f s 0 (-n) t s n 0 c d).2, (at_2 f s (-n) 0 t s n 0 c d).1, (at_2 f s (-n) 0 t s n 0 c d).2]
        constructor <;> (repeat' split) <;> omega
      unfold postR
      rw [mayR_iff.2 hM, mayR_iff.2 hT.may, e1, e2]
  · have h1 := back_law hT
    have h2 : backP [⟨f, s, -n, n⟩] = [⟨f, s, n, -n⟩] := by simp [backP, negR]
    unfold releaseR
    rw [hqn]
    rw [h2] at h1
    exact h1
  · have h1 := hat f s
    rw [(at_1 f s (-n) n f s).1, (at_1 f s (-n) n f s).2, if_pos ⟨rfl, rfl⟩, if_pos ⟨rfl, rfl⟩] at h1
    unfold totalR
    rw [getR_at hM.2.1, getR_at hT.may.2.1]
    dsimp only
    rw [h1.1, h1.2]; congr 2; omega
  · have h1 := hat f s
    rw [(at_1 f s (-n) n f s).1, (at_1 f s (-n) n f s).2, if_pos ⟨rfl, rfl⟩, if_pos ⟨rfl, rfl⟩] at h1
    rw [getR_at hM.2.1, getR_at hT.may.2.1]
    exact h1.2
set_option maxRecDepth 20000 in
theorem given_c {l : List Row} {m : Nat} {ad : Option Addr} {cap : Nat} {w : World} (hm : l.length = m) (HS : SlL w ad cap l) (hl : l.length ≤ 524288) : Calls Try.prog 12 #[.slice ad m cap] w fun e w' => (∃ v, e = .returned v ∧ OwnL 34 w.heap.size w' v l) ∧ Below w.heap.size w w' := by
  subst hm
  have hw := Below.refl w.heap.size w
  refine fn_enter 19 Try.func12 rfl rfl rfl ?_
  repeat' (first | (refine lw_pure rfl (pv_move rfl) ?_) | (refine lw_pure rfl (pv_assign rfl) ?_) | (refine is_cw ?_; first | (refine cw_seq ?_) | (refine cw_region ?_) | (refine cw_true rfl rfl ?_) | (refine cw_false rfl rfl ?_) | (refine is_cd ?_; refine cw_true rfl (by first | assumption | exact decide_eq_true (by omega) | exact dec_notT (by omega)) ?_) | (refine is_cd ?_; refine cw_false rfl (by first | assumption | exact decide_eq_false (by omega) | exact dec_notF (by omega)) ?_) | (refine cw_skip ?_) | (refine cw_block ?_) | (refine cw_exit ?_) | (refine cw_ret ?_)) | (refine is_qw ?_; first | (with_reducible refine qw_then ?_) | (with_reducible refine qw_in ?_) | (with_reducible refine qw_in_hit ?_) | (refine qw_in_miss rfl ?_) | (with_reducible refine qw_then_exit ?_) | (with_reducible refine qw_then_ret ?_) | (with_reducible refine qw_in_ret ?_)) | (refine lw_nil ?_) | ((refine is_bin ?_; first | (refine lw_pure rfl (pv_lss rfl rfl) ?_) | (refine lw_pure rfl (pv_inc rfl rfl (by omega)) ?_) | (refine lw_pure rfl (pv_add rfl rfl (by omega)) ?_))) | ((refine is_load ?_; first | (refine lw_pure rfl (pv_load (t1 rfl) rfl (by first | fail)) ?_) | (refine lw_pure rfl (pv_loada (tA rfl) rfl (by first | fail) (by rfl)) ?_))) | ((refine is_ia ?_; first | (refine lw_pure rfl (pv_ian (tS rfl) rfl rfl (by omega)) ?_) | (refine lw_pure rfl (pv_ia (tS rfl) rfl rfl (by omega)) ?_))) | ((refine is_bi ?_; first | (refine lw_pure rfl (pv_lenl (tS rfl) rfl) ?_) | (refine lw_pure rfl (pv_lens (tStr rfl) rfl) ?_))))
  refine cw_loop (σ := Nat × Value) (fun s => [(0, .slice ad l.length cap), (3, s.2), (4, .int .i64 (s.1 : Nat))]) (fun s wr => s.1 ≤ l.length ∧ Below w.heap.size w wr ∧ OwnL 34 w.heap.size wr s.2 (l.take s.1)) (fun s => l.length - s.1) (0, .slice none 0 0) (by repeat' (first | exact trivial | refine ⟨rfl, ?_⟩)) ⟨Nat.zero_le _, hw, Own.nil _⟩ ?_
  clear hw
  rintro ⟨k, v⟩ wr ⟨hk, hw, hO⟩
  replace hk : k ≤ l.length := hk
  replace hO : OwnL 34 w.heap.size wr v (l.take k) := hO
  by_cases hlt : k < l.length
  · have hxk : l[k]? = some l[k] := List.getElem?_eq_getElem hlt
    obtain ⟨ab, ao, rfl, -, -⟩ := HS.at (by intro h; rw [h] at hlt; simp at hlt)
    have htl : (l.take k).length ≤ k := by rw [List.length_take]; omega
    generalize l[k] = r at hxk
    repeat' (first | (refine lw_pure rfl (pv_move rfl) ?_) | (refine lw_pure rfl (pv_assign rfl) ?_) | (refine is_cw ?_; first | (refine cw_seq ?_) | (refine cw_region ?_) | (refine cw_true rfl rfl ?_) | (refine cw_false rfl rfl ?_) | (refine is_cd ?_; refine cw_true rfl (by first | assumption | exact decide_eq_true (by omega) | exact dec_notT (by omega)) ?_) | (refine is_cd ?_; refine cw_false rfl (by first | assumption | exact decide_eq_false (by omega) | exact dec_notF (by omega)) ?_) | (refine cw_skip ?_) | (refine cw_block ?_) | (refine cw_exit ?_) | (refine cw_ret ?_)) | (refine is_qw ?_; first | (with_reducible refine qw_then ?_) | (with_reducible refine qw_in ?_) | (with_reducible refine qw_in_hit ?_) | (refine qw_in_miss rfl ?_) | (with_reducible refine qw_then_exit ?_) | (with_reducible refine qw_then_ret ?_) | (with_reducible refine qw_in_ret ?_)) | (refine lw_nil ?_) | ((refine is_bin ?_; first | (refine lw_pure rfl (pv_lss rfl rfl) ?_) | (refine lw_pure rfl (pv_inc rfl rfl (by omega)) ?_) | (refine lw_pure rfl (pv_add rfl rfl (by omega)) ?_))) | ((refine is_load ?_; first | (refine lw_pure rfl (pv_load (t1 rfl) rfl (by first | exact SlR.ld (HS.mono hw) hxk rfl | exact SlR.ld1 (HS.mono hw) hxk rfl)) ?_) | (refine lw_pure rfl (pv_loada (tA rfl) rfl (by first | exact SlR.lda (HS.mono hw) hxk) (by rfl)) ?_))) | ((refine is_ia ?_; first | (refine lw_pure rfl (pv_ian (tS rfl) rfl rfl (by omega)) ?_) | (refine lw_pure rfl (pv_ia (tS rfl) rfl rfl (by omega)) ?_))) | ((refine is_bi ?_; first | (refine lw_pure rfl (pv_lenl (tS rfl) rfl) ?_) | (refine lw_pure rfl (pv_lens (tStr rfl) rfl) ?_))))
    refine lw_bs1 elemP rfl rfl (cs := encR r) rfl rfl (by omega) ?_; intro wb HB hb hz
    have hbs := (grow_trans hw hb).size
    refine lw_app elemP encR_len encR_one rfl rfl rfl (hO.mono hb) (HB.slR (xs := [r]) encR_len rfl (by omega)) rfl hbs (by simp; omega) (by simp [maxLen]; omega) ?_; intro v9 w9 hO9 hg9 hb9
    replace hw := (grow_trans hw hb).trans hb9
    repeat' (first | (refine lw_pure rfl (pv_move rfl) ?_) | (refine lw_pure rfl (pv_assign rfl) ?_) | (refine is_cw ?_; first | (refine cw_seq ?_) | (refine cw_region ?_) | (refine cw_true rfl rfl ?_) | (refine cw_false rfl rfl ?_) | (refine is_cd ?_; refine cw_true rfl (by first | assumption | exact decide_eq_true (by omega) | exact dec_notT (by omega)) ?_) | (refine is_cd ?_; refine cw_false rfl (by first | assumption | exact decide_eq_false (by omega) | exact dec_notF (by omega)) ?_) | (refine cw_skip ?_) | (refine cw_block ?_) | (refine cw_exit ?_) | (refine cw_ret ?_)) | (refine is_qw ?_; first | (with_reducible refine qw_then ?_) | (with_reducible refine qw_in ?_) | (with_reducible refine qw_in_hit ?_) | (refine qw_in_miss rfl ?_) | (with_reducible refine qw_then_exit ?_) | (with_reducible refine qw_then_ret ?_) | (with_reducible refine qw_in_ret ?_)) | (refine lw_nil ?_) | ((refine is_bin ?_; first | (refine lw_pure rfl (pv_lss rfl rfl) ?_) | (refine lw_pure rfl (pv_inc rfl rfl (by omega)) ?_) | (refine lw_pure rfl (pv_add rfl rfl (by omega)) ?_))) | ((refine is_load ?_; first | (refine lw_pure rfl (pv_load (t1 rfl) rfl (by first | fail)) ?_) | (refine lw_pure rfl (pv_loada (tA rfl) rfl (by first | fail) (by rfl)) ?_))) | ((refine is_ia ?_; first | (refine lw_pure rfl (pv_ian (tS rfl) rfl rfl (by omega)) ?_) | (refine lw_pure rfl (pv_ia (tS rfl) rfl rfl (by omega)) ?_))) | ((refine is_bi ?_; first | (refine lw_pure rfl (pv_lenl (tS rfl) rfl) ?_) | (refine lw_pure rfl (pv_lens (tStr rfl) rfl) ?_))))
    refine qw_round (k + 1, v9) (by repeat' (first | exact trivial | refine ⟨rfl, ?_⟩)) ⟨by show k + 1 ≤ _; omega, hw, ?_⟩ (by show l.length - (k + 1) < l.length - k; omega)
    show OwnL _ _ _ _ (l.take (k + 1))
    rw [List.take_add_one, hxk]; exact hO9
  · have hkl : k = l.length := by omega
    subst hkl
    rw [List.take_length] at hO
    repeat' (first | (refine lw_pure rfl (pv_move rfl) ?_) | (refine lw_pure rfl (pv_assign rfl) ?_) | (refine is_cw ?_; first | (refine cw_seq ?_) | (refine cw_region ?_) | (refine cw_true rfl rfl ?_) | (refine cw_false rfl rfl ?_) | (refine is_cd ?_; refine cw_true rfl (by first | assumption | exact decide_eq_true (by omega) | exact dec_notT (by omega)) ?_) | (refine is_cd ?_; refine cw_false rfl (by first | assumption | exact decide_eq_false (by omega) | exact dec_notF (by omega)) ?_) | (refine cw_skip ?_) | (refine cw_block ?_) | (refine cw_exit ?_) | (refine cw_ret ?_)) | (refine is_qw ?_; first | (with_reducible refine qw_then ?_) | (with_reducible refine qw_in ?_) | (with_reducible refine qw_in_hit ?_) | (refine qw_in_miss rfl ?_) | (with_reducible refine qw_then_exit ?_) | (with_reducible refine qw_then_ret ?_) | (with_reducible refine qw_in_ret ?_)) | (refine lw_nil ?_) | ((refine is_bin ?_; first | (refine lw_pure rfl (pv_lss rfl rfl) ?_) | (refine lw_pure rfl (pv_inc rfl rfl (by omega)) ?_) | (refine lw_pure rfl (pv_add rfl rfl (by omega)) ?_))) | ((refine is_load ?_; first | (refine lw_pure rfl (pv_load (t1 rfl) rfl (by first | fail)) ?_) | (refine lw_pure rfl (pv_loada (tA rfl) rfl (by first | fail) (by rfl)) ?_))) | ((refine is_ia ?_; first | (refine lw_pure rfl (pv_ian (tS rfl) rfl rfl (by omega)) ?_) | (refine lw_pure rfl (pv_ia (tS rfl) rfl rfl (by omega)) ?_))) | ((refine is_bi ?_; first | (refine lw_pure rfl (pv_lenl (tS rfl) rfl) ?_) | (refine lw_pure rfl (pv_lens (tStr rfl) rfl) ?_))))
    exact qw_ret1 rfl rfl ⟨⟨_, rfl, hO⟩, hw⟩
end Go.Proofs.Ytchalebenpmnpaa
