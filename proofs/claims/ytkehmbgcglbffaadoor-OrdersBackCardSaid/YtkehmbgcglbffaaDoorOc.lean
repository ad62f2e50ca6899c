/-
  Library functions at open orders and at lots: IndexFunc, DeleteFunc, Clone, Delete. Conditions: those that each theorem names.
-/
import Derived.Test.YtkehmbgcglbffaaDoorOb
import Derived.Test.YtkehmbgcglbffaaDoorDl
namespace Go.Proofs.YtkehmbgcglbffaaDoor
open Go.RowKit Go.PlainAid

theorem zeroP (w : World) : (zeroValue 34).run Tryd.prog w = .ok (.agg #[.int .i64 0, .int .i64 0, .int .i64 0, .int .u8 0, .int .i64 0, .int .i64 0]) w := by kernel_rfl
theorem zeroL (w : World) : (zeroValue 36).run Tryd.prog w = .ok (.agg #[.int .i64 0, .int .i64 0, .int .i64 0, .int .i64 0]) w := by kernel_rfl
set_option maxRecDepth 20000 in
theorem indexf_P {xs : List Opn} {m : Nat} {ad : Option Addr} {cap : Nat} {w : World} (base : Nat) (p : Opn → Bool) (F : FuncId) (caps : Array Value) (he : entersB Tryd.prog F = true) (hbw : base ≤ w.heap.size) (hF : ∀ x, x ∈ xs → ∀ w', Below base w w' → Calls Tryd.prog F (#[] ++ [Value.agg (encP x).toArray].toArray ++ caps) w' fun e w'' => e = .returned (.bool (p x)) ∧ Below w'.heap.size w' w'') (hm : xs.length = m) (HS : SlR encP 6 w ad cap xs) : Calls Tryd.prog 68 #[.slice ad m cap, .func (.func F) #[] caps] w fun e w' => (∃ i, e = .returned (.int .i64 i) ∧ ((i = -1 ∧ ∀ x ∈ xs, p x = false) ∨ ∃ (k : Nat) (r : Opn), i = k ∧ xs[k]? = some r ∧ p r = true ∧ ∀ x ∈ xs.take k, p x = false)) ∧ Below w.heap.size w w' := by
  subst hm
  have hw := Below.refl w.heap.size w
  have hla := HS.le
  have hma := HS.max
  refine fn_enter 19 Tryd.func68 rfl rfl rfl ?_
  repeat' (first | (refine lw_pure rfl (pv_move rfl) ?_) | (refine lw_pure rfl (pv_assign rfl) ?_) | (refine is_cw ?_; first | (refine cw_seq ?_) | (refine cw_region ?_) | (refine cw_block ?_)) | (refine is_qw ?_; first | (with_reducible refine qw_then ?_)) | (refine lw_nil ?_) | ((refine is_bi ?_; first | (refine lw_pure rfl (pv_lenl (tS rfl) rfl) ?_))))
  refine cw_loop (σ := Nat) (fun k => [(0, .slice ad xs.length cap), (1, .func (.func F) #[] caps), (7, .int .i64 (xs.length : Nat)), (8, .int .i64 (k : Nat))]) (fun k wr => k ≤ xs.length ∧ Below w.heap.size w wr ∧ ∀ x ∈ xs.take k, p x = false) (fun k => xs.length - k) 0 (by repeat' (first | exact trivial | refine ⟨rfl, ?_⟩)) ⟨Nat.zero_le _, hw, by simp⟩ ?_
  clear hw
  rintro k wr ⟨hk, hw, hn⟩
  by_cases hlt : k < xs.length
  · have hxk : xs[k]? = some xs[k] := List.getElem?_eq_getElem hlt
    have hmem := List.getElem_mem hlt
    obtain ⟨ab, ao, rfl, -, -⟩ := HS.at (by intro h; rw [h] at hlt; simp at hlt)
    generalize xs[k] = x at hxk hmem
    repeat' (first | (refine lw_pure rfl (pv_move rfl) ?_) | (refine lw_pure rfl (pv_assign rfl) ?_) | (refine is_cw ?_; first | (refine cw_seq ?_) | (refine cw_region ?_) | (refine cw_true rfl (by first | assumption | exact decide_eq_true (by omega) | exact dec_notT (by omega)) ?_) | (refine cw_skip ?_) | (refine cw_block ?_)) | (refine is_qw ?_; first | (with_reducible refine qw_then ?_)) | (refine lw_nil ?_) | ((refine is_bin ?_; first | (refine lw_pure rfl (pv_lss rfl rfl) ?_))) | ((refine is_load ?_; first | (refine lw_pure rfl (pv_loada (tA rfl) rfl (by first | exact SlR.lda (HS.mono hw) hxk) (by rfl)) ?_))) | ((refine is_ia ?_; first | (refine lw_pure rfl (pv_ian (tS rfl) rfl rfl (by omega)) ?_))))
    refine lw_callv (f := F) rfl he rfl rfl (hF x hmem _ (hw.mono hbw)) ?_; rintro e w1 ⟨rfl, hb⟩; refine ⟨_, rfl, ?_⟩; replace hw := grow_trans hw hb; clear hb
    cases hp : p x with
    | true =>
      repeat' (first | (refine lw_pure rfl (pv_move rfl) ?_) | (refine lw_pure rfl (pv_assign rfl) ?_) | (refine is_cw ?_; first | (refine cw_seq ?_) | (refine cw_region ?_) | (refine cw_true rfl rfl ?_) | (refine cw_ret ?_)) | (refine is_qw ?_; first | (with_reducible refine qw_then ?_) | (with_reducible refine qw_then_ret ?_) | (with_reducible refine qw_in_ret ?_)) | (refine lw_nil ?_))
      exact qw_ret1 rfl rfl ⟨⟨_, rfl, Or.inr ⟨k, x, rfl, hxk, hp, hn⟩⟩, hw⟩
    | false =>
      repeat' (first | (refine lw_pure rfl (pv_move rfl) ?_) | (refine is_cw ?_; first | (refine cw_region ?_) | (refine cw_false rfl rfl ?_) | (refine cw_skip ?_)) | (refine is_qw ?_; first | (with_reducible refine qw_then ?_) | (with_reducible refine qw_in ?_)) | (refine lw_nil ?_) | ((refine is_bin ?_; first | (refine lw_pure rfl (pv_inc rfl rfl (by omega)) ?_))))
      refine qw_round (k + 1) (by repeat' (first | exact trivial | refine ⟨rfl, ?_⟩)) ⟨by omega, hw, ?_⟩ (by omega)
      intro y hy
      rw [List.take_add_one, hxk] at hy
      rcases List.mem_append.1 hy with hy | hy
      · exact hn y hy
      · simp at hy; subst hy; exact hp
  · have hkl : k = xs.length := by omega
    subst hkl
    rw [List.take_length] at hn
    repeat' (first | (refine lw_pure rfl (pv_assign rfl) ?_) | (refine is_cw ?_; first | (refine cw_seq ?_) | (refine cw_region ?_) | (refine cw_false rfl (by first | assumption | exact decide_eq_false (by omega) | exact dec_notF (by omega)) ?_) | (refine cw_exit ?_) | (refine cw_ret ?_)) | (refine is_qw ?_; first | (with_reducible refine qw_then ?_) | (with_reducible refine qw_in_hit ?_) | (with_reducible refine qw_then_exit ?_)) | (refine lw_nil ?_) | ((refine is_bin ?_; first | (refine lw_pure rfl (pv_lss rfl rfl) ?_))))
    exact qw_ret1 rfl rfl ⟨⟨_, rfl, Or.inl ⟨rfl, hn⟩⟩, hw⟩

set_option maxRecDepth 20000 in
theorem indexf_L {xs : List Lt} {m : Nat} {ad : Option Addr} {cap : Nat} {w : World} (base : Nat) (p : Lt → Bool) (F : FuncId) (caps : Array Value) (he : entersB Tryd.prog F = true) (hbw : base ≤ w.heap.size) (hF : ∀ x, x ∈ xs → ∀ w', Below base w w' → Calls Tryd.prog F (#[] ++ [Value.agg (encL x).toArray].toArray ++ caps) w' fun e w'' => e = .returned (.bool (p x)) ∧ Below w'.heap.size w' w'') (hm : xs.length = m) (HS : SlR encL 4 w ad cap xs) : Calls Tryd.prog 42 #[.slice ad m cap, .func (.func F) #[] caps] w fun e w' => (∃ i, e = .returned (.int .i64 i) ∧ ((i = -1 ∧ ∀ x ∈ xs, p x = false) ∨ ∃ (k : Nat) (r : Lt), i = k ∧ xs[k]? = some r ∧ p r = true ∧ ∀ x ∈ xs.take k, p x = false)) ∧ Below w.heap.size w w' := by
  subst hm
  have hw := Below.refl w.heap.size w
  have hla := HS.le
  have hma := HS.max
  refine fn_enter 19 Tryd.func42 rfl rfl rfl ?_
  repeat' (first | (refine lw_pure rfl (pv_move rfl) ?_) | (refine lw_pure rfl (pv_assign rfl) ?_) | (refine is_cw ?_; first | (refine cw_seq ?_) | (refine cw_region ?_) | (refine cw_block ?_)) | (refine is_qw ?_; first | (with_reducible refine qw_then ?_)) | (refine lw_nil ?_) | ((refine is_bi ?_; first | (refine lw_pure rfl (pv_lenl (tS rfl) rfl) ?_))))
  refine cw_loop (σ := Nat) (fun k => [(0, .slice ad xs.length cap), (1, .func (.func F) #[] caps), (7, .int .i64 (xs.length : Nat)), (8, .int .i64 (k : Nat))]) (fun k wr => k ≤ xs.length ∧ Below w.heap.size w wr ∧ ∀ x ∈ xs.take k, p x = false) (fun k => xs.length - k) 0 (by repeat' (first | exact trivial | refine ⟨rfl, ?_⟩)) ⟨Nat.zero_le _, hw, by simp⟩ ?_
  clear hw
  rintro k wr ⟨hk, hw, hn⟩
  by_cases hlt : k < xs.length
  · have hxk : xs[k]? = some xs[k] := List.getElem?_eq_getElem hlt
    have hmem := List.getElem_mem hlt
    obtain ⟨ab, ao, rfl, -, -⟩ := HS.at (by intro h; rw [h] at hlt; simp at hlt)
    generalize xs[k] = x at hxk hmem
    repeat' (first | (refine lw_pure rfl (pv_move rfl) ?_) | (refine lw_pure rfl (pv_assign rfl) ?_) | (refine is_cw ?_; first | (refine cw_seq ?_) | (refine cw_region ?_) | (refine cw_true rfl (by first | assumption | exact decide_eq_true (by omega) | exact dec_notT (by omega)) ?_) | (refine cw_skip ?_) | (refine cw_block ?_)) | (refine is_qw ?_; first | (with_reducible refine qw_then ?_)) | (refine lw_nil ?_) | ((refine is_bin ?_; first | (refine lw_pure rfl (pv_lss rfl rfl) ?_))) | ((refine is_load ?_; first | (refine lw_pure rfl (pv_loada (tA rfl) rfl (by first | exact SlR.lda (HS.mono hw) hxk) (by rfl)) ?_))) | ((refine is_ia ?_; first | (refine lw_pure rfl (pv_ian (tS rfl) rfl rfl (by omega)) ?_))))
    refine lw_callv (f := F) rfl he rfl rfl (hF x hmem _ (hw.mono hbw)) ?_; rintro e w1 ⟨rfl, hb⟩; refine ⟨_, rfl, ?_⟩; replace hw := grow_trans hw hb; clear hb
    cases hp : p x with
    | true =>
      repeat' (first | (refine lw_pure rfl (pv_move rfl) ?_) | (refine lw_pure rfl (pv_assign rfl) ?_) | (refine is_cw ?_; first | (refine cw_seq ?_) | (refine cw_region ?_) | (refine cw_true rfl rfl ?_) | (refine cw_ret ?_)) | (refine is_qw ?_; first | (with_reducible refine qw_then ?_) | (with_reducible refine qw_then_ret ?_) | (with_reducible refine qw_in_ret ?_)) | (refine lw_nil ?_))
      exact qw_ret1 rfl rfl ⟨⟨_, rfl, Or.inr ⟨k, x, rfl, hxk, hp, hn⟩⟩, hw⟩
    | false =>
      repeat' (first | (refine lw_pure rfl (pv_move rfl) ?_) | (refine is_cw ?_; first | (refine cw_region ?_) | (refine cw_false rfl rfl ?_) | (refine cw_skip ?_)) | (refine is_qw ?_; first | (with_reducible refine qw_then ?_) | (with_reducible refine qw_in ?_)) | (refine lw_nil ?_) | ((refine is_bin ?_; first | (refine lw_pure rfl (pv_inc rfl rfl (by omega)) ?_))))
      refine qw_round (k + 1) (by repeat' (first | exact trivial | refine ⟨rfl, ?_⟩)) ⟨by omega, hw, ?_⟩ (by omega)
      intro y hy
      rw [List.take_add_one, hxk] at hy
      rcases List.mem_append.1 hy with hy | hy
      · exact hn y hy
      · simp at hy; subst hy; exact hp
  · have hkl : k = xs.length := by omega
    subst hkl
    rw [List.take_length] at hn
    repeat' (first | (refine lw_pure rfl (pv_assign rfl) ?_) | (refine is_cw ?_; first | (refine cw_seq ?_) | (refine cw_region ?_) | (refine cw_false rfl (by first | assumption | exact decide_eq_false (by omega) | exact dec_notF (by omega)) ?_) | (refine cw_exit ?_) | (refine cw_ret ?_)) | (refine is_qw ?_; first | (with_reducible refine qw_then ?_) | (with_reducible refine qw_in_hit ?_) | (with_reducible refine qw_then_exit ?_)) | (refine lw_nil ?_) | ((refine is_bin ?_; first | (refine lw_pure rfl (pv_lss rfl rfl) ?_))))
    exact qw_ret1 rfl rfl ⟨⟨_, rfl, Or.inl ⟨rfl, hn⟩⟩, hw⟩

set_option maxRecDepth 20000 in
set_option maxHeartbeats 1000000 in
theorem delfg_P {xs : List Opn} {v : Value} {w : World} (base : Nat) (p : Opn → Bool) (F : FuncId) (caps : Array Value) (he : entersB Tryd.prog F = true) (hbw : base ≤ w.heap.size) (hF : ∀ x, x ∈ xs → ∀ w', Below base w w' → Calls Tryd.prog F (#[] ++ [Value.agg (encP x).toArray].toArray ++ caps) w' fun e w'' => e = .returned (.bool (p x)) ∧ Below w'.heap.size w' w'') (hO : Own encP 6 34 base w v xs) : Calls Tryd.prog 49 #[v, .func (.func F) #[] caps] w fun e w' => (∃ v', e = .returned v' ∧ Own encP 6 34 base w' v' (xs.filter fun x => !p x)) ∧ w.grownBy w' v.ownBlock ∧ Below base w w' := by
  have hw := Below.refl w.heap.size w
  obtain ⟨ad, cap, rfl, HS, hbase⟩ := Own.slR encP_len hO
  have hla := HS.le
  have hma := HS.max
  refine fn_enter 42 Tryd.func49 rfl rfl rfl ?_
  repeat' (first | (refine lw_pure rfl (pv_move rfl) ?_) | (refine lw_pure rfl (pv_assign rfl) ?_) | (refine is_cw ?_; first | (refine cw_seq ?_) | (refine cw_region ?_)) | (refine is_qw ?_; first | (with_reducible refine qw_then ?_)) | (refine lw_nil ?_))
  refine lw_call (f := 68) (by kernel_rfl) rfl rfl (indexf_P base p F caps he hbw hF rfl HS) ?_; rintro e w1 ⟨⟨i, rfl, hi⟩, hb⟩; refine ⟨_, rfl, ?_⟩; replace hw := grow_trans hw hb; replace hO := hO.mono hb; clear hb
  rcases hi with ⟨rfl, hn⟩ | ⟨i, r, rfl, hxi, hr, hn⟩
  · repeat' (first | (refine lw_pure rfl (pv_move rfl) ?_) | (refine lw_pure rfl (pv_assign rfl) ?_) | (refine is_cw ?_; first | (refine cw_seq ?_) | (refine cw_region ?_) | (refine cw_true rfl rfl ?_) | (refine cw_ret ?_)) | (refine is_qw ?_; first | (with_reducible refine qw_then ?_) | (with_reducible refine qw_then_ret ?_)) | (refine lw_nil ?_) | ((refine is_bin ?_; first | (refine lw_pure rfl (pv_eql rfl rfl) ?_))))
    refine qw_ret1 rfl rfl ⟨⟨_, rfl, ?_⟩, gb_of hw _, hw.mono hbw⟩
    rw [List.filter_eq_self.2 (fun x hx => by simp [hn x hx])]; exact hO
  · have hil : i < xs.length := (List.getElem?_eq_some_iff.1 hxi).1
    obtain ⟨g, rfl⟩ : ∃ g, ad = some ⟨g, 0, none⟩ := by
      cases ad with
      | none => have := (HS.ofNone rfl).1; subst this; simp at hil
      | some a =>
        obtain ⟨b, o, sp⟩ := a
        obtain ⟨h1, _⟩ := HS.ofSome _ rfl (by have := HS.le; omega)
        have h2 := (hbase _ rfl).2
        simp only at h1 h2
        exact ⟨b, by rw [h1, h2]⟩
    have hgb : base ≤ g := (hbase _ rfl).1
    have hG := gb_of hw (some g)
    replace hw := hw.mono hbw
    have hs1 : base ≤ w1.heap.size := Nat.le_trans hbw hw.size
    repeat' (first | (refine lw_pure rfl (pv_move rfl) ?_) | (refine lw_pure rfl (pv_assign rfl) ?_) | (refine is_cw ?_; first | (refine cw_seq ?_) | (refine cw_region ?_) | (refine cw_false rfl rfl ?_) | (refine cw_skip ?_) | (refine cw_block ?_)) | (refine is_qw ?_; first | (with_reducible refine qw_then ?_)) | (refine lw_nil ?_) | ((refine is_bin ?_; first | (refine lw_pure rfl (pv_eql rfl rfl) ?_) | (refine lw_pure rfl (pv_inc rfl rfl (by omega)) ?_))))
    refine cw_loop (σ := (Nat × Nat) × List Opn) (fun s => [(0, .slice (some ⟨g, 0, none⟩) xs.length cap), (1, .func (.func F) #[] caps), (5, .int .i64 (s.1.1 : Nat)), (6, .int .i64 (s.1.2 : Nat))]) (fun s wr => (s.1.2 ≤ xs.length ∧ s.1.1 < s.1.2) ∧ (Below base w wr ∧ w.grownBy wr (some g)) ∧ Own encP 6 34 base wr (.slice (some ⟨g, 0, none⟩) xs.length cap) s.2 ∧ s.2.length = xs.length ∧ s.2.take s.1.1 = (xs.take s.1.2).filter (fun x => !p x) ∧ s.2.drop s.1.2 = xs.drop s.1.2) (fun s => xs.length - s.1.2) ((i, i + 1), xs) (by repeat' (first | exact trivial | refine ⟨rfl, ?_⟩)) ⟨⟨by show i + 1 ≤ _; omega, by show i < i + 1; omega⟩, ⟨hw, hG⟩, hO, rfl, ?_, rfl⟩ ?_
    · show xs.take i = _
      rw [List.take_add_one, hxi, List.filter_append, List.filter_eq_self.2 (fun x hx => by simp [hn x hx])]
      simp [hr]
    clear hw hO hG
    rintro ⟨⟨i, j⟩, ys⟩ wr ⟨⟨hj, hij⟩, ⟨hw, hG⟩, hO, hyl, hti, hdj⟩
    change CW _ _ _ _ [(0, .slice (some ⟨g, 0, none⟩) xs.length cap), (1, .func (.func F) #[] caps), (5, .int .i64 (i : Nat)), (6, .int .i64 (j : Nat))] wr
    dsimp only at hj hij hO hyl hti hdj
    rw [← hyl] at hO
    have hbr : base ≤ wr.heap.size := Nat.le_trans hbw hw.size
    by_cases hlt : j < xs.length
    · have hxj : xs[j]? = some xs[j] := List.getElem?_eq_getElem hlt
      have hyj : ys[j]? = some xs[j] := by
        have := congrArg (fun l => l[0]?) hdj
        simp only [List.getElem?_drop, Nat.add_zero] at this
        rw [this, hxj]
      have hmem := List.getElem_mem hlt
      generalize xs[j] = x at hxj hyj hmem
      obtain ⟨a', c', hv', HY, -⟩ := Own.slR encP_len hO
      injection hv' with h1 h2 h3
      subst h1 h3
      have hw0 := hw
      clear hw
      have hw := Below.refl wr.heap.size wr
      repeat' (first | (refine lw_pure rfl (pv_move rfl) ?_) | (refine is_cw ?_; first | (refine cw_seq ?_) | (refine cw_region ?_) | (refine cw_true rfl (by first | assumption | exact decide_eq_true (by omega) | exact dec_notT (by omega)) ?_) | (refine cw_skip ?_) | (refine cw_block ?_)) | (refine is_qw ?_; first | (with_reducible refine qw_then ?_)) | (refine lw_nil ?_) | ((refine is_bin ?_; first | (refine lw_pure rfl (pv_lss rfl rfl) ?_))) | ((refine is_load ?_; first | (refine lw_pure rfl (pv_loada (tA rfl) rfl (by first | exact SlR.lda (HY.mono hw) hyj) (by rfl)) ?_))) | ((refine is_ia ?_; first | (refine lw_pure rfl (pv_ian (tS rfl) rfl rfl (by omega)) ?_))) | ((refine is_bi ?_; first | (refine lw_pure rfl (pv_lenl (tS rfl) rfl) ?_))))
      refine lw_varN rfl (by first | exact tyv_25 | exact tyv_26 | exact tyv_33 | exact tyv_34 | exact tyv_35 | exact tyv_36 | exact tyv_37 | exact tyv_50 | exact tyv_51 | exact tyv_81 | exact tyv_82) rfl (tZ rfl) (fun _ => rfl) rfl rfl ?_; intro N wn hN HX hb; replace hN := Nat.le_trans hw.size hN; replace hw := grow_trans hw hb; clear hb
      replace hO := hO.mono hw
      replace hw0 := hw0.trans (hw.mono hbr)
      replace hG := gb_below hG hw
      ; clear hw; have hw := Below.refl wn.heap.size wn
      repeat' (first | (refine lw_pure rfl (pv_move rfl) ?_) | (refine is_cw ?_; first | (refine cw_seq ?_) | (refine cw_region ?_)) | (refine is_qw ?_; first | (with_reducible refine qw_then ?_)) | (refine lw_nil ?_) | ((refine is_load ?_; first | (refine lw_pure rfl (pv_loada (tA rfl) rfl (by first | exact PT.lda (HX.mono hw)) (by rfl)) ?_))))
      refine lw_callv (f := F) rfl he rfl rfl (hF x hmem _ hw0) ?_; rintro e w2 ⟨rfl, hb⟩; refine ⟨_, rfl, ?_⟩
      replace hO := hO.mono hb
      replace HX := HX.mono hb
      replace hw0 := hw0.trans (hb.mono (Nat.le_trans hbw hw0.size))
      replace hG := gb_below hG hb
      clear hb hw
      have hw := Below.refl w2.heap.size w2
      cases hp : p x with
      | true =>
        repeat' (first | (refine lw_pure rfl (pv_move rfl) ?_) | (refine lw_pure rfl (pv_assign rfl) ?_) | (refine is_cw ?_; first | (refine cw_region ?_) | (refine cw_false rfl rfl ?_) | (refine cw_skip ?_)) | (refine is_qw ?_; first | (with_reducible refine qw_then ?_) | (with_reducible refine qw_in ?_)) | (refine lw_nil ?_) | ((refine is_bin ?_; first | (refine lw_pure rfl (pv_inc rfl rfl (by omega)) ?_))) | ((refine is_un ?_; first | (refine lw_pure rfl (pv_not rfl) ?_))))
        refine qw_round ((i, j + 1), ys) (by repeat' (first | exact trivial | refine ⟨rfl, ?_⟩)) ⟨⟨by show j + 1 ≤ _; omega, by show i < j + 1; omega⟩, ⟨hw0, hG⟩, by rw [← hyl]; exact hO, hyl, ?_, ?_⟩ (by show xs.length - (j + 1) < xs.length - j; omega)
        · show ys.take i = (xs.take (j + 1)).filter _
          rw [hti, List.take_add_one, hxj, List.filter_append]; simp [hp]
        · show ys.drop (j + 1) = xs.drop (j + 1)
          rw [← List.drop_drop, hdj, List.drop_drop]
      | false =>
        have hiy : i < ys.length := by omega
        repeat' (first | (refine lw_pure rfl (pv_move rfl) ?_) | (refine is_cw ?_; first | (refine cw_seq ?_) | (refine cw_region ?_) | (refine cw_true rfl rfl ?_)) | (refine is_qw ?_; first | (with_reducible refine qw_then ?_)) | (refine lw_nil ?_) | ((refine is_load ?_; first | (refine lw_pure rfl (pv_loada (tA rfl) rfl (by first | exact PT.lda (HX.mono hw)) (by rfl)) ?_))) | ((refine is_ia ?_; first | (refine lw_pure rfl (pv_ian (tS rfl) rfl rfl (by omega)) ?_))) | ((refine is_un ?_; first | (refine lw_pure rfl (pv_not rfl) ?_))))
        refine lw_storeO (i := i) (u := x) (tZ rfl) encP_len encP_one rfl (by omega) rfl rfl hO hiy ?_; intro w3 hO3 hg3 hz3
        replace hw0 := hw0.grown hg3 (Nat.le_trans hbw hw0.size) (by intro q hq; injection hq with hq; omega)
        replace hG := gb_trans hG hg3
        repeat' (first | (refine lw_pure rfl (pv_move rfl) ?_) | (refine lw_pure rfl (pv_assign rfl) ?_) | (refine is_cw ?_; first | (refine cw_region ?_)) | (refine is_qw ?_; first | (with_reducible refine qw_then ?_) | (with_reducible refine qw_in ?_)) | (refine lw_nil ?_) | ((refine is_bin ?_; first | (refine lw_pure rfl (pv_inc rfl rfl (by omega)) ?_))))
        refine qw_round ((i + 1, j + 1), ys.set i x) (by repeat' (first | exact trivial | refine ⟨rfl, ?_⟩)) ⟨⟨by show j + 1 ≤ _; omega, by show i + 1 < j + 1; omega⟩, ⟨hw0, hG⟩, by rw [← hyl]; exact hO3, by rw [List.length_set]; exact hyl, ?_, ?_⟩ (by show xs.length - (j + 1) < xs.length - j; omega)
        · show (ys.set i x).take (i + 1) = (xs.take (j + 1)).filter _
          rw [List.take_add_one, List.getElem?_set, if_pos rfl, if_pos hiy, List.take_set_of_le (Nat.le_refl _), hti, List.take_add_one, hxj, List.filter_append]; simp [hp]
        · show (ys.set i x).drop (j + 1) = xs.drop (j + 1)
          rw [List.drop_set_of_lt (by omega), ← List.drop_drop, hdj, List.drop_drop]
    · have hjl : j = xs.length := by omega
      subst hjl
      rw [List.take_length] at hti
      have hw0 := hw
      clear hw
      have hw := Below.refl wr.heap.size wr
      repeat' (first | (refine lw_pure rfl (pv_move rfl) ?_) | (refine is_cw ?_; first | (refine cw_seq ?_) | (refine cw_region ?_) | (refine cw_false rfl (by first | assumption | exact decide_eq_false (by omega) | exact dec_notF (by omega)) ?_) | (refine cw_exit ?_)) | (refine is_qw ?_; first | (with_reducible refine qw_then ?_) | (with_reducible refine qw_in_hit ?_) | (with_reducible refine qw_then_exit ?_)) | (refine lw_nil ?_) | ((refine is_bin ?_; first | (refine lw_pure rfl (pv_lss rfl rfl) ?_))) | ((refine is_bi ?_; first | (refine lw_pure rfl (pv_lenl (tS rfl) rfl) ?_))) | (refine lw_pure rfl (pv_slice_l (tS rfl) rfl rfl (by omega)) ?_))
      refine lw_clear (i := i) elemP encP_len zeroP rfl rfl rfl ?_ (by rw [hyl]; simp) (by simp) hO (by omega) ?_
      · have hci : ¬ cap = i := by omega
        simp only [Int.toNat_natCast, if_neg hci, Option.map_some, Addr.add_lit, Nat.zero_add]
      intro w3 hg3 hO3
      replace hw0 := hw0.grown hg3 (Nat.le_trans hbw hw0.size) (by intro q hq; injection hq with hq; omega)
      replace hG := gb_trans hG hg3
      repeat' (first | (refine lw_pure rfl (pv_move rfl) ?_) | (refine lw_pure rfl (pv_assign rfl) ?_) | (refine is_cw ?_; first | (refine cw_seq ?_) | (refine cw_region ?_) | (refine cw_ret ?_)) | (refine is_qw ?_; first | (with_reducible refine qw_then ?_)) | (refine lw_nil ?_) | (refine lw_pure rfl (pv_slice_h (tS rfl) rfl rfl (by omega)) ?_))
      refine qw_ret1 rfl rfl ⟨⟨_, rfl, ?_⟩, hG, hw0⟩
      rw [← hti]
      simpa using hO3

set_option maxRecDepth 20000 in
theorem clone_P {xs : List Opn} {m : Nat} {ad : Option Addr} {cap : Nat} {w : World} (hm : xs.length = m) (HS : SlR encP 6 w ad cap xs) (hl : xs.length ≤ 1048576) : Calls Tryd.prog 14 #[.slice ad m cap] w fun e w' => (∃ v, e = .returned v ∧ Own encP 6 34 w.heap.size w' v xs) ∧ Below w.heap.size w w' := by
  subst hm
  have hw := Below.refl w.heap.size w
  refine fn_enter 8 Tryd.func14 rfl rfl rfl ?_
  cases ad with
  | none =>
    obtain ⟨rfl, rfl⟩ := HS.ofNone rfl
    repeat' (first | (refine lw_pure rfl (pv_move rfl) ?_) | (refine lw_pure rfl (pv_assign rfl) ?_) | (refine lw_pure rfl (pv_slnil (tS rfl) rfl rfl) ?_) | (refine is_cw ?_; first | (refine cw_seq ?_) | (refine cw_region ?_) | (refine cw_true rfl rfl ?_) | (refine cw_ret ?_)) | (refine is_qw ?_; first | (with_reducible refine qw_then ?_) | (with_reducible refine qw_then_ret ?_)) | (refine lw_nil ?_))
    exact qw_ret1 rfl rfl ⟨⟨_, rfl, Own.nil _⟩, hw⟩
  | some ad =>
    repeat' (first | (refine lw_pure rfl (pv_move rfl) ?_) | (refine lw_pure rfl (pv_assign rfl) ?_) | (refine lw_pure rfl (pv_slnil (tS rfl) rfl rfl) ?_) | (refine is_cw ?_; first | (refine cw_seq ?_) | (refine cw_region ?_) | (refine cw_false rfl rfl ?_) | (refine cw_skip ?_)) | (refine is_qw ?_; first | (with_reducible refine qw_then ?_)) | (refine lw_nil ?_))
    refine lw_bs0 (enc := encP) elemP rfl ?_; intro wn hO hb hz
    repeat' (first | (refine lw_pure rfl (pv_move rfl) ?_))
    refine lw_app elemP encP_len encP_one rfl rfl rfl hO (HS.mono (grow_trans hw hb)) rfl (by omega) (by simp; omega) (by simp [maxLen]; omega) ?_; intro vm wn hOm hg hb9
    replace hb := hb.trans hb9
    repeat' (first | (refine lw_pure rfl (pv_assign rfl) ?_) | (refine is_cw ?_; first | (refine cw_ret ?_)) | (refine is_qw ?_; first | (with_reducible refine qw_then ?_)) | (refine lw_nil ?_))
    exact qw_ret1 rfl rfl ⟨⟨_, rfl, hOm⟩, hb⟩

set_option maxRecDepth 20000 in
theorem clone_L {xs : List Lt} {m : Nat} {ad : Option Addr} {cap : Nat} {w : World} (hm : xs.length = m) (HS : SlR encL 4 w ad cap xs) (hl : xs.length ≤ 1048576) : Calls Tryd.prog 15 #[.slice ad m cap] w fun e w' => (∃ v, e = .returned v ∧ Own encL 4 36 w.heap.size w' v xs) ∧ Below w.heap.size w w' := by
  subst hm
  have hw := Below.refl w.heap.size w
  refine fn_enter 8 Tryd.func15 rfl rfl rfl ?_
  cases ad with
  | none =>
    obtain ⟨rfl, rfl⟩ := HS.ofNone rfl
    repeat' (first | (refine lw_pure rfl (pv_move rfl) ?_) | (refine lw_pure rfl (pv_assign rfl) ?_) | (refine lw_pure rfl (pv_slnil (tS rfl) rfl rfl) ?_) | (refine is_cw ?_; first | (refine cw_seq ?_) | (refine cw_region ?_) | (refine cw_true rfl rfl ?_) | (refine cw_ret ?_)) | (refine is_qw ?_; first | (with_reducible refine qw_then ?_) | (with_reducible refine qw_then_ret ?_)) | (refine lw_nil ?_))
    exact qw_ret1 rfl rfl ⟨⟨_, rfl, Own.nil _⟩, hw⟩
  | some ad =>
    repeat' (first | (refine lw_pure rfl (pv_move rfl) ?_) | (refine lw_pure rfl (pv_assign rfl) ?_) | (refine lw_pure rfl (pv_slnil (tS rfl) rfl rfl) ?_) | (refine is_cw ?_; first | (refine cw_seq ?_) | (refine cw_region ?_) | (refine cw_false rfl rfl ?_) | (refine cw_skip ?_)) | (refine is_qw ?_; first | (with_reducible refine qw_then ?_)) | (refine lw_nil ?_))
    refine lw_bs0 (enc := encL) elemL rfl ?_; intro wn hO hb hz
    repeat' (first | (refine lw_pure rfl (pv_move rfl) ?_))
    refine lw_app elemL encL_len encL_one rfl rfl rfl hO (HS.mono (grow_trans hw hb)) rfl (by omega) (by simp; omega) (by simp [maxLen]; omega) ?_; intro vm wn hOm hg hb9
    replace hb := hb.trans hb9
    repeat' (first | (refine lw_pure rfl (pv_assign rfl) ?_) | (refine is_cw ?_; first | (refine cw_ret ?_)) | (refine is_qw ?_; first | (with_reducible refine qw_then ?_)) | (refine lw_nil ?_))
    exact qw_ret1 rfl rfl ⟨⟨_, rfl, hOm⟩, hb⟩

set_option maxRecDepth 20000 in
set_option maxHeartbeats 2000000 in
theorem delone_P {xs : List Opn} {v : Value} {w : World} (base : Nat) (i : Nat) (hi : i < xs.length) (hbw : base ≤ w.heap.size) (hO : Own encP 6 34 base w v xs) : Calls Tryd.prog 48 #[v, .int .i64 (i : Nat), .int .i64 ((i : Int) + 1)] w fun e w' => (∃ v', e = .returned v' ∧ Own encP 6 34 base w' v' (xs.eraseIdx i)) ∧ w.grownBy w' v.ownBlock ∧ Below base w w' := by
  have hb0 := Below.refl base w
  obtain ⟨ad, cap, rfl, HS, hbase⟩ := Own.slR encP_len hO
  have hla := HS.le
  have hma := HS.max
  obtain ⟨g, rfl⟩ : ∃ g, ad = some ⟨g, 0, none⟩ := by
    cases ad with
    | none => have := (HS.ofNone rfl).1; subst this; simp at hi
    | some a =>
      obtain ⟨b, o, sp⟩ := a
      obtain ⟨h1, _⟩ := HS.ofSome _ rfl (by have := HS.le; omega)
      have h2 := (hbase _ rfl).2
      simp only at h1 h2
      exact ⟨b, by rw [h1, h2]⟩
  have hgb : base ≤ g := (hbase _ rfl).1
  obtain ⟨last, hlast⟩ : ∃ last, xs[xs.length - 1]? = some last := ⟨_, List.getElem?_eq_getElem (by omega)⟩
  have hel : (xs.eraseIdx i).length = xs.length - 1 := List.length_eraseIdx_of_lt hi
  have hw := Below.refl w.heap.size w
  refine fn_enter 33 Tryd.func48 rfl rfl rfl ?_
  repeat' (first | (refine lw_pure rfl (pv_move rfl) ?_) | (refine lw_pure rfl (pv_assign rfl) ?_) | (refine lw_pure rfl (pv_slice_3 (tS rfl) rfl rfl rfl rfl (by omega)) ?_) | (refine is_cw ?_; first | (refine cw_seq ?_) | (refine cw_region ?_) | (refine cw_false rfl (by first | assumption | exact decide_eq_false (by omega) | exact dec_notF (by omega)) ?_) | (refine cw_skip ?_)) | (refine is_qw ?_; first | (with_reducible refine qw_then ?_)) | (refine lw_nil ?_) | ((refine is_bin ?_; first | (refine lw_pure rfl (pv_eql rfl rfl) ?_))) | ((refine is_bi ?_; first | (refine lw_pure rfl (pv_lenl (tS rfl) rfl) ?_))))
  have e9 : ((i : Int) + 1).toNat = i + 1 := by omega
  refine cw_drawn (fun w' => w.grownBy w' (some g)) (by kernel_rfl) (by repeat (first | exact NoPanic.body | with_reducible refine NoPanic.then ?_ | with_reducible refine NoPanic.inBlock ?_)) (fun hNP => ?_)
  have hS := gb_of (below_drew w) (some g)
  (refine aw_take 0 rfl (by kernel_rfl) (by kernel_rfl) (by kernel_rfl) hNP hS rfl (fun w' hq => pv_move rfl) ?_)
  (refine aw_take 1 rfl (by kernel_rfl) (by kernel_rfl) (by kernel_rfl) hNP hS rfl (fun w' hq => pv_move rfl) ?_)
  (refine aw_take 2 rfl (by kernel_rfl) (by kernel_rfl) (by kernel_rfl) hNP hS rfl (fun w' hq => pv_slice_h (tS rfl) rfl rfl (by omega)) ?_)
  (refine aw_take 3 rfl (by kernel_rfl) (by kernel_rfl) (by kernel_rfl) hNP hS rfl (fun w' hq => pv_move rfl) ?_)
  (refine aw_take 4 rfl (by kernel_rfl) (by kernel_rfl) (by kernel_rfl) hNP hS rfl (fun w' hq => pv_move rfl) ?_)
  (refine aw_take 5 rfl (by kernel_rfl) (by kernel_rfl) (by kernel_rfl) hNP hS rfl (fun w' hq => pv_slice_l (tS rfl) rfl rfl (by omega)) ?_)
  refine aw_act 6 (by kernel_rfl) rfl rfl rfl ?_
  refine act_appD (xs := xs) (i := i) elemP encP_len encP_one rfl rfl (by rw [e9]; by_cases hc : cap = i + 1; (exact Or.inr ⟨hc, by rw [if_pos hc]⟩); (exact Or.inl (by rw [if_neg hc]; simp [Addr.add_lit]))) (by rw [e9]) (hO.mono (below_drew _)) hi hlast ?_; intro w2 hO2 hg2; refine ⟨gb_trans hS hg2, fun hS => ?_⟩
  (refine aw_take 7 rfl (by kernel_rfl) (by kernel_rfl) (by kernel_rfl) hNP hS rfl (fun w' hq => pv_assign rfl) ?_)
  refine aw_done (by kernel_rfl) ?_
  replace hb1 := hS; clear hS hNP
  have hl2 : (xs.eraseIdx i ++ [last]).length = xs.length := by rw [List.length_append, hel]; simp; omega
  have htk : (xs.eraseIdx i ++ [last]).take (xs.length - 1) = xs.eraseIdx i := by rw [List.take_append_of_le_length (by omega), List.take_of_length_le (by omega)]
  have hnn : ((i + (xs.length - (i + 1)) : Nat) : Int) = ((xs.length - 1 : Nat) : Int) := by omega
  have hw := Below.refl w2.heap.size w2
  repeat' (first | (refine lw_pure rfl (pv_move rfl) ?_) | (refine is_cw ?_; first | (refine cw_seq ?_) | (refine cw_region ?_)) | (refine is_qw ?_; first | (with_reducible refine qw_then ?_)) | ((refine is_bi ?_; first | (refine lw_pure rfl (pv_lenl (tS rfl) rfl) ?_))) | (refine lw_pure rfl (pv_slice_lh (tS rfl) rfl rfl rfl (by omega)) ?_))
  refine lw_clear (i := xs.length - 1) elemP encP_len zeroP rfl rfl rfl ?_ ?_ ?_ hO2 (by omega) ?_
  · have hc9 : i + (xs.length - ((i : Int) + 1).toNat) = xs.length - 1 := by omega
    have hc8 : ¬ cap = xs.length - 1 := by omega
    simp only [Int.toNat_natCast, hc9, if_neg hc8, Option.map_some, Addr.add_lit, Nat.zero_add]
  · omega
  · omega
  intro w3 hg3 hO3
  rw [htk, ← hel] at hO3
  have hb3 := gb_trans hb1 hg3
  have hb2 := hb0.grown hb3 hbw (by intro q hq; injection hq with hq; omega)
  repeat' (first | (refine lw_pure rfl (pv_move rfl) ?_) | (refine lw_pure rfl (pv_assign rfl) ?_) | (refine is_cw ?_; first | (refine cw_seq ?_) | (refine cw_region ?_) | (refine cw_ret ?_)) | (refine is_qw ?_; first | (with_reducible refine qw_then ?_)) | (refine lw_nil ?_))
  refine qw_ret1 rfl rfl ⟨⟨_, rfl, ?_⟩, hb3, hb2⟩
  rw [show i + (xs.length - ((i : Int) + 1).toNat) = (xs.eraseIdx i).length by omega]
  exact hO3

set_option maxRecDepth 20000 in
set_option maxHeartbeats 2000000 in
theorem delone_L {xs : List Lt} {v : Value} {w : World} (base : Nat) (i : Nat) (hi : i < xs.length) (hbw : base ≤ w.heap.size) (hO : Own encL 4 36 base w v xs) : Calls Tryd.prog 53 #[v, .int .i64 (i : Nat), .int .i64 ((i : Int) + 1)] w fun e w' => (∃ v', e = .returned v' ∧ Own encL 4 36 base w' v' (xs.eraseIdx i)) ∧ w.grownBy w' v.ownBlock ∧ Below base w w' := by
  have hb0 := Below.refl base w
  obtain ⟨ad, cap, rfl, HS, hbase⟩ := Own.slR encL_len hO
  have hla := HS.le
  have hma := HS.max
  obtain ⟨g, rfl⟩ : ∃ g, ad = some ⟨g, 0, none⟩ := by
    cases ad with
    | none => have := (HS.ofNone rfl).1; subst this; simp at hi
    | some a =>
      obtain ⟨b, o, sp⟩ := a
      obtain ⟨h1, _⟩ := HS.ofSome _ rfl (by have := HS.le; omega)
      have h2 := (hbase _ rfl).2
      simp only at h1 h2
      exact ⟨b, by rw [h1, h2]⟩
  have hgb : base ≤ g := (hbase _ rfl).1
  obtain ⟨last, hlast⟩ : ∃ last, xs[xs.length - 1]? = some last := ⟨_, List.getElem?_eq_getElem (by omega)⟩
  have hel : (xs.eraseIdx i).length = xs.length - 1 := List.length_eraseIdx_of_lt hi
  have hw := Below.refl w.heap.size w
  refine fn_enter 33 Tryd.func53 rfl rfl rfl ?_
  repeat' (first | (refine lw_pure rfl (pv_move rfl) ?_) | (refine lw_pure rfl (pv_assign rfl) ?_) | (refine lw_pure rfl (pv_slice_3 (tS rfl) rfl rfl rfl rfl (by omega)) ?_) | (refine is_cw ?_; first | (refine cw_seq ?_) | (refine cw_region ?_) | (refine cw_false rfl (by first | assumption | exact decide_eq_false (by omega) | exact dec_notF (by omega)) ?_) | (refine cw_skip ?_)) | (refine is_qw ?_; first | (with_reducible refine qw_then ?_)) | (refine lw_nil ?_) | ((refine is_bin ?_; first | (refine lw_pure rfl (pv_eql rfl rfl) ?_))) | ((refine is_bi ?_; first | (refine lw_pure rfl (pv_lenl (tS rfl) rfl) ?_))))
  have e9 : ((i : Int) + 1).toNat = i + 1 := by omega
  refine cw_drawn (fun w' => w.grownBy w' (some g)) (by kernel_rfl) (by repeat (first | exact NoPanic.body | with_reducible refine NoPanic.then ?_ | with_reducible refine NoPanic.inBlock ?_)) (fun hNP => ?_)
  have hS := gb_of (below_drew w) (some g)
  (refine aw_take 0 rfl (by kernel_rfl) (by kernel_rfl) (by kernel_rfl) hNP hS rfl (fun w' hq => pv_move rfl) ?_)
  (refine aw_take 1 rfl (by kernel_rfl) (by kernel_rfl) (by kernel_rfl) hNP hS rfl (fun w' hq => pv_move rfl) ?_)
  (refine aw_take 2 rfl (by kernel_rfl) (by kernel_rfl) (by kernel_rfl) hNP hS rfl (fun w' hq => pv_slice_h (tS rfl) rfl rfl (by omega)) ?_)
  (refine aw_take 3 rfl (by kernel_rfl) (by kernel_rfl) (by kernel_rfl) hNP hS rfl (fun w' hq => pv_move rfl) ?_)
  (refine aw_take 4 rfl (by kernel_rfl) (by kernel_rfl) (by kernel_rfl) hNP hS rfl (fun w' hq => pv_move rfl) ?_)
  (refine aw_take 5 rfl (by kernel_rfl) (by kernel_rfl) (by kernel_rfl) hNP hS rfl (fun w' hq => pv_slice_l (tS rfl) rfl rfl (by omega)) ?_)
  refine aw_act 6 (by kernel_rfl) rfl rfl rfl ?_
  refine act_appD (xs := xs) (i := i) elemL encL_len encL_one rfl rfl (by rw [e9]; by_cases hc : cap = i + 1; (exact Or.inr ⟨hc, by rw [if_pos hc]⟩); (exact Or.inl (by rw [if_neg hc]; simp [Addr.add_lit]))) (by rw [e9]) (hO.mono (below_drew _)) hi hlast ?_; intro w2 hO2 hg2; refine ⟨gb_trans hS hg2, fun hS => ?_⟩
  (refine aw_take 7 rfl (by kernel_rfl) (by kernel_rfl) (by kernel_rfl) hNP hS rfl (fun w' hq => pv_assign rfl) ?_)
  refine aw_done (by kernel_rfl) ?_
  replace hb1 := hS; clear hS hNP
  have hl2 : (xs.eraseIdx i ++ [last]).length = xs.length := by rw [List.length_append, hel]; simp; omega
  have htk : (xs.eraseIdx i ++ [last]).take (xs.length - 1) = xs.eraseIdx i := by rw [List.take_append_of_le_length (by omega), List.take_of_length_le (by omega)]
  have hnn : ((i + (xs.length - (i + 1)) : Nat) : Int) = ((xs.length - 1 : Nat) : Int) := by omega
  have hw := Below.refl w2.heap.size w2
  repeat' (first | (refine lw_pure rfl (pv_move rfl) ?_) | (refine is_cw ?_; first | (refine cw_seq ?_) | (refine cw_region ?_)) | (refine is_qw ?_; first | (with_reducible refine qw_then ?_)) | ((refine is_bi ?_; first | (refine lw_pure rfl (pv_lenl (tS rfl) rfl) ?_))) | (refine lw_pure rfl (pv_slice_lh (tS rfl) rfl rfl rfl (by omega)) ?_))
  refine lw_clear (i := xs.length - 1) elemL encL_len zeroL rfl rfl rfl ?_ ?_ ?_ hO2 (by omega) ?_
  · have hc9 : i + (xs.length - ((i : Int) + 1).toNat) = xs.length - 1 := by omega
    have hc8 : ¬ cap = xs.length - 1 := by omega
    simp only [Int.toNat_natCast, hc9, if_neg hc8, Option.map_some, Addr.add_lit, Nat.zero_add]
  · omega
  · omega
  intro w3 hg3 hO3
  rw [htk, ← hel] at hO3
  have hb3 := gb_trans hb1 hg3
  have hb2 := hb0.grown hb3 hbw (by intro q hq; injection hq with hq; omega)
  repeat' (first | (refine lw_pure rfl (pv_move rfl) ?_) | (refine lw_pure rfl (pv_assign rfl) ?_) | (refine is_cw ?_; first | (refine cw_seq ?_) | (refine cw_region ?_) | (refine cw_ret ?_)) | (refine is_qw ?_; first | (with_reducible refine qw_then ?_)) | (refine lw_nil ?_))
  refine qw_ret1 rfl rfl ⟨⟨_, rfl, ?_⟩, hb3, hb2⟩
  rw [show i + (xs.length - ((i : Int) + 1).toNat) = (xs.eraseIdx i).length by omega]
  exact hO3

end Go.Proofs.YtkehmbgcglbffaaDoor
