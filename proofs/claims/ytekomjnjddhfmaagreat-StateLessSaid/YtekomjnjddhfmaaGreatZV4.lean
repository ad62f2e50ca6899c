/-
  StateLess: its row: whatever the input: true; the input reads as it did. Conditions: none.
-/
import Derived.Test.YtekomjnjddhfmaaGreatZV3
namespace Go.Proofs.YtekomjnjddhfmaaGreat
open Go.RowKit Go.PlainAid

theorem SlR.cutn {α : Type} {enc : α → List Value} {k : Nat} {w : World} {a : Option Addr} {c : Nat} {xs : List α} (h : SlR enc k w a c xs) (i : Nat) (hi : i ≤ xs.length) : SlR enc k w (if c = i then a else a.map (·.add (i * k))) (c - i) (xs.drop i) := by
  have hle := h.le
  by_cases hc : c = i
  · rw [if_pos hc]
    have e : xs.drop i = [] := by rw [List.drop_eq_nil_iff]; omega
    rw [e]
    exact ⟨by simp, by have := h.max; omega, fun hn => ⟨rfl, by have := (h.ofNone hn).2; omega⟩, fun ad had h0 => by omega⟩
  · rw [if_neg hc]
    cases a with
    | none =>
      obtain ⟨rfl, rfl⟩ := h.ofNone rfl
      simp at hi; omega
    | some ad =>
      obtain ⟨b, o, sp⟩ := ad
      have hsp := (h.ofSome _ rfl (by omega)).1
      simp only at hsp; subst hsp
      have := h.tail i hi
      simpa only [Option.map_some, Addr.add_lit] using this
section
variable {P : Program} {n : Nat} {l : Fr} {w : World} {d : Option Nat} {ty : TypeId} {pos : String} {af : Array Edge} {g : Option (Nat × Bool)} {t t' : TypeId} {x y z : Operand} {a b : Int} {k : IntKind}
theorem pv_convM (ht : cvB P t t' .u64 = true) (hx : ev l x = some (.int k a)) : Pv P n l ⟨d, .convert t t' x, ty, pos, af, g⟩ (.int .u64 (a % 18446744073709551616)) w := by
  have := pv_conv_w (P := P) (n := n) (w := w) (d := d) (ty := ty) (pos := pos) (af := af) (g := g) ht hx
  rwa [IntKind.wrap_u64] at this
theorem pv_remuL (hx : ev l x = some (.int .u64 a)) (hy : ev l y = some (.int .u64 b)) (h : 0 ≤ a ∧ 0 < b) : Pv P n l ⟨d, .binOp .rem t x y t', ty, pos, af, g⟩ (.int .u64 (a % b)) w := ⟨fun A hA => by
  have hb : b ≠ 0 := by omega
  rw [← Int.tmod_eq_emod_of_nonneg h.1]
  simp [execOp, hA.ev hx, hA.ev hy, eqGuard, binOp, Op.intDiv, hb]⟩
theorem pv_slice_hN {ad : Option Addr} {m c e j : Nat} (ht : slB P t e = true) (hx : ev l x = some (.slice ad m c)) (hz : ev l z = some (.int k (j : Int))) (h : j ≤ c) : Pv P n l ⟨d, .slice t x none (some z) none, ty, pos, af, g⟩ (.slice ad j c) w := by
  have := pv_slice_h (P := P) (n := n) (w := w) (d := d) (ty := ty) (pos := pos) (af := af) (g := g) ht hx hz (by omega)
  rwa [Int.toNat_natCast] at this
theorem pv_slice_lN {ad : Option Addr} {m c e j : Nat} (ht : slB P t e = true) (hx : ev l x = some (.slice ad m c)) (hy : ev l y = some (.int k ((j : Int) + 1))) (h : j + 1 ≤ m) : Pv P n l ⟨d, .slice t x (some y) none none, ty, pos, af, g⟩ (.slice (if c = j + 1 then ad else ad.map (·.add ((j + 1) * e))) (m - (j + 1)) (c - (j + 1))) w := by
  have := pv_slice_l (P := P) (n := n) (w := w) (d := d) (ty := ty) (pos := pos) (af := af) (g := g) ht hx hy (by omega)
  rwa [show ((j : Int) + 1).toNat = j + 1 by omega] at this
end
theorem act_appO {α : Type} {enc : α → List Value} {k nb : Nat} {P : Program} {n : Nat} {l : Fr} {w : World} {d : Option Nat} {ty : TypeId} {pos : String} {af : Array Edge} {g : Option (Nat × Bool)} {S T : TypeId} {x y : Operand} {v : Value} {Z : Value → World → Prop} (E : ElemT P S T k nb) (hk : ∀ x, (enc x).length = k) (h1c : ∀ x, ∀ v ∈ enc x, v.oneCell' = true) {base : Nat} {xs ys : List α} {a : Option Addr} {m c : Nat} (hx : ev l x = some v) (hy : ev l y = some (.slice a m c)) (ho : Own enc k T base w v xs) (hs : SlR enc k w a c ys) (hm : m = ys.length) (hb : base ≤ w.heap.size)
    (hsz : (xs.length + ys.length) * nb ≤ 140737488355328) (hmx : xs.length + ys.length ≤ maxLen) (h : ∀ v' w', Own enc k T base w' v' (xs ++ ys) → Below base w w' → Z v' w') : Act1 P n l ⟨d, .call ⟨.builtin .append, #[x, y], #[S, S]⟩, ty, pos, af, g⟩ w Z := by
  subst hm
  refine act_some (Φ := fun v' w' => Own enc k T base w' v' (xs ++ ys) ∧ w.grownBy w' v.ownBlock) (some_append hx hy (app_own E hk h1c ty ho hs hb hsz hmx)) fun v' w' hp => h v' w' hp.1 ?_
  exact (Below.refl _ _).grown hp.2 hb (fun q hq => (Own.lt ho q hq).1)
theorem AusR.erase {w : World} {xs : List AucC} {us : List Auc} (h : AusR w xs us) (i : Nat) : AusR w (xs.eraseIdx i) (us.eraseIdx i) := by
  refine ⟨?_, fun j x a hx ha => ?_⟩
  · rw [List.length_eraseIdx, List.length_eraseIdx, h.1]
  · rw [List.getElem?_eraseIdx] at hx ha
    split at hx
    · rename_i hj; rw [if_pos hj] at ha; exact h.2 j x a hx ha
    · rename_i hj; rw [if_neg hj] at ha; exact h.2 (j + 1) x a hx ha
theorem StSm.okL {t : Stt} (h : StSm t) (hr : In64R t.rows) : StOk t := ⟨fun x hx => Nat.le_trans (Nat.le_of_lt (h.an x hx)) (by omega), fun x hx => Nat.le_trans (Nat.le_of_lt (h.im x hx)) (by omega), by have := h.al; omega, by have := h.il; omega, hr⟩
theorem OwS.put {base N : Nat} {w w' : World} {s : SttC} {t : Stt} {xs : List AucC} {cs : List Value} (h : OwS base w s t xs) (hp : PT w N 30 cs) (hg : w.grownBy w' (some N)) : OwS base w' s t xs :=
  ⟨h.n, h.A.kept hg (Or.inr (own_ne_ptN h.A hp (by decide))), h.I.kept hg (Or.inr (own_ne_ptN h.I hp (by decide))), h.R.kept hg (Or.inr (own_ne_ptN h.R hp (by decide))), h.O.kept hg (Or.inr (own_ne_ptN h.O hp (by decide))), h.X.kept hg (Or.inr (own_ne_ptN h.X hp (by decide))), h.L, fun j x a hx ha => ⟨(h.B j x a hx ha).h, (h.B j x a hx ha).o.kept hg (Or.inr (own_ne_ptN (h.B j x a hx ha).o hp (by decide)))⟩⟩
theorem OwS.down {base B : Nat} {w : World} {s : SttC} {t : Stt} {xs : List AucC} (h : OwS base w s t xs) (hB : B ≤ base) : OwS B w s t xs := ⟨h.n, h.A.weaken hB, h.I.weaken hB, h.R.weaken hB, h.O.weaken hB, h.X.weaken hB, h.L, fun j x a hx ha => ⟨(h.B j x a hx ha).h, (h.B j x a hx ha).o.weaken hB⟩⟩
theorem OwS.up {base : Nat} {w w' : World} {s : SttC} {t : Stt} {xs : List AucC} (h : OwS base w s t xs) (hb : Below w.heap.size w w') : OwS base w' s t xs := ⟨h.n, h.A.mono hb, h.I.mono hb, h.R.mono hb, h.O.mono hb, h.X.mono hb, h.L, fun j x a hx ha => ⟨(h.B j x a hx ha).h, (h.B j x a hx ha).o.mono hb⟩⟩
def partAj (a : Auc) (j : Nat) : List PartT := ((a.h.seller, a.h.inst), a.h.qty) :: (a.bids.take j).map R.bidP
theorem partAj_all {a : Auc} (h : mayAu a = true) : partA a = partAj a a.bids.length := by
  rw [R.partA_yes h]; unfold partAj; rw [List.take_length]
theorem partAj_step {a : Auc} {j : Nat} {b : Bid} (h : a.bids[j]? = some b) : partAj a (j + 1) = partAj a j ++ [R.bidP b] := by
  unfold partAj; rw [List.take_add_one, h]; simp
theorem partAj_in {a : Auc} (h : mayAu a = true) (j : Nat) : ∃ r, partA a = partAj a j ++ r := ⟨(a.bids.drop j).map R.bidP, by
  rw [R.partA_yes h]; unfold partAj; rw [List.cons_append, ← List.map_append, List.take_append_drop]⟩
structure LessI (t : Stt) (base N : Nat) (w : World) (s : SttC) (xs : List AucC) (m : List Row) (os : List Ord) (ps : List PartT) : Prop where
  O : OwS base w s { t with rows := m, ords := os } xs
  p : PT w N 30 (encS s)
  r : Rel t.rows ps m
  i : ∀ p ∈ ps, PartIn p
  o : List.Sublist os t.ords
  h : ∀ k, heldL (partsP t.ords t.aucs) k = heldL ps k + heldL (partsP os t.aucs) k
structure LessX where
  s : SttC
  xs : List AucC
  m : List Row
  os : List Ord
  ps : List PartT
theorem LessI.may {t : Stt} {base N : Nat} {w : World} {s : SttC} {xs : List AucC} {m : List Row} {os : List Ord} {ps : List PartT} (h : LessI t base N w s xs m os ps) (hc : checkF t = ByteArray.empty) : checkF { t with rows := m, ords := os } = ByteArray.empty := less_may hc h.r h.i h.o (List.Sublist.refl _) h.h
theorem own_x {s : SttC} {t : Stt} {w : World} (hS : StR w s t) (hM : StSm t) : Calls Tryz.prog 18 #[(.agg (encS s).toArray)] w fun e w' => (∃ (s9 : SttC) (xs : List AucC), e = .returned ((.agg (encS s9).toArray)) ∧ OwS w.heap.size w' s9 t xs) ∧ Below w.heap.size w w' :=
  (own_c hS hM).mono fun e w' h => by
    obtain ⟨⟨qa, da, qi, di, qr, dr, qo, d, qx, dx, xs, he, hO⟩, hb⟩ := h
    exact ⟨⟨_, xs, he, hO⟩, hb⟩
theorem LessI.up {t : Stt} {base N : Nat} {w w' : World} {s : SttC} {xs : List AucC} {m : List Row} {os : List Ord} {ps : List PartT} (h : LessI t base N w s xs m os ps) (hb : Below w.heap.size w w') : LessI t base N w' s xs m os ps := ⟨h.O.up hb, h.p.mono hb, h.r, h.i, h.o, h.h⟩
theorem few_of {t : Stt} (h : checkF t = ByteArray.empty) : (partsP t.ords t.aucs).length ≤ 8000 := by
  obtain ⟨_, _, _, _, h5, h6, _⟩ := chk_all.1 h
  unfold ordsB at h5
  unfold aucsB at h6
  rw [Bool.and_eq_true] at h5 h6
  exact parts_few h5.1 h6.1
theorem rel_e {l m' : List Row} {m : Nat} {ad : Option Addr} {cap : Nat} {a s n : Int} {w : World} (h : releaseR l a s n = (m', 0)) (hm : l.length = m) (HS : SlR encR 4 w ad cap l) (hin : In64R l) : Calls Tryz.prog 30 #[.slice ad m cap, .int .i64 a, .int .i64 s, .int .i64 n] w fun e w' => (∃ v, e = .returned (.tuple #[v, .int .i64 0]) ∧ Own encR 4 39 w.heap.size w' v m') ∧ Below w.heap.size w w' := by
  have := release_c a s n hm HS hin
  rw [h] at this; exact this
set_option maxRecDepth 20000 in
set_option maxHeartbeats 16000000 in
theorem lesslaw_c {s : SttC} {t : Stt} {k n : Int} {w : World} (hS0 : StR w s t) (hB : StBg t) : Calls Tryz.prog 7 #[(.agg (encS s).toArray), .int .i64 k, .int .i64 n] w fun e w' => e = .returned (.bool true) ∧ Below w.heap.size w w' := by
  have hE := Ext.refl w
  have hw := Below.refl w.heap.size w
  have hSt := hS0
  obtain ⟨c1, c2, c3, c4, pa, ma, ca, pi, mi, ci, pr, mr, cr, po, mo, co, px, mx, cx⟩ := s; obtain ⟨⟨e1, e2, e3, e4⟩, hma, hmi, hmr, hmo, hmx, HA, HI, HR, HO, HXs⟩ := hS0; simp only at e1 e2 e3 e4 hma hmi hmr hmo hmx HA HI HR HO HXs; subst e1 e2 e3 e4 hma hmi hmr hmo hmx
  obtain ⟨xs, HX9, HAs⟩ := HXs
  have hol := HO.le
  have hom := HO.max
  have hxl := HX9.le
  have hxm := HX9.max
  have hxn := HAs.1
  refine fn_enter 187 Tryz.func7 rfl rfl rfl ?_
  repeat' (first | (refine is_cw ?_; first | (refine cw_seq ?_) | (refine cw_region ?_)))
  refine lw_boxN rfl rfl (cs := [.int .i64 t.clock, .int .i64 t.fee, .int .i64 t.nord, .int .i64 t.nauc, .slice pa t.accs.length ca, .slice pi t.inss.length ci, .slice pr t.rows.length cr, .slice po t.ords.length co, .slice px t.aucs.length cx]) rfl ?_; intro N3 wn hN3 HX hb; replace hN3 := Nat.le_trans hw.size hN3; replace hw := grow_trans hw hb; clear hb
  replace hE := hE.mono hw; replace hSt := hSt.mono hw; replace HO := HO.mono hw; replace HX9 := HX9.mono hw; replace HAs := HAs.mono hw; clear hw; have hw := Below.refl wn.heap.size wn
  repeat' (first | (refine lw_pure rfl (pv_assign rfl) ?_) | (refine is_cw ?_; first | (refine cw_seq ?_) | (refine cw_region ?_)) | (refine is_qw ?_; first | (with_reducible refine qw_then ?_)) | (refine lw_nil ?_))
  refine lw_call (f := 8) (by kernel_rfl) rfl rfl (works_c _) ?_; rintro e w1 ⟨rfl, hb⟩; refine ⟨_, rfl, ?_⟩; replace hw := grow_trans hw hb; clear hb
  repeat' (first | (refine lw_pure rfl (pv_move rfl) ?_) | (refine is_guarded ?_; first | (refine lw_on rfl rfl rfl ?_)) | ((refine is_load ?_; first | (refine lw_pure rfl (pv_loada (tA rfl) rfl (by first | exact PT.lda (HX.mono hw)) (by rfl)) ?_))) | ((refine is_un ?_; first | (refine lw_pure rfl (pv_not rfl) ?_))))
  have hcp := weigh_c (hSt.mono hw) hB; dsimp only [encS] at hcp; refine lw_call (f := 16) (by kernel_rfl) rfl rfl hcp ?_; clear hcp; rintro e w1 ⟨⟨q, rfl, hQ⟩, hb⟩; refine ⟨_, rfl, ?_⟩; replace hw := grow_trans hw hb; clear hb
  by_cases hq : 1500 ≤ q
  · repeat' (first | (refine is_cw ?_; first | (refine cw_seq ?_) | (refine cw_region ?_) | (refine is_cd ?_; refine cw_true rfl (by first | assumption | exact decide_eq_true (by omega) | exact dec_notT (by omega)) ?_)) | (refine is_qw ?_; first | (with_reducible refine qw_then ?_)) | (refine lw_nil ?_) | (refine is_guarded ?_; first | (refine lw_on rfl rfl rfl ?_)) | ((refine is_bin ?_; first | (refine lw_pure rfl (pv_geq rfl rfl) ?_))) | (refine is_pk ?_; refine lw_pure rfl (pv_pick_f rfl rfl rfl) ?_))
    refine lw_call (f := 8) (by kernel_rfl) rfl rfl (works_c _) ?_; rintro e w1 ⟨rfl, hb⟩; refine ⟨_, rfl, ?_⟩; replace hw := grow_trans hw hb; clear hb
    repeat' (first | (refine lw_pure rfl (pv_assign rfl) ?_) | (refine is_cw ?_; first | (refine cw_ret ?_)) | (refine is_qw ?_; first | (with_reducible refine qw_then ?_) | (with_reducible refine qw_then_ret ?_)) | (refine lw_nil ?_))
    exact qw_ret1 rfl rfl ⟨rfl, (hE.mono hw).b⟩
  have hM := hQ (by omega)
  have hok := hM.okL hB.r
  clear hQ
  repeat' (first | (refine is_cw ?_; first | (refine cw_seq ?_) | (refine cw_region ?_) | (refine is_cd ?_; refine cw_false rfl (by first | assumption | exact decide_eq_false (by omega) | exact dec_notF (by omega)) ?_) | (refine cw_skip ?_)) | (refine is_qw ?_; first | (with_reducible refine qw_then ?_)) | (refine lw_nil ?_) | (refine is_guarded ?_; first | (refine lw_on rfl rfl rfl ?_)) | ((refine is_bin ?_; first | (refine lw_pure rfl (pv_geq rfl rfl) ?_))) | ((refine is_load ?_; first | (refine lw_pure rfl (pv_loada (tA rfl) rfl (by first | exact PT.lda (HX.mono hw)) (by rfl)) ?_))) | (refine is_pk ?_; refine lw_pure rfl (pv_pick_f rfl rfl rfl) ?_))
  by_cases hch : checkF t = ByteArray.empty
  rotate_left
  · have hcp := may_f hch (hSt.mono hw) hok; dsimp only [encS] at hcp; refine lw_call (f := 11) (by kernel_rfl) rfl rfl hcp ?_; clear hcp; rintro e w1 ⟨rfl, hb⟩; refine ⟨_, rfl, ?_⟩; replace hw := grow_trans hw hb; clear hb
    repeat' (first | (refine lw_pure rfl (pv_assign rfl) ?_) | (refine is_cw ?_; first | (refine cw_seq ?_) | (refine cw_region ?_) | (refine cw_true rfl rfl ?_) | (refine cw_ret ?_)) | (refine is_qw ?_; first | (with_reducible refine qw_then ?_) | (with_reducible refine qw_then_ret ?_)) | (refine lw_nil ?_) | ((refine is_un ?_; first | (refine lw_pure rfl (pv_not rfl) ?_))))
    exact qw_ret1 rfl rfl ⟨rfl, (hE.mono hw).b⟩
  have hcp := may_t hch (hSt.mono hw) hok; dsimp only [encS] at hcp; refine lw_call (f := 11) (by kernel_rfl) rfl rfl hcp ?_; clear hcp; rintro e w1 ⟨rfl, hb⟩; refine ⟨_, rfl, ?_⟩; replace hw := grow_trans hw hb; clear hb
  repeat' (first | (refine is_cw ?_; first | (refine cw_seq ?_) | (refine cw_region ?_) | (refine cw_false rfl rfl ?_) | (refine cw_skip ?_)) | (refine is_qw ?_; first | (with_reducible refine qw_then ?_)) | (refine lw_nil ?_) | ((refine is_load ?_; first | (refine lw_pure rfl (pv_loada (tA rfl) rfl (by first | exact PT.lda (HX.mono hw)) (by rfl)) ?_))) | ((refine is_un ?_; first | (refine lw_pure rfl (pv_not rfl) ?_))))
  have hcp := own_x (hSt.mono hw) hM; dsimp only [encS] at hcp; refine lw_call (f := 18) (by kernel_rfl) rfl rfl hcp ?_; clear hcp; rintro e wo ⟨⟨s9, xs9, rfl, hO⟩, hb⟩; refine ⟨_, rfl, ?_⟩
  replace hO := hO.down hw.size
  replace hw := grow_trans hw hb
  clear hb
  skip
  refine lw_varN rfl (by first | exact tyv_29 | exact tyv_30 | exact tyv_33 | exact tyv_34 | exact tyv_36 | exact tyv_37 | exact tyv_38 | exact tyv_39 | exact tyv_40 | exact tyv_41 | exact tyv_43 | exact tyv_44 | exact tyv_45 | exact tyv_46 | exact tyv_73 | exact tyv_74 | exact tyv_80 | exact tyv_81 | exact tyv_107 | exact tyv_108 | exact tyv_123 | exact tyv_146 | exact tyv_147 | exact tyv_148 | exact tyv_149) rfl (tZ rfl) (fun _ => rfl) rfl rfl ?_; intro N7 w4 hN7 H7 hb
  replace H7 : PT w4 N7 30 (encS s9) := H7
  replace hO := hO.up hb
  replace hN7 : wn.heap.size ≤ N7 := Nat.le_trans hw.size hN7
  replace hw := grow_trans hw hb
  clear hb
  obtain ⟨h1, h2, h3, h4, h5, h6, h7⟩ := chk_all.1 hch
  have hmr := h4
  unfold rowsB at hmr
  rw [Bool.and_eq_true] at hmr
  replace hmr := mayR_iff.1 hmr.1
  unfold ordsB at h5
  rw [Bool.and_eq_true, mayO_iff] at h5
  unfold aucsB at h6
  rw [Bool.and_eq_true, mayAus_iff] at h6
  have hPin := @partsP_in t.ords t.aucs
  repeat' (first | (refine is_cw ?_; first | (refine cw_seq ?_) | (refine cw_region ?_)) | (refine is_qw ?_; first | (with_reducible refine qw_then ?_)) | (refine lw_nil ?_) | ((refine is_bin ?_; first | (refine lw_pure rfl (pv_gtr rfl rfl) ?_))) | ((refine is_load ?_; first | (refine lw_pure rfl (pv_load (t1 rfl) rfl (by first | exact PT.ld0 (HX.mono hw) rfl | exact PT.ld (HX.mono hw) rfl)) ?_))) | ((refine is_fa ?_; first | (refine lw_pure rfl (pv_fa (tF rfl) rfl) ?_))) | ((refine is_bi ?_; first | (refine lw_pure rfl (pv_lenl (tS rfl) rfl) ?_))))
  have hG := Ext.mk hw
  have HX4 := HX.mono hw
  have HO4 := HO.mono hw
  clear hw
  have hw := Below.refl w4.heap.size w4
  have hN7b := H7.lt
  refine cw_cutq (σ := LessX) (fun _ => [(2, .int .i64 n), (3, .pointer (some ⟨N3, 0, none⟩)), (7, .pointer (some ⟨N7, 0, none⟩))]) (fun X wr => Below wn.heap.size wn wr ∧ LessI t wn.heap.size N7 wr X.s X.xs X.m X.os X.ps) ?_ ?_
  · by_cases h0 : 0 < t.ords.length
    rotate_left
    · repeat' (first | (refine is_cw ?_; first | (refine is_cd ?_; refine cw_false rfl (by first | assumption | exact decide_eq_false (by omega) | exact dec_notF (by omega)) ?_) | (refine cw_skip ?_)))
      exact qw_join ⟨s9, xs9, t.rows, t.ords, []⟩ (by repeat' (first | exact trivial | refine ⟨rfl, ?_⟩)) ⟨(hG.mono hw).b, hO.up hw, H7.mono hw, Rel.nil hmr, by simp, List.Sublist.refl _, fun k => by simp [heldL]⟩
    have hlm : ((t.ords.length : Nat) : Int) % 18446744073709551616 = ((t.ords.length : Nat) : Int) := Int.emod_eq_of_lt (by omega) (by omega)
    have hmod : 0 ≤ k % 18446744073709551616 % (((t.ords.length : Nat) : Int) % 18446744073709551616) ∧ k % 18446744073709551616 % (((t.ords.length : Nat) : Int) % 18446744073709551616) < ((t.ords.length : Nat) : Int) := by
      rw [hlm]; exact ⟨Int.emod_nonneg _ (by omega), Int.emod_lt_of_pos _ (by omega)⟩
    have hconv : -9223372036854775808 ≤ k % 18446744073709551616 % (((t.ords.length : Nat) : Int) % 18446744073709551616) ∧ k % 18446744073709551616 % (((t.ords.length : Nat) : Int) % 18446744073709551616) ≤ 9223372036854775807 := ⟨by have := hmod.1; omega, Int.le_trans (Int.le_of_lt hmod.2) (by omega)⟩
    obtain ⟨j, hz⟩ : ∃ j : Nat, k % 18446744073709551616 % (((t.ords.length : Nat) : Int) % 18446744073709551616) = (j : Int) := ⟨(k % 18446744073709551616 % (((t.ords.length : Nat) : Int) % 18446744073709551616)).toNat, by omega⟩
    have hjl : j < t.ords.length := by rw [hz] at hmod; omega
    have hoj : t.ords[j]? = some (t.ords[j]'(by omega)) := List.getElem?_eq_getElem _
    generalize t.ords[j]'(by omega) = o at hoj
    have hom1 := h5.1.2.1 o (List.mem_of_getElem? hoj)
    have hpos := holdsN_pos hom1
    have hnb := (holdsN_bd o).2
    have hpo := R.partO_yes (o := o) (by omega)
    have hPi : PartIn ((o.acct, holdsA o), holdsN o) := partO_in _ (by rw [hpo]; simp)
    have hsum := fun q => held_ord (t := t) hoj q
    have hle : heldL ([] ++ [((o.acct, holdsA o), holdsN o)]) (o.acct, holdsA o) ≤ heldAt t.rows o.acct (holdsA o) := by
      rw [held_rows hch _ _ (there_part hPi), hsum, hpo, List.nil_append]
      dsimp only
      have := (heldL_bd (l := partsP (t.ords.eraseIdx j) t.aucs) (k := (o.acct, holdsA o)) fun p hp => (partsP_in p hp).2.2).1
      omega
    obtain ⟨m, hrel, hR⟩ := (Rel.nil hmr).step hPi hle
    dsimp only at hrel
    obtain ⟨ab, ao, rfl, -, -⟩ := HO4.at (by intro h; rw [h] at h0; simp at h0)
    repeat' (first | (refine is_cw ?_; first | (refine cw_seq ?_) | (refine is_cd ?_; refine cw_true rfl (by first | assumption | exact decide_eq_true (by omega) | exact dec_notT (by omega)) ?_)))
    refine cw_drawn (fun w' => Below w4.heap.size w4 w') (by kernel_rfl) (by repeat (first | exact NoPanic.body | with_reducible refine NoPanic.then ?_ | with_reducible refine NoPanic.inBlock ?_)) (fun hNP => ?_)
    have hS := hw.drew
    (refine at0 0 rfl (fun w' hq => pv_fa (tF rfl) rfl) ?_)
    (refine at0 1 rfl (fun w' hq => pv_load (t1 rfl) rfl (by first | exact PT.ld0 (HX4.mono hq) rfl | exact PT.ld (HX4.mono hq) rfl | exact SlR.ld (HO4.mono hq) hoj rfl | exact SlR.ld1 (HO4.mono hq) hoj rfl)) ?_)
    (refine at0 2 rfl (fun w' hq => pv_move rfl) ?_)
    (refine at0 3 rfl (fun w' hq => pv_convM (tCv rfl rfl) rfl) ?_)
    (refine at0 4 rfl (fun w' hq => pv_fa (tF rfl) rfl) ?_)
    (refine at0 5 rfl (fun w' hq => pv_load (t1 rfl) rfl (by first | exact PT.ld0 (HX4.mono hq) rfl | exact PT.ld (HX4.mono hq) rfl | exact SlR.ld (HO4.mono hq) hoj rfl | exact SlR.ld1 (HO4.mono hq) hoj rfl)) ?_)
    (refine at0 6 rfl (fun w' hq => pv_lenl (tS rfl) rfl) ?_)
    (refine at0 7 rfl (fun w' hq => pv_convM (tCv rfl rfl) rfl) ?_)
    (refine at0 8 rfl (fun w' hq => pv_remuL rfl rfl (by omega)) ?_)
    (refine at0 9 rfl (fun w' hq => pv_conv (tCv rfl rfl) rfl hconv) ?_)
    (refine at0 10 rfl (fun w' hq => pv_iap hz (tS rfl) rfl rfl hjl) ?_)
    (refine at0 11 rfl (fun w' hq => pv_loada (tA rfl) rfl (by first | exact PT.lda (HX4.mono hq) | exact SlR.lda (HO4.mono hq) hoj) (by rfl)) ?_)
    refine aw_act 12 (by kernel_rfl) rfl rfl rfl ?_
    refine act_alloc (cs := encO ⟨0, 0, 0, 0, 0, 0⟩) (by first | exact tyv_29 | exact tyv_30 | exact tyv_33 | exact tyv_34 | exact tyv_36 | exact tyv_37 | exact tyv_38 | exact tyv_39 | exact tyv_40 | exact tyv_41 | exact tyv_43 | exact tyv_44 | exact tyv_45 | exact tyv_46 | exact tyv_73 | exact tyv_74 | exact tyv_80 | exact tyv_81 | exact tyv_107 | exact tyv_108 | exact tyv_123 | exact tyv_146 | exact tyv_147 | exact tyv_148 | exact tyv_149) rfl ?_; intro N8 w8 hN8 H8 hb; replace hN8 := Nat.le_trans hS.size hN8; refine ⟨grow_trans hS hb, fun hS => ?_⟩; clear hb
    refine aw_act 13 (by kernel_rfl) rfl rfl rfl ?_
    refine act_storea (vs := encO o) H8 (tZ rfl) rfl rfl rfl rfl (by simp [Value.oneCell', encO]) ?_; intro ws H8 hg hz9; refine ⟨st_hw hS hg hN8, fun hS => ?_⟩
    refine aw_done (by kernel_rfl) ?_
    replace hw := hS; clear hS hNP
    have hG5 := hG.mono hw
    have HX5 := HX4.mono hw
    have H75 := H7.mono hw
    have hO5 := hO.up hw
    have hN87 : N8 ≠ N7 := by omega
    clear hw
    have hw := Below.refl ws.heap.size ws
    repeat' (first | (refine is_cw ?_; first | (refine cw_seq ?_) | (refine cw_region ?_)) | (refine is_qw ?_; first | (with_reducible refine qw_then ?_)) | ((refine is_load ?_; first | (refine lw_pure rfl (pv_loada (tA rfl) rfl (by first | exact PT.lda (H8.mono hw)) (by rfl)) ?_))))
    refine lw_call (f := 28) (by kernel_rfl) rfl rfl (holds_c o _) ?_; rintro e w1 ⟨rfl, hb⟩; refine ⟨_, rfl, ?_⟩; replace hw := grow_trans hw hb; clear hb
    repeat' (first | (refine lw_pure rfl (pv_move rfl) ?_) | (refine lw_pure rfl (pv_assign rfl) ?_) | (refine is_cw ?_; first | (refine cw_seq ?_) | (refine cw_region ?_)) | (refine is_qw ?_; first | (with_reducible refine qw_then ?_)) | (refine lw_nil ?_) | ((refine is_load ?_; first | (refine lw_pure rfl (pv_load (t1 rfl) rfl (by first | exact PT.ld0 (H75.mono hw) rfl | exact PT.ld (H75.mono hw) rfl | exact PT.ld0 (H8.mono hw) rfl | exact PT.ld (H8.mono hw) rfl)) ?_))) | ((refine is_fa ?_; first | (refine lw_pure rfl (pv_fa (tF rfl) rfl) ?_))) | (refine lw_pure rfl (pv_extract rfl rfl) ?_))
    obtain ⟨l1, SO⟩ := own_sl encO_len hO5.O
    obtain ⟨l2, SR⟩ := own_sl encR_len hO5.R
    refine lw_call (f := 29) (by kernel_rfl) rfl rfl (drop_O l1 (mayO_iff.2 h5.1) hoj rfl (SO.mono hw)) ?_; rintro e wd ⟨⟨vD, rfl, oD⟩, hb⟩; refine ⟨_, rfl, ?_⟩
    replace oD := oD.weaken (Nat.le_trans hG5.b.size hw.size)
    replace hw := grow_trans hw hb
    clear hb
    obtain ⟨dA, dC, rfl⟩ := own_shape encO_len oD
    repeat' (first | (refine lw_pure rfl (pv_move rfl) ?_) | (refine lw_pure rfl (pv_assign rfl) ?_) | (refine is_cw ?_; first | (refine cw_seq ?_) | (refine cw_region ?_)) | (refine is_qw ?_; first | (with_reducible refine qw_then ?_)) | (refine lw_nil ?_) | ((refine is_load ?_; first | (refine lw_pure rfl (pv_load (t1 rfl) rfl (by first | exact PT.ld0 (H75.mono hw) rfl | exact PT.ld (H75.mono hw) rfl | exact PT.ld0 (H8.mono hw) rfl | exact PT.ld (H8.mono hw) rfl)) ?_))) | ((refine is_fa ?_; first | (refine lw_pure rfl (pv_fa (tF rfl) rfl) ?_))) | (refine lw_pure rfl (pv_extract rfl rfl) ?_))
    refine lw_call (f := 30) (by kernel_rfl) rfl rfl (rel_e hrel l2 (SR.mono hw) hmr.in64s) ?_; rintro e wq ⟨⟨vR, rfl, oR⟩, hb⟩; refine ⟨_, rfl, ?_⟩
    replace oR := oR.weaken (Nat.le_trans hG5.b.size hw.size)
    replace oD := oD.mono hb
    replace hw := grow_trans hw hb
    clear hb
    obtain ⟨rA, rC, rfl⟩ := own_shape encR_len oR
    have H76 := H75.mono hw
    have H86 := H8.mono hw
    have hO6 := hO5.up hw
    have hG6 := hG5.mono hw
    clear hw
    have hw := Below.refl wq.heap.size wq
    have hO7 : OwS wn.heap.size wq { s9 with po := dA, mo := (t.ords.eraseIdx j).length, co := dC, pr := rA, mr := m.length, cr := rC } { t with rows := m, ords := t.ords.eraseIdx j } xs9 := ⟨hO6.n, hO6.A, hO6.I, oR, oD, hO6.X, hO6.L, hO6.B⟩
    repeat' (first | (refine lw_pure rfl (pv_move rfl) ?_) | (refine lw_pure rfl (pv_assign rfl) ?_) | (refine is_cw ?_; first | (refine cw_seq ?_) | (refine cw_region ?_)) | (refine is_qw ?_; first | (with_reducible refine qw_then ?_)) | (refine lw_nil ?_) | ((refine is_fa ?_; first | (refine lw_pure rfl (pv_fa (tF rfl) rfl) ?_))) | (refine lw_pure rfl (pv_extract rfl rfl) ?_))
    refine lw_store H76 (tZ rfl) rfl rfl rfl (by simp) ?_; intro wa Ha hga hza
    replace Ha : PT wa N7 30 (encS { s9 with po := dA, mo := (t.ords.eraseIdx j).length, co := dC }) := Ha
    repeat' (first | ((refine is_fa ?_; first | (refine lw_pure rfl (pv_fa (tF rfl) rfl) ?_))))
    refine lw_store Ha (tZ rfl) rfl rfl rfl (by simp) ?_; intro wb Hb hgb hzb
    replace Hb : PT wb N7 30 (encS { s9 with po := dA, mo := (t.ords.eraseIdx j).length, co := dC, pr := rA, mr := m.length, cr := rC }) := Hb
    have hO8 := (hO7.put H76 hga).put Ha hgb
    have hG8 := (hG6.grown hga (by intro q hq; injection hq with hq; omega)).grown hgb (by intro q hq; injection hq with hq; omega)
    have H88 := pt_keptN (pt_keptN H86 hga hN87) hgb hN87
    have HX8 := HX.mono hG8.b
    have hSt8 := hSt.mono hG8.b
    clear hw
    have hw := Below.refl wb.heap.size wb
    have hL8 : LessI t wn.heap.size N7 wb { s9 with po := dA, mo := (t.ords.eraseIdx j).length, co := dC, pr := rA, mr := m.length, cr := rC } xs9 m (t.ords.eraseIdx j) [((o.acct, holdsA o), holdsN o)] := ⟨hO8, Hb, hR, by simpa using hPi, List.eraseIdx_sublist .., fun q => by rw [hsum, hpo]⟩
    have hc8 := hL8.may hch
    have hok8 : StOk { t with rows := m, ords := t.ords.eraseIdx j } := ⟨hok.a, hok.i, hok.al, hok.il, hR.may.in64s⟩
    have hf8 := few_of hc8
    have hf0 := few_of hch
    have hHP : heldP t o.acct (holdsA o) = holdsN o + heldP { t with rows := m, ords := t.ords.eraseIdx j } o.acct (holdsA o) := by
      have := hsum (o.acct, holdsA o)
      rw [hpo, heldL_cons, if_pos rfl] at this
      simp only [heldL, List.filter_nil, List.map_nil, List.sum_nil, Int.add_zero] at this
      exact this
    have hbd := heldL_bd (l := partsP (t.ords.eraseIdx j) t.aucs) (k := (o.acct, holdsA o)) fun p hp => (partsP_in p hp).2.2
    replace hbd : 0 ≤ heldP { t with rows := m, ords := t.ords.eraseIdx j } o.acct (holdsA o) ∧ heldP { t with rows := m, ords := t.ords.eraseIdx j } o.acct (holdsA o) ≤ (partsP (t.ords.eraseIdx j) t.aucs).length * 1125899906842624 := hbd
    dsimp only at hf8
    have c16 := fun (w' : World) (hb : Below wb.heap.size wb w') => R.held_c (a := o.acct) (i := holdsA o) (hO8.stR.mono hb) hf8
    have c21 := fun (w' : World) (hb : Below wb.heap.size wb w') => R.held_c (a := o.acct) (i := holdsA o) (hSt8.mono hb) hf0
    dsimp only [encS] at c21
    generalize heldP { t with rows := m, ords := t.ords.eraseIdx j } o.acct (holdsA o) = x1 at c16 hHP hbd
    generalize heldP t o.acct (holdsA o) = x0 at c21 hHP
    repeat' (first | (refine is_cw ?_; first | (refine cw_seq ?_)) | (refine is_qw ?_; first | (with_reducible refine qw_then ?_)) | (refine lw_nil ?_))
    refine cw_drawn (fun w' => Below wb.heap.size wb w') (by kernel_rfl) (by repeat (first | exact NoPanic.body | with_reducible refine NoPanic.then ?_ | with_reducible refine NoPanic.inBlock ?_)) (fun hNP => ?_)
    have hS := hw.drew
    all_goals (refine at0 0 rfl (fun w' hq => pv_move rfl) ?_)
    all_goals (refine at0 1 rfl (fun w' hq => pv_neq rfl rfl) ?_)
    all_goals (refine at0 2 rfl (fun w' hq => pv_move rfl) ?_)
    all_goals (refine at1 3 rfl rfl rfl rfl (fun w' hq => pv_move rfl) ?_)
    all_goals (refine at1 4 rfl rfl rfl rfl (fun w' hq => pv_neq rfl rfl) ?_)
    all_goals (refine at0 5 rfl (fun w' hq => pv_pick_f rfl rfl rfl) ?_)
    all_goals (refine at0 6 rfl (fun w' hq => pv_move rfl) ?_)
    all_goals (refine at1 7 rfl rfl rfl rfl (fun w' hq => pv_loada (tA rfl) rfl (by first | exact PT.lda (HX8.mono hq) | exact PT.lda (Hb.mono hq) | exact PT.lda (H88.mono hq)) (by rfl)) ?_)
    all_goals first | (refine an3 8 rfl rfl rfl ?_) | (refine an0 8 rfl rfl rfl ?_) | (refine aw_act_g 8 (by kernel_rfl) rfl rfl rfl (by first | rfl | assumption | exact decide_eq_true (by omega) | exact decide_eq_false (by omega) | exact dec_notT (by omega) | exact dec_notF (by omega)) rfl ?_; refine act_call (f := 11) (by kernel_rfl) rfl (may_t hc8 (hO8.stR.mono hS) hok8) ?_; rintro e w1 ⟨rfl, hb⟩; refine ⟨_, rfl, grow_trans hS hb, fun hS => ?_⟩)
    all_goals (refine at1 9 rfl rfl rfl rfl (fun w' hq => pv_not rfl) ?_)
    all_goals (refine at0 10 rfl (fun w' hq => pv_pick_f rfl rfl rfl) ?_)
    all_goals (refine at0 11 rfl (fun w' hq => pv_move rfl) ?_)
    all_goals (refine at1 12 rfl rfl rfl rfl (fun w' hq => pv_loada (tA rfl) rfl (by first | exact PT.lda (HX8.mono hq) | exact PT.lda (Hb.mono hq) | exact PT.lda (H88.mono hq)) (by rfl)) ?_)
    all_goals (refine at1 13 rfl rfl rfl rfl (fun w' hq => pv_fa (tF rfl) rfl) ?_)
    all_goals (refine at1 14 rfl rfl rfl rfl (fun w' hq => pv_load (t1 rfl) rfl (by first | exact PT.ld0 (HX8.mono hq) rfl | exact PT.ld (HX8.mono hq) rfl | exact PT.ld0 (Hb.mono hq) rfl | exact PT.ld (Hb.mono hq) rfl | exact PT.ld0 (H88.mono hq) rfl | exact PT.ld (H88.mono hq) rfl)) ?_)
    all_goals (refine at1 15 rfl rfl rfl rfl (fun w' hq => pv_move rfl) ?_)
    all_goals (refine at1 17 rfl rfl rfl rfl (fun w' hq => pv_loada (tA rfl) rfl (by first | exact PT.lda (HX8.mono hq) | exact PT.lda (Hb.mono hq) | exact PT.lda (H88.mono hq)) (by rfl)) ?_)
    all_goals (refine at1 18 rfl rfl rfl rfl (fun w' hq => pv_fa (tF rfl) rfl) ?_)
    all_goals (refine at1 19 rfl rfl rfl rfl (fun w' hq => pv_load (t1 rfl) rfl (by first | exact PT.ld0 (HX8.mono hq) rfl | exact PT.ld (HX8.mono hq) rfl | exact PT.ld0 (Hb.mono hq) rfl | exact PT.ld (Hb.mono hq) rfl | exact PT.ld0 (H88.mono hq) rfl | exact PT.ld (H88.mono hq) rfl)) ?_)
    all_goals (refine at1 20 rfl rfl rfl rfl (fun w' hq => pv_move rfl) ?_)
    all_goals (refine at1 22 rfl rfl rfl rfl (fun w' hq => pv_move rfl) ?_)
    all_goals first | (refine an3 16 rfl rfl rfl ?_) | (refine an0 16 rfl rfl rfl ?_) | (refine aw_act_g 16 (by kernel_rfl) rfl rfl rfl (by first | rfl | assumption | exact decide_eq_true (by omega) | exact decide_eq_false (by omega) | exact dec_notT (by omega) | exact dec_notF (by omega)) rfl ?_; refine act_call (f := 15) (by kernel_rfl) rfl (c16 _ hS) ?_; rintro e w1 ⟨rfl, hb⟩; refine ⟨_, rfl, grow_trans hS hb, fun hS => ?_⟩)
    all_goals first | (refine an3 21 rfl rfl rfl ?_) | (refine an0 21 rfl rfl rfl ?_) | (refine aw_act_g 21 (by kernel_rfl) rfl rfl rfl (by first | rfl | assumption | exact decide_eq_true (by omega) | exact decide_eq_false (by omega) | exact dec_notT (by omega) | exact dec_notF (by omega)) rfl ?_; refine act_call (f := 15) (by kernel_rfl) rfl (c21 _ hS) ?_; rintro e w1 ⟨rfl, hb⟩; refine ⟨_, rfl, grow_trans hS hb, fun hS => ?_⟩)
    all_goals (refine at1 23 rfl rfl rfl rfl (fun w' hq => pv_sub rfl rfl (by omega)) ?_)
    all_goals (refine at1 24 rfl rfl rfl rfl (fun w' hq => pv_neq rfl rfl) ?_)
    all_goals (refine at0 25 rfl (fun w' hq => pv_pick_f rfl rfl rfl) ?_)
    all_goals (refine aw_done (by kernel_rfl) ?_; replace hw := hS; clear hS hNP)
    repeat' (first | (refine is_cw ?_; first | (refine is_cd ?_; refine cw_false rfl (by first | assumption | exact decide_eq_false (by omega) | exact dec_notF (by omega)) ?_) | (refine cw_skip ?_)) | (refine is_qw ?_; first | (with_reducible refine qw_then ?_)))
    exact qw_join ⟨_, xs9, m, t.ords.eraseIdx j, [((o.acct, holdsA o), holdsN o)]⟩ (by repeat' (first | exact trivial | refine ⟨rfl, ?_⟩)) ⟨(hG8.mono hw).b, hL8.up hw⟩
  clear hw hO H7 hG HX4 HO4 hN7b
  rintro ⟨s5, xs5, m5, os5, ps5⟩ wr ⟨hw, hL⟩
  dsimp only at hL
  have HX5 := HX.mono hw
  have HX95 := HX9.mono hw
  have hG := Ext.mk hw
  clear hw
  have hw := Below.refl wr.heap.size wr
  have hNb := hL.p.lt
  by_cases hx0 : 0 < t.aucs.length
  rotate_left
  · repeat' (first | (refine lw_pure rfl (pv_assign rfl) ?_) | (refine is_cw ?_; first | (refine cw_seq ?_) | (refine cw_region ?_) | (refine is_cd ?_; refine cw_false rfl (by first | assumption | exact decide_eq_false (by omega) | exact dec_notF (by omega)) ?_) | (refine cw_skip ?_) | (refine cw_ret ?_)) | (refine is_qw ?_; first | (with_reducible refine qw_then ?_)) | (refine lw_nil ?_) | ((refine is_bin ?_; first | (refine lw_pure rfl (pv_gtr rfl rfl) ?_))) | ((refine is_load ?_; first | (refine lw_pure rfl (pv_load (t1 rfl) rfl (by first | exact PT.ld0 (HX5.mono hw) rfl | exact PT.ld (HX5.mono hw) rfl)) ?_))) | ((refine is_fa ?_; first | (refine lw_pure rfl (pv_fa (tF rfl) rfl) ?_))) | ((refine is_bi ?_; first | (refine lw_pure rfl (pv_lenl (tS rfl) rfl) ?_))))
    exact qw_ret1 rfl rfl ⟨rfl, (hE.mono (hG.mono hw).b).b⟩
  have hlm : ((t.aucs.length : Nat) : Int) % 18446744073709551616 = ((t.aucs.length : Nat) : Int) := Int.emod_eq_of_lt (by omega) (by omega)
  have hmod : 0 ≤ n % 18446744073709551616 % (((t.aucs.length : Nat) : Int) % 18446744073709551616) ∧ n % 18446744073709551616 % (((t.aucs.length : Nat) : Int) % 18446744073709551616) < ((t.aucs.length : Nat) : Int) := by
    rw [hlm]; exact ⟨Int.emod_nonneg _ (by omega), Int.emod_lt_of_pos _ (by omega)⟩
  have hconv : -9223372036854775808 ≤ n % 18446744073709551616 % (((t.aucs.length : Nat) : Int) % 18446744073709551616) ∧ n % 18446744073709551616 % (((t.aucs.length : Nat) : Int) % 18446744073709551616) ≤ 9223372036854775807 := ⟨by have := hmod.1; omega, Int.le_trans (Int.le_of_lt hmod.2) (by omega)⟩
  repeat' (first | (refine lw_pure rfl (pv_move rfl) ?_) | (refine lw_pure rfl (pv_assign rfl) ?_) | (refine is_cw ?_; first | (refine cw_seq ?_) | (refine cw_region ?_) | (refine is_cd ?_; refine cw_true rfl (by first | assumption | exact decide_eq_true (by omega) | exact dec_notT (by omega)) ?_)) | (refine is_qw ?_; first | (with_reducible refine qw_then ?_)) | (refine lw_nil ?_) | ((refine is_bin ?_; first | (refine lw_pure rfl (pv_remuL rfl rfl (by omega)) ?_) | (refine lw_pure rfl (pv_gtr rfl rfl) ?_))) | ((refine is_load ?_; first | (refine lw_pure rfl (pv_load (t1 rfl) rfl (by first | exact PT.ld0 (HX5.mono hw) rfl | exact PT.ld (HX5.mono hw) rfl)) ?_))) | ((refine is_fa ?_; first | (refine lw_pure rfl (pv_fa (tF rfl) rfl) ?_))) | ((refine is_bi ?_; first | (refine lw_pure rfl (pv_lenl (tS rfl) rfl) ?_))) | (refine is_cv ?_; refine lw_pure rfl (pv_conv (tCv rfl rfl) rfl hconv) ?_) | (refine is_cv ?_; refine lw_pure rfl (pv_convM (tCv rfl rfl) rfl) ?_))
  clear hconv
  generalize n % 18446744073709551616 % (((t.aucs.length : Nat) : Int) % 18446744073709551616) = z at hmod ⊢
  obtain ⟨j, rfl⟩ : ∃ j : Nat, z = (j : Int) := ⟨z.toNat, by omega⟩
  have hjl : j < t.aucs.length := by omega
  have haj : t.aucs[j]? = some (t.aucs[j]'(by omega)) := List.getElem?_eq_getElem _
  generalize t.aucs[j]'(by omega) = x at haj
  obtain ⟨x9, hxj, hRx⟩ := HAs.at haj
  obtain ⟨xh, ba, bm, bc⟩ := x9
  obtain ⟨hh, hm, HB0⟩ := hRx
  simp only at hh hm HB0
  subst hh hm
  have hbl := HB0.le
  have hbm := HB0.max
  have hmx := h6.1.1 x (List.mem_of_getElem? haj)
  have hPi0 : PartIn ((x.h.seller, x.h.inst), x.h.qty) := partA_in (a := x) _ (by rw [R.partA_yes hmx]; simp)
  have hsum : ∀ q, heldL (partsP t.ords t.aucs) q = heldL ps5 q + (heldL (partA x) q + heldL (partsP os5 (t.aucs.eraseIdx j)) q) := fun q => (hL.h q).trans (by rw [held_auc haj q])
  have hle : ∀ (l r : List PartT), partA x = l ++ r → ∀ a s : Int, there a s = true → heldL (ps5 ++ l) (a, s) ≤ heldAt t.rows a s := fun l r e a s hth => by
    have h1 := (heldL_bd (l := r) (k := (a, s)) fun p hp => (partA_in (a := x) p (by rw [e]; exact List.mem_append_right _ hp)).2.2).1
    have h2 := (heldL_bd (l := partsP os5 (t.aucs.eraseIdx j)) (k := (a, s)) fun p hp => (partsP_in p hp).2.2).1
    rw [held_rows hch a s hth, hsum, heldL_app, e, heldL_app]
    omega
  obtain ⟨r0, hr0⟩ := partAj_in hmx 0
  obtain ⟨m0, hrel0, hR0⟩ := hL.r.step hPi0 (hle (partAj x 0) r0 hr0 _ _ (there_part hPi0))
  dsimp only at hrel0
  obtain ⟨ab, ao, rfl, -, -⟩ := HX9.at (by intro h; rw [h] at hxj; simp at hxj)
  repeat' (first | ((refine is_load ?_; first | (refine lw_pure rfl (pv_loada (tA rfl) rfl (by first | exact PT.lda (HX5.mono hw) | exact SlR.lda (HX95.mono hw) hxj) (by rfl)) ?_))) | ((refine is_ia ?_; first | (refine lw_pure rfl (pv_ian (tS rfl) rfl rfl (by omega)) ?_))))
  refine lw_varN rfl (by first | exact tyv_29 | exact tyv_30 | exact tyv_33 | exact tyv_34 | exact tyv_36 | exact tyv_37 | exact tyv_38 | exact tyv_39 | exact tyv_40 | exact tyv_41 | exact tyv_43 | exact tyv_44 | exact tyv_45 | exact tyv_46 | exact tyv_73 | exact tyv_74 | exact tyv_80 | exact tyv_81 | exact tyv_107 | exact tyv_108 | exact tyv_123 | exact tyv_146 | exact tyv_147 | exact tyv_148 | exact tyv_149) rfl (tZ rfl) (fun _ => rfl) rfl rfl ?_; intro N16 w6 hN16 H16 hb
  replace H16 : PT w6 N16 44 [.int .i64 x.h.id, .int .i64 x.h.seller, .int .i64 x.h.inst, .bool x.h.shut, .int .i64 x.h.qty, .int .i64 x.h.reserve, .int .i64 x.h.step, .int .i64 x.h.fin, .slice ba x.bids.length bc] := H16
  replace hN16 : wr.heap.size ≤ N16 := Nat.le_trans hw.size hN16
  have hN167 : N16 ≠ N7 := by omega
  replace hw := grow_trans hw hb
  have hG6 := hG.mono hw
  have hL6 := hL.up hw
  have HB6 := HB0.mono hG6.b
  clear hw hb
  have hw := Below.refl w6.heap.size w6
  have H76 := hL6.p
  obtain ⟨l2, SR⟩ := own_sl encR_len hL6.O.R
  repeat' (first | (refine is_cw ?_; first | (refine cw_seq ?_) | (refine cw_region ?_)) | (refine is_qw ?_; first | (with_reducible refine qw_then ?_)) | (refine lw_nil ?_) | ((refine is_load ?_; first | (refine lw_pure rfl (pv_load (t1 rfl) rfl (by first | exact PT.ld0 (H76.mono hw) rfl | exact PT.ld (H76.mono hw) rfl | exact PT.ld0 (H16.mono hw) rfl | exact PT.ld (H16.mono hw) rfl)) ?_))) | ((refine is_fa ?_; first | (refine lw_pure rfl (pv_fa (tF rfl) rfl) ?_))))
  refine lw_call (f := 30) (by kernel_rfl) rfl rfl (rel_e hrel0 l2 (SR.mono hw) hL.r.may.in64s) ?_; rintro e wq ⟨⟨vR, rfl, oR⟩, hb⟩; refine ⟨_, rfl, ?_⟩
  replace oR := oR.weaken (Nat.le_trans hG6.b.size hw.size)
  replace hw := grow_trans hw hb
  clear hb
  obtain ⟨rA, rC, rfl⟩ := own_shape encR_len oR
  repeat' (first | (refine lw_pure rfl (pv_move rfl) ?_) | (refine lw_pure rfl (pv_assign rfl) ?_) | (refine is_cw ?_; first | (refine cw_seq ?_) | (refine cw_region ?_) | (refine cw_block ?_)) | (refine is_qw ?_; first | (with_reducible refine qw_then ?_)) | (refine lw_nil ?_) | (refine lw_pure rfl (pv_extract rfl rfl) ?_))
  refine cw_loop (σ := Nat × Option Addr × Nat × List Row) (fun q => [(3, .pointer (some ⟨N3, 0, none⟩)), (7, .pointer (some ⟨N7, 0, none⟩)), (15, .int .i64 (j : Nat)), (16, .pointer (some ⟨N16, 0, none⟩)), (17, .slice q.2.1 q.2.2.2.length q.2.2.1), (18, .int .i64 0), (19, .int .i64 (q.1 : Nat))]) (fun q wq => q.1 ≤ x.bids.length ∧ Below w6.heap.size w6 wq ∧ Own encR 4 39 wn.heap.size wq (.slice q.2.1 q.2.2.2.length q.2.2.1) q.2.2.2 ∧ Rel t.rows (ps5 ++ partAj x q.1) q.2.2.2) (fun q => x.bids.length - q.1) (0, rA, rC, m0) (by repeat' (first | exact trivial | refine ⟨rfl, ?_⟩)) ⟨Nat.zero_le _, hw, oR, hR0⟩ ?_
  clear hw oR hR0 hrel0 hr0 l2 SR
  rintro ⟨i, qA, qC, mi⟩ wq ⟨hi, hw, oR, hRi⟩
  dsimp only at hi oR hRi
  change CW _ _ _ _ [(3, .pointer (some ⟨N3, 0, none⟩)), (7, .pointer (some ⟨N7, 0, none⟩)), (15, .int .i64 (j : Nat)), (16, .pointer (some ⟨N16, 0, none⟩)), (17, .slice qA mi.length qC), (18, .int .i64 0), (19, .int .i64 (i : Nat))] wq
  have hG7 := hG6.mono hw
  have hL7 := hL6.up hw
  have H167 := H16.mono hw
  have HB7 := HB6.mono hw
  have hw67 := hw
  clear hw
  have hw := Below.refl wq.heap.size wq
  obtain ⟨l3, SR⟩ := own_sl encR_len oR
  by_cases hlt : i < x.bids.length
  · have hbi : x.bids[i]? = some (x.bids[i]'(by omega)) := List.getElem?_eq_getElem _
    generalize x.bids[i]'(by omega) = b at hbi
    obtain ⟨bb, bo, rfl, -, -⟩ := HB7.at (by intro h; rw [h] at hlt; simp at hlt)
    have hPib : PartIn (R.bidP b) := partA_in (a := x) _ (by rw [R.partA_yes hmx]; exact List.mem_cons_of_mem _ (List.mem_map.2 ⟨b, List.mem_of_getElem? hbi, rfl⟩))
    obtain ⟨r, hr⟩ := partAj_in hmx (i + 1)
    rw [partAj_step hbi] at hr
    obtain ⟨m', hrel, hR'⟩ := hRi.step hPib (by have := hle _ r hr _ _ (there_part hPib); rwa [← List.append_assoc] at this)
    dsimp only [R.bidP] at hrel
    repeat' (first | (refine lw_pure rfl (pv_move rfl) ?_) | (refine is_cw ?_; first | (refine cw_seq ?_) | (refine cw_region ?_) | (refine cw_true rfl rfl ?_) | (refine cw_skip ?_) | (refine cw_block ?_)) | (refine is_qw ?_; first | (with_reducible refine qw_then ?_)) | (refine lw_nil ?_) | (refine is_guarded ?_; first | (refine lw_on rfl rfl (by first | assumption | exact decide_eq_true (by omega) | exact decide_eq_false (by omega) | exact dec_notT (by omega) | exact dec_notF (by omega)) ?_)) | ((refine is_bin ?_; first | (refine lw_pure rfl (pv_lss rfl rfl) ?_) | (refine lw_pure rfl (pv_eql rfl rfl) ?_))) | ((refine is_load ?_; first | (refine lw_pure rfl (pv_load (t1 rfl) rfl (by first | exact PT.ld0 (H167.mono hw) rfl | exact PT.ld (H167.mono hw) rfl)) ?_))) | ((refine is_fa ?_; first | (refine lw_pure rfl (pv_fa (tF rfl) rfl) ?_))) | ((refine is_bi ?_; first | (refine lw_pure rfl (pv_lenl (tS rfl) rfl) ?_))) | (refine is_pk ?_; refine lw_pure rfl (pv_pick_t rfl (by first | assumption | exact decide_eq_true (by omega) | exact dec_notT (by omega)) rfl) ?_))
    refine cw_drawn (fun w' => Below wq.heap.size wq w') (by kernel_rfl) (by repeat (first | exact NoPanic.body | with_reducible refine NoPanic.then ?_ | with_reducible refine NoPanic.inBlock ?_)) (fun hNP => ?_)
    have hS := hw.drew
    (refine at0 0 rfl (fun w' hq => pv_move rfl) ?_)
    (refine at0 1 rfl (fun w' hq => pv_fa (tF rfl) rfl) ?_)
    (refine at0 2 rfl (fun w' hq => pv_load (t1 rfl) rfl (by first | exact PT.ld0 (H167.mono hq) rfl | exact PT.ld (H167.mono hq) rfl | exact SlR.ld (HB7.mono hq) hbi rfl | exact SlR.ld1 (HB7.mono hq) hbi rfl)) ?_)
    (refine at0 3 rfl (fun w' hq => pv_move rfl) ?_)
    (refine at0 4 rfl (fun w' hq => pv_ian (tS rfl) rfl rfl (by omega)) ?_)
    (refine at0 5 rfl (fun w' hq => pv_fa (tF rfl) rfl) ?_)
    (refine at0 6 rfl (fun w' hq => pv_load (t1 rfl) rfl (by first | exact PT.ld0 (H167.mono hq) rfl | exact PT.ld (H167.mono hq) rfl | exact SlR.ld (HB7.mono hq) hbi rfl | exact SlR.ld1 (HB7.mono hq) hbi rfl)) ?_)
    (refine at0 7 rfl (fun w' hq => pv_fa (tF rfl) rfl) ?_)
    (refine at0 8 rfl (fun w' hq => pv_load (t1 rfl) rfl (by first | exact PT.ld0 (H167.mono hq) rfl | exact PT.ld (H167.mono hq) rfl | exact SlR.ld (HB7.mono hq) hbi rfl | exact SlR.ld1 (HB7.mono hq) hbi rfl)) ?_)
    (refine at0 9 rfl (fun w' hq => pv_move rfl) ?_)
    (refine at0 10 rfl (fun w' hq => pv_ian (tS rfl) rfl rfl (by omega)) ?_)
    (refine at0 11 rfl (fun w' hq => pv_fa (tF rfl) rfl) ?_)
    (refine at0 12 rfl (fun w' hq => pv_load (t1 rfl) rfl (by first | exact PT.ld0 (H167.mono hq) rfl | exact PT.ld (H167.mono hq) rfl | exact SlR.ld (HB7.mono hq) hbi rfl | exact SlR.ld1 (HB7.mono hq) hbi rfl)) ?_)
    refine aw_act 13 (by kernel_rfl) rfl rfl rfl ?_
    refine act_call (f := 30) (by kernel_rfl) rfl (rel_e hrel rfl (SR.mono hS) hRi.may.in64s) ?_; rintro e w1 ⟨⟨v9, rfl, o9⟩, hb⟩; replace o9 := o9.weaken (Nat.le_trans hG7.b.size hS.size); obtain ⟨nA, nC, rfl⟩ := own_shape encR_len o9; refine ⟨_, rfl, grow_trans hS hb, fun hS => ?_⟩; clear hb
    (refine at0 14 rfl (fun w' hq => pv_move rfl) ?_)
    (refine at0 15 rfl (fun w' hq => pv_extract rfl rfl) ?_)
    (refine at0 16 rfl (fun w' hq => pv_extract rfl rfl) ?_)
    (refine at0 17 rfl (fun w' hq => pv_assign rfl) ?_)
    (refine at0 18 rfl (fun w' hq => pv_assign rfl) ?_)
    refine aw_done (by kernel_rfl) ?_
    replace hw := hS; clear hS hNP
    repeat' (first | (refine lw_pure rfl (pv_move rfl) ?_) | (refine lw_pure rfl (pv_assign rfl) ?_) | (refine is_cw ?_; first | (refine cw_region ?_)) | (refine is_qw ?_; first | (with_reducible refine qw_then ?_) | (with_reducible refine qw_in ?_)) | (refine lw_nil ?_) | ((refine is_bin ?_; first | (refine lw_pure rfl (pv_inc rfl rfl (by omega)) ?_))))
    exact qw_round (i + 1, nA, nC, m') (by repeat' (first | exact trivial | refine ⟨rfl, ?_⟩)) ⟨by show i + 1 ≤ _; omega, grow_trans hw67 hw, o9, by rw [partAj_step hbi, ← List.append_assoc]; exact hR'⟩ (by show _ - (i + 1) < _ - i; omega)
  have hie : i = x.bids.length := by omega
  subst hie
  rw [← partAj_all hmx] at hRi
  have H77 := hL7.p
  repeat' (first | (refine lw_pure rfl (pv_move rfl) ?_) | (refine is_cw ?_; first | (refine cw_seq ?_) | (refine cw_region ?_) | (refine cw_false rfl rfl ?_) | (refine cw_exit ?_)) | (refine is_qw ?_; first | (with_reducible refine qw_then ?_) | (with_reducible refine qw_in_hit ?_) | (with_reducible refine qw_then_exit ?_)) | (refine lw_nil ?_) | (refine is_guarded ?_; first | (refine lw_not rfl rfl rfl (by first | assumption | exact decide_eq_true (by omega) | exact decide_eq_false (by omega) | exact dec_notT (by omega) | exact dec_notF (by omega)) ?_)) | ((refine is_bin ?_; first | (refine lw_pure rfl (pv_lss rfl rfl) ?_))) | ((refine is_load ?_; first | (refine lw_pure rfl (pv_load (t1 rfl) rfl (by first | exact PT.ld0 (H167.mono hw) rfl | exact PT.ld (H167.mono hw) rfl)) ?_))) | ((refine is_fa ?_; first | (refine lw_pure rfl (pv_fa (tF rfl) rfl) ?_))) | ((refine is_bi ?_; first | (refine lw_pure rfl (pv_lenl (tS rfl) rfl) ?_))) | (refine is_pk ?_; refine lw_pure rfl (pv_pick_f rfl (by first | assumption | exact decide_eq_false (by omega) | exact dec_notF (by omega)) rfl) ?_))
  have hO7 : OwS wn.heap.size wq { s5 with pr := qA, mr := mi.length, cr := qC } { t with rows := mi, ords := os5 } xs5 := ⟨hL7.O.n, hL7.O.A, hL7.O.I, oR, hL7.O.O, hL7.O.X, hL7.O.L, hL7.O.B⟩
  refine lw_store H77 (tZ rfl) rfl rfl rfl (by simp) ?_; intro wa Ha hga hza
  replace Ha : PT wa N7 30 (encS { s5 with pr := qA, mr := mi.length, cr := qC }) := Ha
  have hO8 := hO7.put H77 hga
  have hG8 := hG7.grown hga (by intro q hq; injection hq with hq; omega)
  have HX8 := HX.mono hG8.b
  have HX98 := HX9.mono hG8.b
  clear hw
  have hw := Below.refl wa.heap.size wa
  repeat' (first | (refine is_cw ?_; first | (refine cw_seq ?_)) | (refine is_qw ?_; first | (with_reducible refine qw_then ?_)) | (refine lw_nil ?_))
  refine cw_drawnF 13 (fun w' => Below wa.heap.size wa w' ∧ True) (by kernel_rfl) (by repeat (first | exact NoPanic.body | with_reducible refine NoPanic.then ?_ | with_reducible refine NoPanic.inBlock ?_)) (fun hNP => ?_)
  have hU := And.intro hw.drew trivial
  first | (refine fw_take 1 rfl (by kernel_rfl) rfl rfl (by kernel_rfl) (by kernel_rfl) (by kernel_rfl) hNP hU rfl (fun w' hq => pv_fa (tF rfl) rfl) ?_)
  first | (refine fw_take 2 rfl (by kernel_rfl) rfl rfl (by kernel_rfl) (by kernel_rfl) (by kernel_rfl) hNP hU rfl (fun w' hq => pv_load (t1 rfl) rfl (by first | exact PT.ld0 hq.2 rfl | exact PT.ld hq.2 rfl)) ?_) | (refine fw_take 2 rfl (by kernel_rfl) rfl rfl (by kernel_rfl) (by kernel_rfl) (by kernel_rfl) hNP hU rfl (fun w' hq => pv_loada (tA rfl) rfl (by first | exact PT.lda hq.2) (by rfl)) ?_) | (refine fw_take 2 rfl (by kernel_rfl) rfl rfl (by kernel_rfl) (by kernel_rfl) (by kernel_rfl) hNP hU rfl (fun w' hq => pv_load (t1 rfl) rfl (by first | exact PT.ld0 (HX8.mono hq.1) rfl | exact PT.ld (HX8.mono hq.1) rfl)) ?_) | (refine fw_take 2 rfl (by kernel_rfl) rfl rfl (by kernel_rfl) (by kernel_rfl) (by kernel_rfl) hNP hU rfl (fun w' hq => pv_loada (tA rfl) rfl (by first | exact PT.lda (HX8.mono hq.1)) (by rfl)) ?_)
  first | (refine fw_take 3 rfl (by kernel_rfl) rfl rfl (by kernel_rfl) (by kernel_rfl) (by kernel_rfl) hNP hU rfl (fun w' hq => pv_move rfl) ?_)
  first | (refine fw_take 4 rfl (by kernel_rfl) rfl rfl (by kernel_rfl) (by kernel_rfl) (by kernel_rfl) hNP hU rfl (fun w' hq => pv_slice_hN (tS rfl) rfl rfl (by omega)) ?_) | (refine fw_take 4 rfl (by kernel_rfl) rfl rfl (by kernel_rfl) (by kernel_rfl) (by kernel_rfl) hNP hU rfl (fun w' hq => pv_slice_lN (tS rfl) rfl rfl (by omega)) ?_) | (refine fw_take 4 rfl (by kernel_rfl) rfl rfl (by kernel_rfl) (by kernel_rfl) (by kernel_rfl) hNP hU rfl (fun w' hq => pv_slice_l (tS rfl) rfl rfl (by omega)) ?_) | (refine fw_take 4 rfl (by kernel_rfl) rfl rfl (by kernel_rfl) (by kernel_rfl) (by kernel_rfl) hNP hU rfl (fun w' hq => pv_slice_h (tS rfl) rfl rfl (by omega)) ?_) | (refine fw_take 4 rfl (by kernel_rfl) rfl rfl (by kernel_rfl) (by kernel_rfl) (by kernel_rfl) hNP hU rfl (fun w' hq => pv_slice_lh (tS rfl) rfl rfl rfl (by omega)) ?_)
  first | (refine fw_take 6 rfl (by kernel_rfl) rfl rfl (by kernel_rfl) (by kernel_rfl) (by kernel_rfl) hNP hU rfl (fun w' hq => pv_fa (tF rfl) rfl) ?_)
  first | (refine fw_take 7 rfl (by kernel_rfl) rfl rfl (by kernel_rfl) (by kernel_rfl) (by kernel_rfl) hNP hU rfl (fun w' hq => pv_load (t1 rfl) rfl (by first | exact PT.ld0 hq.2 rfl | exact PT.ld hq.2 rfl)) ?_) | (refine fw_take 7 rfl (by kernel_rfl) rfl rfl (by kernel_rfl) (by kernel_rfl) (by kernel_rfl) hNP hU rfl (fun w' hq => pv_loada (tA rfl) rfl (by first | exact PT.lda hq.2) (by rfl)) ?_) | (refine fw_take 7 rfl (by kernel_rfl) rfl rfl (by kernel_rfl) (by kernel_rfl) (by kernel_rfl) hNP hU rfl (fun w' hq => pv_load (t1 rfl) rfl (by first | exact PT.ld0 (HX8.mono hq.1) rfl | exact PT.ld (HX8.mono hq.1) rfl)) ?_) | (refine fw_take 7 rfl (by kernel_rfl) rfl rfl (by kernel_rfl) (by kernel_rfl) (by kernel_rfl) hNP hU rfl (fun w' hq => pv_loada (tA rfl) rfl (by first | exact PT.lda (HX8.mono hq.1)) (by rfl)) ?_)
  first | (refine fw_take 8 rfl (by kernel_rfl) rfl rfl (by kernel_rfl) (by kernel_rfl) (by kernel_rfl) hNP hU rfl (fun w' hq => pv_move rfl) ?_)
  first | (refine fw_take 9 rfl (by kernel_rfl) rfl rfl (by kernel_rfl) (by kernel_rfl) (by kernel_rfl) hNP hU rfl (fun w' hq => pv_lss rfl rfl) ?_) | (refine fw_take 9 rfl (by kernel_rfl) rfl rfl (by kernel_rfl) (by kernel_rfl) (by kernel_rfl) hNP hU rfl (fun w' hq => pv_eql rfl rfl) ?_) | (refine fw_take 9 rfl (by kernel_rfl) rfl rfl (by kernel_rfl) (by kernel_rfl) (by kernel_rfl) hNP hU rfl (fun w' hq => pv_neq rfl rfl) ?_) | (refine fw_take 9 rfl (by kernel_rfl) rfl rfl (by kernel_rfl) (by kernel_rfl) (by kernel_rfl) hNP hU rfl (fun w' hq => pv_gtr rfl rfl) ?_) | (refine fw_take 9 rfl (by kernel_rfl) rfl rfl (by kernel_rfl) (by kernel_rfl) (by kernel_rfl) hNP hU rfl (fun w' hq => pv_geq rfl rfl) ?_) | (refine fw_take 9 rfl (by kernel_rfl) rfl rfl (by kernel_rfl) (by kernel_rfl) (by kernel_rfl) hNP hU rfl (fun w' hq => pv_inc rfl rfl (by omega)) ?_) | (refine fw_take 9 rfl (by kernel_rfl) rfl rfl (by kernel_rfl) (by kernel_rfl) (by kernel_rfl) hNP hU rfl (fun w' hq => pv_add rfl rfl (by omega)) ?_) | (refine fw_take 9 rfl (by kernel_rfl) rfl rfl (by kernel_rfl) (by kernel_rfl) (by kernel_rfl) hNP hU rfl (fun w' hq => pv_sub rfl rfl (by omega)) ?_)
  first | (refine fw_take 10 rfl (by kernel_rfl) rfl rfl (by kernel_rfl) (by kernel_rfl) (by kernel_rfl) hNP hU rfl (fun w' hq => pv_slice_hN (tS rfl) rfl rfl (by omega)) ?_) | (refine fw_take 10 rfl (by kernel_rfl) rfl rfl (by kernel_rfl) (by kernel_rfl) (by kernel_rfl) hNP hU rfl (fun w' hq => pv_slice_lN (tS rfl) rfl rfl (by omega)) ?_) | (refine fw_take 10 rfl (by kernel_rfl) rfl rfl (by kernel_rfl) (by kernel_rfl) (by kernel_rfl) hNP hU rfl (fun w' hq => pv_slice_l (tS rfl) rfl rfl (by omega)) ?_) | (refine fw_take 10 rfl (by kernel_rfl) rfl rfl (by kernel_rfl) (by kernel_rfl) (by kernel_rfl) hNP hU rfl (fun w' hq => pv_slice_h (tS rfl) rfl rfl (by omega)) ?_) | (refine fw_take 10 rfl (by kernel_rfl) rfl rfl (by kernel_rfl) (by kernel_rfl) (by kernel_rfl) hNP hU rfl (fun w' hq => pv_slice_lh (tS rfl) rfl rfl rfl (by omega)) ?_)
  refine fw_act 0 (by kernel_rfl) rfl rfl rfl ?_
  refine act_bs0 (base := wa.heap.size) elemC hU.1.size ?_; intro vE wE hvE hbb; refine ⟨⟨grow_trans hU.1 hbb, trivial⟩, fun hU => ?_⟩
  refine fw_act 5 (by kernel_rfl) rfl rfl rfl ?_
  refine act_app0 (base := wa.heap.size) (ys := xs.take j) elemC encC_len encC_one rfl hvE rfl ((HX98.head j cx (by omega) ⟨by omega, Nat.le_refl _⟩).mono hU.1) (by rw [List.length_take]; omega) hU.1.size (by rw [List.length_take]; omega) (by rw [List.length_take]; simp [maxLen]; omega) ?_; intro v5 wb oB hbb; refine ⟨⟨grow_trans hU.1 hbb, trivial⟩, fun hU => ?_⟩
  refine fw_act 11 (by kernel_rfl) rfl rfl rfl ?_
  refine act_appO (base := wa.heap.size) (xs := xs.take j) (ys := xs.drop (j + 1)) elemC encC_len encC_one rfl rfl oB ((HX98.cutn (j + 1) (by omega)).mono hU.1) (by rw [List.length_drop]; omega) hU.1.size (by rw [List.length_take, List.length_drop]; omega) (by rw [List.length_take, List.length_drop]; simp [maxLen]; omega) ?_; intro v11 wc oC hbc; rw [← List.eraseIdx_eq_take_drop_succ] at oC; obtain ⟨cA, cC, rfl⟩ := own_shape encC_len oC; refine ⟨⟨hU.1.trans hbc, trivial⟩, fun hU => ?_⟩
  first | (refine fw_take 12 rfl (by kernel_rfl) rfl rfl (by kernel_rfl) (by kernel_rfl) (by kernel_rfl) hNP hU rfl (fun w' hq => pv_fa (tF rfl) rfl) ?_)
  refine fw_last (by kernel_rfl) rfl rfl rfl rfl (by kernel_rfl) ?_
  obtain ⟨hw, -⟩ := hU; clear hNP
  refine act_store (Ha.mono hw) (tZ rfl) rfl rfl rfl (by simp) ?_; intro wd Hd hgd hzd
  replace Hd : PT wd N7 30 (encS { s5 with pr := qA, mr := mi.length, cr := qC, px := cA, mx := (xs.eraseIdx j).length, cx := cC }) := Hd
  have hO9 := (hO8.up hw).put (Ha.mono hw) hgd
  have oC9 := oC.kept hgd (Or.inr (own_ne_ptN oC (Ha.mono hw) (by decide)))
  have hG9 := (hG8.mono hw).grown hgd (by intro q hq; injection hq with hq; omega)
  have hA9 := (HAs.mono hG9.b).erase j
  have hq9 := hO9.stR
  have SX9 := (own_sl encC_len oC9).2
  have hS9 : StR wd { s5 with pr := qA, mr := mi.length, cr := qC, px := cA, mx := (xs.eraseIdx j).length, cx := cC } { t with rows := mi, ords := os5, aucs := t.aucs.eraseIdx j } := ⟨hq9.n, hq9.ma, hq9.mi, hq9.mr, hq9.mo, hA9.1.symm, hq9.A, hq9.I, hq9.R, hq9.O, xs.eraseIdx j, SX9, hA9⟩
  have hc9 : checkF { t with rows := mi, ords := os5, aucs := t.aucs.eraseIdx j } = ByteArray.empty := less_may hch hRi (fun p hp => (List.mem_append.1 hp).elim (hL.i p) (partA_in p)) hL.o (List.eraseIdx_sublist ..) (fun q => by rw [hsum, heldL_app]; omega)
  have hok9 : StOk { t with rows := mi, ords := os5, aucs := t.aucs.eraseIdx j } := ⟨hok.a, hok.i, hok.al, hok.il, hRi.may.in64s⟩
  have hma9 : mayAus (t.aucs.eraseIdx j) = true := mayAus_iff.2 ⟨fun a ha => h6.1.1 a ((List.eraseIdx_sublist ..).subset ha), h6.1.2.1.sublist (List.eraseIdx_sublist ..), Nat.le_trans (List.eraseIdx_sublist ..).length_le h6.1.2.2⟩
  clear hw
  have hw := Below.refl wd.heap.size wd
  have cA9 := fun (w' : World) (hb : Below wd.heap.size wd w') => amayAll_c (w := w') hA9.1.symm (SX9.mono hb) (hA9.mono hb)
  rw [hma9] at cA9
  repeat' (first | (refine lw_pure rfl (pv_move rfl) ?_) | (refine is_cw ?_; first | (refine cw_seq ?_) | (refine cw_region ?_)) | (refine is_qw ?_; first | (with_reducible refine qw_then ?_)) | (refine is_guarded ?_; first | (refine lw_on rfl rfl rfl ?_)) | ((refine is_bin ?_; first | (refine lw_pure rfl (pv_neq rfl rfl) ?_))) | ((refine is_load ?_; first | (refine lw_pure rfl (pv_loada (tA rfl) rfl (by first | exact PT.lda (Hd.mono hw)) (by rfl)) ?_))))
  refine lw_call (f := 11) (by kernel_rfl) rfl rfl (may_t hc9 (hS9.mono hw) hok9) ?_; rintro e w1 ⟨rfl, hb⟩; refine ⟨_, rfl, ?_⟩; replace hw := grow_trans hw hb; clear hb
  repeat' (first | (refine lw_pure rfl (pv_move rfl) ?_) | (refine is_guarded ?_; first | (refine lw_on rfl rfl rfl ?_)) | ((refine is_load ?_; first | (refine lw_pure rfl (pv_load (t1 rfl) rfl (by first | exact PT.ld0 (Hd.mono hw) rfl | exact PT.ld (Hd.mono hw) rfl)) ?_))) | ((refine is_fa ?_; first | (refine lw_pure rfl (pv_fa (tF rfl) rfl) ?_))) | ((refine is_un ?_; first | (refine lw_pure rfl (pv_not rfl) ?_))) | (refine is_pk ?_; refine lw_pure rfl (pv_pick_f rfl rfl rfl) ?_))
  refine lw_call (f := 31) (by kernel_rfl) rfl rfl (cA9 _ hw) ?_; rintro e w1 ⟨rfl, hb⟩; refine ⟨_, rfl, ?_⟩; replace hw := grow_trans hw hb; clear hb
  repeat' (first | (refine lw_pure rfl (pv_assign rfl) ?_) | (refine is_cw ?_; first | (refine cw_seq ?_) | (refine cw_region ?_) | (refine cw_false rfl rfl ?_) | (refine cw_skip ?_) | (refine cw_ret ?_)) | (refine is_qw ?_; first | (with_reducible refine qw_then ?_)) | (refine lw_nil ?_) | (refine is_guarded ?_; first | (refine lw_on rfl rfl rfl ?_)) | ((refine is_un ?_; first | (refine lw_pure rfl (pv_not rfl) ?_))) | (refine is_pk ?_; refine lw_pure rfl (pv_pick_f rfl rfl rfl) ?_))
  exact qw_ret1 rfl rfl ⟨rfl, (hE.mono (hG9.mono hw).b).b⟩
end Go.Proofs.YtekomjnjddhfmaaGreat
namespace Go.Proofs.YtekomjnjddhfmaaGreat
open Go.ChangeShapes Go.WideShapes Go.ChangeAt Go.RowKit

set_option maxRecDepth 100000 in
theorem stateLess_lifted (os : Os) (started : os.Started) (H : Type) (enc : TypeId × Value → H) :
    ReturnsInHanded {} Tryz.checked os 7 .any (Rows.stateLessSpec.pre6 enc Tryz.prog Tryz.f7 Rows.stateLessRow.domain false) (Rows.stateLessSpec.post enc Tryz.prog Tryz.f7 false true false false) := by
  refine returnsInHanded_of_change_sized (C := Tryz.checked) seatOwn started (by kernel_rfl) Tryz.func7
    (ChangeSpec.witness6 (enc := enc) (C := Tryz.checked) false ⟨#[], #[.agg #[.int .i64 0, .int .i64 0, .int .i64 0, .int .i64 0, .slice none 0 0, .slice none 0 0, .slice none 0 0, .slice none 0 0, .slice none 0 0], .int .i64 0, .int .i64 0], []⟩ 8 (by kernel_rfl) (by kernel_rfl) (by kernel_rfl) (by kernel_rfl)) ?_
  intro W base args ds gs before hval0 hW _ hZ _
  have hval : ∀ (j : Nat) t v, Tryz.f7.params[j]? = some t → args[j]? = some v → Value.okWide Tryz.prog W .any base t v := hval0
  have hW' := hW
  obtain ⟨p, q, hA0, hV, hpq, hfz, hnd⟩ := hW
  have hA : DataW.TrodAll enc Tryz.prog W 0 (fun _ => true) true Tryz.f7.params.toList args.toList ds p := hA0
  rw [Tryz.params7] at hA hval
  obtain ⟨args⟩ := args
  have hA1 : DataW.TrodAll enc Tryz.prog W 0 (fun _ => true) true _ args ds p := hA
  clear hA
  obtain ⟨v0, vs0, d0, ds0, p0, q0, hv0, hd0, hp0, h0, hr0⟩ := trodAll_cons hA1
  obtain ⟨v1, vs1, d1, ds1, p1, q1, hv1, hd1, hp1, h1, hr1⟩ := trodAll_cons hr0
  obtain ⟨v2, vs2, d2, ds2, p2, q2, hv2, hd2, hp2, h2, hr2⟩ := trodAll_cons hr1
  obtain ⟨hvn, hdn, hpn⟩ := trodAll_nil hr2
  subst hvn hdn hpn
  subst hv2 hd2 hp2
  subst hv1 hd1 hp1
  subst hv0 hd0 hp0
  obtain ⟨rfl, rfl⟩ := trodVars_none hV
  obtain ⟨ts, tt, rfl, tr, tb, ti⟩ := state_open (hval 0 _ v0 rfl rfl) h0 (wt_of hZ (j := 0) (by kernel_rfl) rfl)
  obtain ⟨k, rfl, kl, ku⟩ := i64_open Tryz.underlying3 (hval 1 _ v1 rfl rfl) h1
  obtain ⟨n, rfl, nl, nu⟩ := i64_open Tryz.underlying3 (hval 2 _ v2 rfl rfl) h2
  subst hpq
  refine (lesslaw_c tr tb).mono fun e W' ⟨he, hw⟩ => ?_
  subst he
  have hB := below_trodAll hw (by decide +kernel) hA1
  rw [← Tryz.params7] at hB
  exact ⟨_, rfl, _, _, _, [], _, [], hW', trodAll_mk1 (shut_bool Tryz.underlying4 true), hB, rfl, hw.frame _, fun h => by cases h⟩
theorem stateLess_holds : Rows.StateLessSaid :=
  OpenClaim.holds_of_wide 7 Tryz.f7 rfl rfl rfl rfl rfl rfl rfl ⟨rfl, rfl, rfl, rfl, rfl⟩ rfl rfl rfl rfl rfl (by kernel_rfl) Tryz.func7 (by kernel_rfl)
    (of_decide_eq_true (by kernel_rfl)) (by unfold Func.isWrapper; first | (rw [if_pos (by decide +kernel)]; kernel_rfl) | (rw [if_neg (by decide +kernel)]; exact ⟨rfl, rfl⟩))
    (fun os started H enc _ => stateLess_lifted os started H enc)
#print axioms stateLess_holds
end Go.Proofs.YtekomjnjddhfmaaGreat
