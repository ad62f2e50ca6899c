/-
  Contract of souklaw16.BookNames: true, in every world. Condition: the table 'prices' holds its two functions (PrW).
-/
import Derived.Test.YtecfajnmekpeoaaDoorLNp
import Derived.Test.YtecfajnmekpeoaaDoorLTe
import Derived.Test.YtecfajnmekpeoaaDoorSv
import Derived.Test.YtecfajnmekpeoaaDoorTy
namespace Go.Proofs.YtecfajnmekpeoaaDoor
open Go.RowKit

section
variable {P : Program} {n : Nat} {l : Fr} {w : World} {Q : Exit → Act → World → Prop} {ops : Array Oper} {os : List Oper} {d : Option Nat} {ty : TypeId} {pos : String} {af : Array Edge}
theorem is_cd {c : Operand} {x y : Code} (h : CW P n (.cond c x y) Q l w) : CW P n (.cond c x y) Q l w := h
theorem is_pk {x y z : Operand} (h : LW P n ops Q (⟨d, .pick x y z, ty, pos, af, none⟩ :: os) l w) : LW P n ops Q (⟨d, .pick x y z, ty, pos, af, none⟩ :: os) l w := h
theorem is_sl {t : TypeId} {x : Operand} {y z u : Option Operand} (h : LW P n ops Q (⟨d, .slice t x y z u, ty, pos, af, none⟩ :: os) l w) : LW P n ops Q (⟨d, .slice t x y z u, ty, pos, af, none⟩ :: os) l w := h
end

abbrev goodO : Ord := ⟨1099511627776, 64, 16, 2, 1073741824, 1048576⟩
abbrev topO : Ord := ⟨1099511627776, 64, 16, 1, 1073741824, 1048576⟩
abbrev zeroO : Ord := ⟨0, 0, 0, 0, 0, 0⟩
abbrev o1 : Ord := ⟨1, 1, 3, 1, 7, 3⟩
abbrev o2 : Ord := ⟨2, 1, 3, 1, 7, 3⟩
abbrev o4 : Ord := ⟨4, 1, 3, 1, 7, 3⟩
theorem holds_v (o : Ord) (a n : Int) (h1 : holdsA o = a) (h2 : holdsN o = n) (w : World) :
    Calls Tryd.prog 12 #[(.agg #[.int .i64 o.id, .int .i64 o.acct, .int .i64 o.inst, .int .u8 o.side, .int .i64 o.price, .int .i64 o.left])] w fun e w' => e = .returned (.tuple #[.int .i64 a, .int .i64 n]) ∧ Below w.heap.size w w' := by
  rw [← h1, ← h2]; exact holds_c o w
theorem bad_may {x : Ord} (h : mayOne x = false) (w : World) (B : Nat) (hs : SlO w (some ⟨B, 0, none⟩) 1 [x]) : Calls Tryd.prog 17 #[.slice (some ⟨B, 0, none⟩) 1 1] w fun e w' => e = .returned (.bool false) ∧ Below w.heap.size w w' := by
  have := may_c (some ⟨B, 0, none⟩) 1 [x] w hs
  rw [(bad_list h 0 0).1] at this; exact this
theorem bad_listC {x : Ord} (h : mayOne x = false) (i s : Int) (w : World) (B : Nat) (hs : SlO w (some ⟨B, 0, none⟩) 1 [x]) (hp : PrW w) : Calls Tryd.prog 23 #[.slice (some ⟨B, 0, none⟩) 1 1, .int .i64 i, .int .u8 s] w fun e w' => (∃ a' c', e = .returned (.slice a' 0 c')) ∧ Below w.heap.size w w' := by
  have := list_r (some ⟨B, 0, none⟩) 1 [x] i s w hs hp (by simp)
  rw [(bad_list h i s).2.1] at this
  exact this.mono fun _ _ ⟨a', c', h1, h2, _⟩ => ⟨⟨a', c', h1⟩, h2⟩
theorem bad_add {x : Ord} (h : mayOne x = false) (w : World) : Calls Tryd.prog 30 #[.slice none 0 0, (.agg #[.int .i64 x.id, .int .i64 x.acct, .int .i64 x.inst, .int .u8 x.side, .int .i64 x.price, .int .i64 x.left])] w fun e w' => ∃ a' c', e = .returned (.tuple #[.slice a' 0 c', .int .i64 4]) ∧ Below w.heap.size w w' :=
  (add_n (xs := []) rfl (SlR.nil w) (by simp) (bad_list h 0 0).2.2.1).mono fun _ _ ⟨a', c', h1, h2, _⟩ => ⟨a', c', h1, h2⟩
theorem may_v {a : Option Addr} {c n : Nat} {xs : List Ord} {r : Bool} {w : World} (hn : n = xs.length) (h : mayL xs = r) (hs : SlO w a c xs) : Calls Tryd.prog 17 #[.slice a n c] w fun e w' => e = .returned (.bool r) ∧ Below w.heap.size w w' := by
  subst hn; rw [← h]; exact may_c a c xs w hs
theorem first_e {a : Option Addr} {c n : Nat} {xs : List Ord} {i s : Int} {w : World} (hn : n = xs.length) (h : listOf xs i s = []) (hs : SlO w a c xs) (hp : PrW w) (hlen : n ≤ 1000) : Calls Tryd.prog 16 #[.slice a n c, .int .i64 i, .int .u8 s] w fun e w' => e = .returned (.tuple #[(.agg #[.int .i64 zeroO.id, .int .i64 zeroO.acct, .int .i64 zeroO.inst, .int .u8 zeroO.side, .int .i64 zeroO.price, .int .i64 zeroO.left]), .bool false]) ∧ Below w.heap.size w w' := by
  subst hn
  have := first_c a c xs i s w hs hp (by omega)
  rw [h] at this; exact this
theorem full_two' : mayL [o4, o2] = false := full_two
theorem full_twice' : mayL [o4, o4] = false := full_twice
theorem more_may' : mayL (o1 :: fullL) = false := more_may
theorem nil_may : mayL [] = true := by decide
theorem full_add3' : addO (fullL.drop 1) o1 = ((addO (fullL.drop 1) (ofO 1)).1, 0) := by
  have h := full_add3
  generalize hq : addO (fullL.drop 1) (ofO 1) = q at *
  have hq' : addO (fullL.drop 1) o1 = q := hq
  rw [hq']
  exact Prod.ext rfl h
theorem find_z {a : Option Addr} {c n : Nat} {xs : List Ord} {id : Int} {w : World} (hn : n = xs.length) (hs : SlO w a c xs) (hlen : n ≤ 1000000) (h : findO xs id = none) :
    Calls Tryd.prog 28 #[.slice a n c, .int .i64 id] w fun e w' => e = .returned (.tuple #[(.agg #[.int .i64 zeroO.id, .int .i64 zeroO.acct, .int .i64 zeroO.inst, .int .u8 zeroO.side, .int .i64 zeroO.price, .int .i64 zeroO.left]), .bool false]) ∧ Below w.heap.size w w' := find_none hn hs hlen h
set_option maxRecDepth 50000 in
set_option maxHeartbeats 20000000 in
theorem lawNames_c (w : World) (hp : PrW w) : Calls Tryd.prog 10 #[] w fun e w' => e = .returned (.bool true) ∧ Below w.heap.size w w' := by
  have hE := Ext.refl w
  have hw := Below.refl w.heap.size w
  show Calls _ _ ([] : List Value).toArray _ _
  refine fn_enter 336 Tryd.func10 rfl rfl rfl ?_
  repeat' (first | (refine lw_pure rfl (pv_assign rfl) ?_) | (refine lw_call (f := 11) (by kernel_rfl) rfl rfl (works_c _ (hp.mono hw)) ?_; rintro e w1 ⟨rfl, hb⟩; refine ⟨_, rfl, ?_⟩; replace hw := grow_trans hw hb; clear hb) | (refine is_cw ?_; first | (refine cw_seq ?_) | (refine cw_region ?_) | (refine cw_false rfl rfl ?_) | (refine cw_skip ?_)) | (refine is_qw ?_; first | (with_reducible refine qw_then ?_)) | (refine lw_nil ?_) | ((refine is_un ?_; first | (refine lw_pure rfl (pv_not rfl) ?_))) | ((refine is_bd ?_; first | (refine lw_pure rfl (tyB_23 rfl rfl rfl) ?_))))
  refine lw_varN rfl (by first | exact tyv_22 | exact tyv_23) rfl (tZ rfl) (fun _ => rfl) rfl rfl ?_; intro N1 wn hN1 hG hb; replace hN1 := Nat.le_trans hw.size hN1; replace hw := grow_trans hw hb; clear hb
  replace hE := hE.mono hw; replace hp := hp.mono hw; clear hw; have hw := Below.refl wn.heap.size wn
  repeat' (first | (refine is_cw ?_; first | (refine cw_seq ?_) | (refine cw_region ?_)) | (refine is_qw ?_; first | (with_reducible refine qw_then ?_)) | (refine lw_nil ?_) | ((refine is_load ?_; first | (refine lw_pure rfl (pv_loada (tA rfl) rfl (by first | exact PT.lda (hG.mono hw)) (by rfl)) ?_))))
  refine lw_varN rfl (by first | exact tyv_22 | exact tyv_23) rfl (tZ rfl) (fun _ => rfl) rfl rfl ?_; intro N2 wn hN hT hb; replace hN := Nat.le_trans hw.size hN; replace hw := grow_trans hw hb; clear hb
  repeat' (first | (refine is_cw ?_; first | (refine cw_seq ?_) | (refine cw_region ?_)) | (refine is_qw ?_; first | (with_reducible refine qw_then ?_)) | (refine lw_nil ?_) | ((refine is_fa ?_; first | (refine lw_pure rfl (pv_fa (tF rfl) rfl) ?_))))
  refine lw_store hT (tZ rfl) rfl rfl rfl (by simp) ?_; intro wn hT hg hz; replace hw := st_hw hw hg hN; clear hg hz
  replace hE := hE.mono hw; replace hp := hp.mono hw; replace hG := hG.mono hw; clear hw; have hw := Below.refl wn.heap.size wn
  repeat' (first | (refine is_cw ?_; first | (refine cw_seq ?_) | (refine cw_region ?_)) | (refine is_qw ?_; first | (with_reducible refine qw_then ?_)) | (refine lw_nil ?_) | ((refine is_load ?_; first | (refine lw_pure rfl (pv_loada (tA rfl) rfl (by first | exact PT.lda (hG.mono hw) | exact PT.lda (hT.mono hw)) (by rfl)) ?_))))
  refine lw_call (f := 12) (by kernel_rfl) rfl rfl (holds_v topO 0 1125899906842624 (by decide) (by decide) _) ?_; rintro e w1 ⟨rfl, hb⟩; refine ⟨_, rfl, ?_⟩; replace hw := grow_trans hw hb; clear hb
  repeat' (first | (refine lw_pure rfl (pv_move rfl) ?_) | (refine lw_pure rfl (pv_assign rfl) ?_) | (refine is_cw ?_; first | (refine cw_seq ?_) | (refine cw_region ?_)) | (refine is_qw ?_; first | (with_reducible refine qw_then ?_)) | (refine lw_nil ?_) | ((refine is_load ?_; first | (refine lw_pure rfl (pv_loada (tA rfl) rfl (by first | exact PT.lda (hG.mono hw) | exact PT.lda (hT.mono hw)) (by rfl)) ?_))) | (refine lw_pure rfl (pv_extract rfl rfl) ?_))
  refine lw_call (f := 13) (by kernel_rfl) rfl rfl (mayOne_v goodO true (by decide) _) ?_; rintro e w1 ⟨rfl, hb⟩; refine ⟨_, rfl, ?_⟩; replace hw := grow_trans hw hb; clear hb
  repeat' (first | (refine lw_pure rfl (pv_move rfl) ?_) | (refine is_guarded ?_; first | (refine lw_on rfl rfl rfl ?_)) | ((refine is_load ?_; first | (refine lw_pure rfl (pv_loada (tA rfl) rfl (by first | exact PT.lda (hG.mono hw) | exact PT.lda (hT.mono hw)) (by rfl)) ?_))) | ((refine is_un ?_; first | (refine lw_pure rfl (pv_not rfl) ?_))))
  refine lw_call (f := 13) (by kernel_rfl) rfl rfl (mayOne_v topO true (by decide) _) ?_; rintro e w1 ⟨rfl, hb⟩; refine ⟨_, rfl, ?_⟩; replace hw := grow_trans hw hb; clear hb
  repeat' (first | (refine lw_pure rfl (pv_move rfl) ?_) | (refine is_guarded ?_; first | (refine lw_on rfl rfl rfl ?_)) | ((refine is_bin ?_; first | (refine lw_pure rfl (pv_neq rfl rfl) ?_))) | ((refine is_un ?_; first | (refine lw_pure rfl (pv_not rfl) ?_))) | ((refine is_bd ?_; first | (refine lw_pure rfl (tyB_23 rfl rfl rfl) ?_))) | (refine is_pk ?_; refine lw_pure rfl (pv_pick_f rfl rfl rfl) ?_))
  refine lw_call (f := 13) (by kernel_rfl) rfl rfl (mayOne_v zeroO false (by decide) _) ?_; rintro e w1 ⟨rfl, hb⟩; refine ⟨_, rfl, ?_⟩; replace hw := grow_trans hw hb; clear hb
  repeat' (first | (refine lw_pure rfl (pv_assign rfl) ?_) | (refine is_cw ?_; first | (refine cw_seq ?_) | (refine cw_region ?_) | (refine cw_false rfl rfl ?_) | (refine cw_skip ?_) | (refine cw_block ?_)) | (refine is_qw ?_; first | (with_reducible refine qw_then ?_)) | (refine lw_nil ?_) | (refine is_pk ?_; refine lw_pure rfl (pv_pick_f rfl rfl rfl) ?_))
  replace hE := hE.mono hw; replace hp := hp.mono hw; replace hG := hG.mono hw; replace hT := hT.mono hw; clear hw; have hw := Below.refl w1.heap.size w1
  refine cw_loop (σ := Nat) (fun k => [(1, .pointer (some ⟨N1, 0, none⟩)), (2, .pointer (some ⟨N2, 0, none⟩)), (5, .int .i64 (k : Nat))]) (fun k wr => k ≤ 12 ∧ Below w1.heap.size w1 wr) (fun k => 12 - k) 0 ⟨rfl, rfl, rfl, trivial⟩ ⟨Nat.zero_le _, hw⟩ ?_
  rintro k wr ⟨hk, hw0⟩
  have hX : Ext w1 wr := ⟨hw0⟩
  replace hE := hE.mono hw0
  replace hp := hp.mono hw0
  replace hG := hG.mono hw0
  replace hT := hT.mono hw0
  clear hw
  have hw := Below.refl wr.heap.size wr
  by_cases hlt : k < 12
  · as_aux_lemma =>
    have hc : k = 0 ∨ k = 1 ∨ k = 2 ∨ k = 3 ∨ k = 4 ∨ k = 5 ∨ k = 6 ∨ k = 7 ∨ k = 8 ∨ k = 9 ∨ k = 10 ∨ k = 11 := by omega
    repeat' (first | (refine lw_pure rfl (pv_move rfl) ?_) | (refine is_cw ?_; first | (refine cw_seq ?_) | (refine cw_region ?_) | (refine is_cd ?_; refine cw_true rfl (by first | assumption | exact decide_eq_true (by omega) | exact dec_notT (by omega)) ?_) | (refine cw_skip ?_) | (refine cw_block ?_)) | (refine is_qw ?_; first | (with_reducible refine qw_then ?_)) | (refine lw_nil ?_) | ((refine is_bin ?_; first | (refine lw_pure rfl (pv_lss rfl rfl) ?_))) | ((refine is_load ?_; first | (refine lw_pure rfl (pv_loada (tA rfl) rfl (by first | exact PT.lda (hG.mono hw) | exact PT.lda (hT.mono hw)) (by rfl)) ?_))))
    refine lw_varN rfl (by first | exact tyv_22 | exact tyv_23) rfl (tZ rfl) (fun _ => rfl) rfl rfl ?_; intro N6 wn hN6 HX hb; replace hN6 := Nat.le_trans hw.size hN6; replace hw := grow_trans hw hb; clear hb
    refine lw_nil (qw_then (cw_seq (cw_seq (cw_region (lw_pure rfl (pv_move rfl) (lw_nil (qw_then ?_)))))))
    refine cw_cutq (σ := Ord) (fun _ => [(1, .pointer (some ⟨N1, 0, none⟩)), (2, .pointer (some ⟨N2, 0, none⟩)), (5, .int .i64 (k : Nat)), (6, .pointer (some ⟨N6, 0, none⟩))]) (fun x w' => mayOne x = false ∧ PT w' N6 23 (encO x) ∧ Below wr.heap.size wr w') ?_ ?_
    · rcases hc with rfl | rfl | rfl | rfl | rfl | rfl | rfl | rfl | rfl | rfl | rfl | rfl
      all_goals
        repeat' (first | (refine lw_pure rfl (pv_assign rfl) ?_) | (refine is_cw ?_; first | (refine cw_seq ?_) | (refine cw_region ?_) | (refine cw_true rfl rfl ?_) | (refine cw_false rfl rfl ?_) | (refine cw_block ?_)) | (refine is_qw ?_; first | (with_reducible refine qw_then ?_)) | (refine lw_nil ?_) | ((refine is_bin ?_; first | (refine lw_pure rfl (pv_eql rfl rfl) ?_) | (refine lw_pure rfl (pv_add rfl rfl (by omega)) ?_))) | ((refine is_load ?_; first | (refine lw_pure rfl (pv_load (t1 rfl) rfl (by first | exact PT.ld0 (hG.mono hw) rfl | exact PT.ld (hG.mono hw) rfl | exact PT.ld0 (hT.mono hw) rfl | exact PT.ld (hT.mono hw) rfl | exact PT.ld0 HX rfl | exact PT.ld HX rfl)) ?_))) | ((refine is_fa ?_; first | (refine lw_pure rfl (pv_fa (tF rfl) rfl) ?_))))
        refine lw_store HX (tZ rfl) rfl rfl rfl (by simp) ?_; intro wn HX hg hz; replace hw := st_hw hw hg hN6; clear hg hz
        repeat' (first | (refine is_qw ?_; first | (with_reducible refine qw_in ?_)) | (refine lw_nil ?_))
      · exact qw_join ⟨0, 64, 16, 2, 1073741824, 1048576⟩ ⟨rfl, rfl, rfl, rfl, trivial⟩ ⟨by decide, HX, hw⟩
      · exact qw_join ⟨1099511627777, 64, 16, 2, 1073741824, 1048576⟩ ⟨rfl, rfl, rfl, rfl, trivial⟩ ⟨by decide, HX, hw⟩
      · exact qw_join ⟨1099511627776, 0, 16, 2, 1073741824, 1048576⟩ ⟨rfl, rfl, rfl, rfl, trivial⟩ ⟨by decide, HX, hw⟩
      · exact qw_join ⟨1099511627776, 65, 16, 2, 1073741824, 1048576⟩ ⟨rfl, rfl, rfl, rfl, trivial⟩ ⟨by decide, HX, hw⟩
      · exact qw_join ⟨1099511627776, 64, 0, 2, 1073741824, 1048576⟩ ⟨rfl, rfl, rfl, rfl, trivial⟩ ⟨by decide, HX, hw⟩
      · exact qw_join ⟨1099511627776, 64, 17, 2, 1073741824, 1048576⟩ ⟨rfl, rfl, rfl, rfl, trivial⟩ ⟨by decide, HX, hw⟩
      · exact qw_join ⟨1099511627776, 64, 16, 0, 1073741824, 1048576⟩ ⟨rfl, rfl, rfl, rfl, trivial⟩ ⟨by decide, HX, hw⟩
      · exact qw_join ⟨1099511627776, 64, 16, 3, 1073741824, 1048576⟩ ⟨rfl, rfl, rfl, rfl, trivial⟩ ⟨by decide, HX, hw⟩
      · exact qw_join ⟨1099511627776, 64, 16, 2, 0, 1048576⟩ ⟨rfl, rfl, rfl, rfl, trivial⟩ ⟨by decide, HX, hw⟩
      · exact qw_join ⟨1099511627776, 64, 16, 2, 1073741825, 1048576⟩ ⟨rfl, rfl, rfl, rfl, trivial⟩ ⟨by decide, HX, hw⟩
      · exact qw_join ⟨1099511627776, 64, 16, 2, 1073741824, 0⟩ ⟨rfl, rfl, rfl, rfl, trivial⟩ ⟨by decide, HX, hw⟩
      · exact qw_join ⟨1099511627776, 64, 16, 2, 1073741824, 1048577⟩ ⟨rfl, rfl, rfl, rfl, trivial⟩ ⟨by decide, HX, hw⟩
    · rintro x wn ⟨hx, HX, hw⟩
      replace hX := hX.mono hw; replace hE := hE.mono hw; replace hG := hG.mono hw; replace hT := hT.mono hw; replace hp := hp.mono hw; clear hw; have hw := Below.refl wn.heap.size wn
      repeat' (first | (refine is_cw ?_; first | (refine cw_seq ?_) | (refine cw_region ?_)) | ((refine is_load ?_; first | (refine lw_pure rfl (pv_loada (tA rfl) rfl (by first | exact PT.lda (hG.mono hw) | exact PT.lda (hT.mono hw) | exact PT.lda (HX.mono hw)) (by rfl)) ?_))))
      refine lw_call (f := 12) (by kernel_rfl) rfl rfl (holds_v x 0 0 (bad_list hx 0 0).2.2.2.1 (bad_list hx 0 0).2.2.2.2 _) ?_; rintro e w1 ⟨rfl, hb⟩; refine ⟨_, rfl, ?_⟩; replace hw := grow_trans hw hb; clear hb
      repeat' (first | (refine lw_pure rfl (pv_move rfl) ?_) | (refine lw_pure rfl (pv_assign rfl) ?_) | (refine is_cw ?_; first | (refine cw_seq ?_) | (refine cw_region ?_)) | (refine is_qw ?_; first | (with_reducible refine qw_then ?_)) | (refine lw_nil ?_) | ((refine is_load ?_; first | (refine lw_pure rfl (pv_loada (tA rfl) rfl (by first | exact PT.lda (hG.mono hw) | exact PT.lda (hT.mono hw) | exact PT.lda (HX.mono hw)) (by rfl)) ?_))) | (refine lw_pure rfl (pv_extract rfl rfl) ?_))
      refine lw_call (f := 30) (by kernel_rfl) rfl rfl (bad_add (x := x) hx _) ?_; rintro e w1 ⟨a9, c9, rfl, hb⟩; refine ⟨_, rfl, ?_⟩; replace hw := grow_trans hw hb; clear hb
      repeat' (first | (refine lw_pure rfl (pv_move rfl) ?_) | (refine lw_pure rfl (pv_assign rfl) ?_) | (refine is_cw ?_; first | (refine cw_seq ?_)) | (refine is_qw ?_; first | (with_reducible refine qw_then ?_)) | (refine lw_nil ?_) | (refine lw_pure rfl (pv_extract rfl rfl) ?_))
      refine cw_drawn (fun w' => Below wn.heap.size wn w') (by kernel_rfl) (by repeat (first | exact NoPanic.body | with_reducible refine NoPanic.then ?_ | with_reducible refine NoPanic.inBlock ?_)) (fun hNP => ?_)
      have hS := hw.drew
      (refine aw_take 0 rfl (by kernel_rfl) (by kernel_rfl) (by kernel_rfl) hNP hS rfl (fun w' hq => pv_loada (tA rfl) rfl (by first | exact PT.lda (hG.mono hq) | exact PT.lda (hT.mono hq) | exact PT.lda (HX.mono hq)) (by rfl)) ?_)
      refine aw_act 1 (by kernel_rfl) rfl rfl rfl ?_
      refine act_call (f := 13) (by kernel_rfl) rfl (mayOne_v x false hx _) ?_; rintro e w1 ⟨rfl, hb⟩; refine ⟨_, rfl, grow_trans hS hb, fun hS => ?_⟩
      (refine aw_take 2 rfl (by kernel_rfl) (by kernel_rfl) (by kernel_rfl) hNP hS rfl (fun w' hq => pv_move rfl) ?_)
      (refine aw_take_on 3 rfl rfl rfl rfl (by kernel_rfl) (by kernel_rfl) (by kernel_rfl) hNP hS rfl (fun w' hq => pv_loada (tA rfl) rfl (by first | exact PT.lda (hG.mono hq) | exact PT.lda (hT.mono hq) | exact PT.lda (HX.mono hq)) (by rfl)) ?_)
      refine aw_act 4 (by kernel_rfl) rfl rfl rfl ?_
      refine act_bs (vs := [(.agg #[.int .i64 x.id, .int .i64 x.acct, .int .i64 x.inst, .int .u8 x.side, .int .i64 x.price, .int .i64 x.left])]) (cs := encO x) elemO rfl rfl (by omega) (by omega) rfl (by simp [Value.cells]) ?_; intro wb HB hb; refine ⟨grow_trans hS hb, fun hS => ?_⟩
      refine aw_act 5 (by kernel_rfl) rfl rfl rfl ?_
      refine act_call (f := 37) (by kernel_rfl) rfl (listV_c _ _) ?_; rintro e w1 ⟨rfl, rfl⟩; refine ⟨_, rfl, hS, fun hS => ?_⟩
      refine aw_act 6 (by kernel_rfl) rfl rfl rfl ?_
      refine act_call (f := 17) (by kernel_rfl) rfl (bad_may hx _ _ (HB.slR (xs := [x]) encO_len rfl (by omega))) ?_; rintro e w1 ⟨rfl, hb⟩; refine ⟨_, rfl, grow_trans hS hb, fun hS => ?_⟩
      (refine aw_take 7 rfl (by kernel_rfl) (by kernel_rfl) (by kernel_rfl) hNP hS rfl (fun w' hq => pv_pick_f rfl rfl rfl) ?_)
      (refine aw_take 8 rfl (by kernel_rfl) (by kernel_rfl) (by kernel_rfl) hNP hS rfl (fun w' hq => pv_move rfl) ?_)
      (refine aw_take_on 9 rfl rfl rfl rfl (by kernel_rfl) (by kernel_rfl) (by kernel_rfl) hNP hS rfl (fun w' hq => pv_move rfl) ?_)
      (refine aw_take_on 10 rfl rfl rfl rfl (by kernel_rfl) (by kernel_rfl) (by kernel_rfl) hNP hS rfl (fun w' hq => pv_neq rfl rfl) ?_)
      (refine aw_take 11 rfl (by kernel_rfl) (by kernel_rfl) (by kernel_rfl) hNP hS rfl (fun w' hq => pv_pick_f rfl rfl rfl) ?_)
      (refine aw_take 12 rfl (by kernel_rfl) (by kernel_rfl) (by kernel_rfl) hNP hS rfl (fun w' hq => pv_move rfl) ?_)
      (refine aw_take_on 13 rfl rfl rfl rfl (by kernel_rfl) (by kernel_rfl) (by kernel_rfl) hNP hS rfl (fun w' hq => pv_move rfl) ?_)
      (refine aw_take_on 14 rfl rfl rfl rfl (by kernel_rfl) (by kernel_rfl) (by kernel_rfl) hNP hS rfl (fun w' hq => pv_neq rfl rfl) ?_)
      (refine aw_take 15 rfl (by kernel_rfl) (by kernel_rfl) (by kernel_rfl) hNP hS rfl (fun w' hq => pv_pick_f rfl rfl rfl) ?_)
      (refine aw_take 16 rfl (by kernel_rfl) (by kernel_rfl) (by kernel_rfl) hNP hS rfl (fun w' hq => pv_move rfl) ?_)
      (refine aw_take_on 17 rfl rfl rfl rfl (by kernel_rfl) (by kernel_rfl) (by kernel_rfl) hNP hS rfl (fun w' hq => pv_move rfl) ?_)
      (refine aw_take_on 18 rfl rfl rfl rfl (by kernel_rfl) (by kernel_rfl) (by kernel_rfl) hNP hS rfl (fun w' hq => pv_neq rfl rfl) ?_)
      (refine aw_take 19 rfl (by kernel_rfl) (by kernel_rfl) (by kernel_rfl) hNP hS rfl (fun w' hq => pv_pick_f rfl rfl rfl) ?_)
      (refine aw_take 20 rfl (by kernel_rfl) (by kernel_rfl) (by kernel_rfl) hNP hS rfl (fun w' hq => pv_move rfl) ?_)
      (refine aw_take_on 21 rfl rfl rfl rfl (by kernel_rfl) (by kernel_rfl) (by kernel_rfl) hNP hS rfl (fun w' hq => pv_loada (tA rfl) rfl (by first | exact PT.lda (hG.mono hq) | exact PT.lda (hT.mono hq) | exact PT.lda (HX.mono hq)) (by rfl)) ?_)
      (refine aw_take_on 22 rfl rfl rfl rfl (by kernel_rfl) (by kernel_rfl) (by kernel_rfl) hNP hS rfl (fun w' hq => pv_loada (tA rfl) rfl (by first | exact PT.lda (hG.mono hq) | exact PT.lda (hT.mono hq) | exact PT.lda (HX.mono hq)) (by rfl)) ?_)
      refine aw_act 23 (by kernel_rfl) rfl rfl rfl ?_
      refine act_call (f := 14) (by kernel_rfl) rfl (less_v x goodO false (bad_less hx _).1 _ (hp.mono hS)) ?_; rintro e w1 ⟨rfl, hb⟩; refine ⟨_, rfl, grow_trans hS hb, fun hS => ?_⟩
      (refine aw_take 24 rfl (by kernel_rfl) (by kernel_rfl) (by kernel_rfl) hNP hS rfl (fun w' hq => pv_pick_f rfl rfl rfl) ?_)
      (refine aw_take 25 rfl (by kernel_rfl) (by kernel_rfl) (by kernel_rfl) hNP hS rfl (fun w' hq => pv_move rfl) ?_)
      (refine aw_take_on 26 rfl rfl rfl rfl (by kernel_rfl) (by kernel_rfl) (by kernel_rfl) hNP hS rfl (fun w' hq => pv_loada (tA rfl) rfl (by first | exact PT.lda (hG.mono hq) | exact PT.lda (hT.mono hq) | exact PT.lda (HX.mono hq)) (by rfl)) ?_)
      (refine aw_take_on 27 rfl rfl rfl rfl (by kernel_rfl) (by kernel_rfl) (by kernel_rfl) hNP hS rfl (fun w' hq => pv_loada (tA rfl) rfl (by first | exact PT.lda (hG.mono hq) | exact PT.lda (hT.mono hq) | exact PT.lda (HX.mono hq)) (by rfl)) ?_)
      refine aw_act 28 (by kernel_rfl) rfl rfl rfl ?_
      refine act_call (f := 15) (by kernel_rfl) rfl (crossW topO x false (bad_less hx _).2 _ (hp.mono hS)) ?_; rintro e w1 ⟨rfl, hb⟩; refine ⟨_, rfl, grow_trans hS hb, fun hS => ?_⟩
      (refine aw_take 29 rfl (by kernel_rfl) (by kernel_rfl) (by kernel_rfl) hNP hS rfl (fun w' hq => pv_pick_f rfl rfl rfl) ?_)
      (refine aw_take 30 rfl (by kernel_rfl) (by kernel_rfl) (by kernel_rfl) hNP hS rfl (fun w' hq => pv_move rfl) ?_)
      (refine aw_take_on 31 rfl rfl rfl rfl (by kernel_rfl) (by kernel_rfl) (by kernel_rfl) hNP hS rfl (fun w' hq => pv_loada (tA rfl) rfl (by first | exact PT.lda (hG.mono hq) | exact PT.lda (hT.mono hq) | exact PT.lda (HX.mono hq)) (by rfl)) ?_)
      (refine aw_take_on 34 rfl rfl rfl rfl (by kernel_rfl) (by kernel_rfl) (by kernel_rfl) hNP hS rfl (fun w' hq => pv_fa (tF rfl) rfl) ?_)
      (refine aw_take_on 35 rfl rfl rfl rfl (by kernel_rfl) (by kernel_rfl) (by kernel_rfl) hNP hS rfl (fun w' hq => pv_load (t1 rfl) rfl (by first | exact PT.ld0 (hG.mono hq) rfl | exact PT.ld (hG.mono hq) rfl | exact PT.ld0 (hT.mono hq) rfl | exact PT.ld (hT.mono hq) rfl | exact PT.ld0 (HX.mono hq) rfl | exact PT.ld (HX.mono hq) rfl)) ?_)
      (refine aw_take_on 36 rfl rfl rfl rfl (by kernel_rfl) (by kernel_rfl) (by kernel_rfl) hNP hS rfl (fun w' hq => pv_fa (tF rfl) rfl) ?_)
      (refine aw_take_on 37 rfl rfl rfl rfl (by kernel_rfl) (by kernel_rfl) (by kernel_rfl) hNP hS rfl (fun w' hq => pv_load (t1 rfl) rfl (by first | exact PT.ld0 (hG.mono hq) rfl | exact PT.ld (hG.mono hq) rfl | exact PT.ld0 (hT.mono hq) rfl | exact PT.ld (hT.mono hq) rfl | exact PT.ld0 (HX.mono hq) rfl | exact PT.ld (HX.mono hq) rfl)) ?_)
      refine aw_act 32 (by kernel_rfl) rfl rfl rfl ?_
      refine act_bs (vs := [(.agg #[.int .i64 x.id, .int .i64 x.acct, .int .i64 x.inst, .int .u8 x.side, .int .i64 x.price, .int .i64 x.left])]) (cs := encO x) elemO rfl rfl (by omega) (by omega) rfl (by simp [Value.cells]) ?_; intro wb HB hb; refine ⟨grow_trans hS hb, fun hS => ?_⟩
      refine aw_act 33 (by kernel_rfl) rfl rfl rfl ?_
      refine act_call (f := 37) (by kernel_rfl) rfl (listV_c _ _) ?_; rintro e w1 ⟨rfl, rfl⟩; refine ⟨_, rfl, hS, fun hS => ?_⟩
      refine aw_act 38 (by kernel_rfl) rfl rfl rfl ?_
      refine act_call (f := 23) (by kernel_rfl) rfl (bad_listC hx _ _ _ _ (HB.slR (xs := [x]) encO_len rfl (by omega)) (hp.mono hS)) ?_; rintro e w1 ⟨⟨a8, c8, rfl⟩, hb⟩; refine ⟨_, rfl, grow_trans hS hb, fun hS => ?_⟩
      (refine aw_take_on 39 rfl rfl rfl rfl (by kernel_rfl) (by kernel_rfl) (by kernel_rfl) hNP hS rfl (fun w' hq => pv_lenl (tS rfl) rfl) ?_)
      (refine aw_take_on 40 rfl rfl rfl rfl (by kernel_rfl) (by kernel_rfl) (by kernel_rfl) hNP hS rfl (fun w' hq => pv_gtr rfl rfl) ?_)
      (refine aw_take 41 rfl (by kernel_rfl) (by kernel_rfl) (by kernel_rfl) hNP hS rfl (fun w' hq => pv_pick_f rfl rfl rfl) ?_)
      refine aw_done (by kernel_rfl) ?_
      replace hw := hS; clear hS hNP
      repeat' (first | (refine lw_pure rfl (pv_move rfl) ?_) | (refine lw_pure rfl (pv_assign rfl) ?_) | (refine is_cw ?_; first | (refine cw_region ?_) | (refine cw_false rfl rfl ?_) | (refine cw_skip ?_)) | (refine is_qw ?_; first | (with_reducible refine qw_then ?_) | (with_reducible refine qw_in ?_)) | (refine lw_nil ?_) | ((refine is_bin ?_; first | (refine lw_pure rfl (pv_inc rfl rfl (by omega)) ?_))))
      refine qw_round (k + 1) ?_ ?_ ?_
      · exact ⟨rfl, rfl, rfl, trivial⟩
      · exact ⟨by omega, (hX.mono hw).b⟩
      · omega
  · as_aux_lemma =>
    have hk12 : k = 12 := by omega
    subst hk12
    repeat' (first | (refine lw_pure rfl (pv_move rfl) ?_) | (refine lw_pure rfl (pv_assign rfl) ?_) | (refine is_cw ?_; first | (refine cw_seq ?_) | (refine cw_region ?_) | (refine cw_false rfl rfl ?_) | (refine cw_block ?_) | (refine cw_exit ?_)) | (refine is_qw ?_; first | (with_reducible refine qw_then ?_) | (with_reducible refine qw_in_hit ?_) | (with_reducible refine qw_then_exit ?_)) | (refine lw_nil ?_) | ((refine is_bin ?_; first | (refine lw_pure rfl (pv_lss rfl rfl) ?_))))
    refine cw_loop (σ := Nat × Value) (fun s => [(11, s.2), (12, .int .i64 (s.1 : Nat))]) (fun s w2 => s.1 ≤ 128 ∧ Below wr.heap.size wr w2 ∧ OwnO wr.heap.size w2 s.2 (fullTo s.1)) (fun s => 128 - s.1) (0, .slice none 0 0) ⟨rfl, rfl, trivial⟩ ⟨Nat.zero_le _, hw, Own.nil _⟩ ?_
    rintro ⟨k, v⟩ w2 ⟨hk2, hw, hO⟩
    replace hk2 : k ≤ 128 := hk2
    replace hO : OwnO wr.heap.size w2 v (fullTo k) := hO
    by_cases hlt2 : k < 128
    · repeat' (first | (refine lw_pure rfl (pv_move rfl) ?_) | (refine is_cw ?_; first | (refine cw_seq ?_) | (refine cw_region ?_) | (refine is_cd ?_; refine cw_true rfl (by first | assumption | exact decide_eq_true (by omega) | exact dec_notT (by omega)) ?_) | (refine cw_skip ?_) | (refine cw_block ?_)) | (refine is_qw ?_; first | (with_reducible refine qw_then ?_)) | (refine lw_nil ?_) | ((refine is_bin ?_; first | (refine lw_pure rfl (pv_lss rfl rfl) ?_) | (refine lw_pure rfl (pv_add rfl rfl (by omega)) ?_) | (refine lw_pure rfl (pv_mul rfl rfl (by omega)) ?_))))
      refine lw_call (f := 38) (by kernel_rfl) rfl rfl (of_c _ _ _ _ _) ?_; rintro e w3 ⟨rfl, hb⟩; refine ⟨_, rfl, ?_⟩
      replace hO := hO.mono hb
      replace hw := grow_trans hw hb
      refine lw_bs1 elemO rfl rfl (cs := encO (ofO (2 * (k : Int) + 2))) rfl rfl (by omega) ?_; intro w4 HB hb4 hz
      have hl := fullTo_len k
      refine lw_app elemO encO_len encO_one rfl rfl rfl (hO.mono hb4) (HB.slR (xs := [ofO (2 * (k : Int) + 2)]) encO_len rfl (by omega)) rfl (by have := hw.size; omega) (by simp; omega) (by simp [maxLen]; omega) ?_; intro v9 w9 hO9 hg9 hb9
      replace hw := (grow_trans hw hb4).trans hb9
      repeat' (first | (refine lw_pure rfl (pv_move rfl) ?_) | (refine lw_pure rfl (pv_assign rfl) ?_) | (refine is_cw ?_; first | (refine cw_region ?_)) | (refine is_qw ?_; first | (with_reducible refine qw_then ?_) | (with_reducible refine qw_in ?_)) | (refine lw_nil ?_) | ((refine is_bin ?_; first | (refine lw_pure rfl (pv_inc rfl rfl (by omega)) ?_))))
      refine qw_round (k + 1, v9) ?_ ?_ ?_
      · exact ⟨rfl, rfl, trivial⟩
      · exact ⟨by show k + 1 ≤ 128; omega, hw, by show OwnO _ _ _ (fullTo (k + 1)); rw [fullTo_succ]; exact hO9⟩
      · show 128 - (k + 1) < 128 - k; omega
    · have hk128 : k = 128 := by omega
      subst hk128
      repeat' (first | (refine lw_pure rfl (pv_move rfl) ?_) | (refine is_cw ?_; first | (refine cw_seq ?_) | (refine cw_region ?_) | (refine cw_false rfl rfl ?_) | (refine cw_exit ?_)) | (refine is_qw ?_; first | (with_reducible refine qw_then ?_) | (with_reducible refine qw_in_hit ?_) | (with_reducible refine qw_then_exit ?_)) | (refine lw_nil ?_) | ((refine is_bin ?_; first | (refine lw_pure rfl (pv_lss rfl rfl) ?_))))
      obtain ⟨fa, fc, rfl, hF, hFb⟩ := Own.slR encO_len hO
      obtain ⟨fb, fo, rfl, -, -⟩ := hF.at (by intro h; have := fullTo_len 128; rw [h] at this; simp at this)
      have hfo : fo = 0 := (hFb _ rfl).2
      subst hfo
      replace hF : SlO w2 (some ⟨fb, 0, none⟩) fc fullL := hF
      have hfc : 128 ≤ fc := by have := hF.le; have := full_len; omega
      replace hE := hE.mono hw
      replace hp := hp.mono hw
      clear hw
      have hw := Below.refl w2.heap.size w2
      have hl128 : (fullTo 128).length = 128 := fullTo_len 128
      have hT1 : SlO w2 (if fc = (1 : Int).toNat then some ⟨fb, 0, none⟩ else Option.map (fun x : Addr => x.add ((1 : Int).toNat * 6)) (some (⟨fb, 0, none⟩ : Addr))) (fc - (1 : Int).toNat) (fullL.drop 1) := by
        rw [if_neg (by show ¬ fc = 1; omega)]
        exact SlR.tail hF 1 (by have := full_len; omega)
      refine lw_call (f := 38) (by kernel_rfl) rfl rfl (of_c _ _ _ _ _) ?_; rintro e w3 ⟨rfl, hb⟩; refine ⟨_, rfl, ?_⟩; replace hw := grow_trans hw hb; clear hb
      skip
      refine lw_call (f := 30) (by kernel_rfl) rfl rfl (add_n (xs := fullL) (o := ofO 1) rfl (hF.mono hw) (by omega) full_add1) ?_; rintro e w3 ⟨a9, c9, rfl, hb, -⟩; refine ⟨_, rfl, ?_⟩; replace hw := grow_trans hw hb; clear hb
      repeat' (first | (refine lw_pure rfl (pv_move rfl) ?_) | (refine lw_pure rfl (pv_assign rfl) ?_) | (refine is_cw ?_; first | (refine cw_seq ?_) | (refine cw_region ?_)) | (refine is_qw ?_; first | (with_reducible refine qw_then ?_)) | (refine lw_nil ?_) | (refine lw_pure rfl (pv_extract rfl rfl) ?_))
      refine lw_call (f := 38) (by kernel_rfl) rfl rfl (of_c _ _ _ _ _) ?_; rintro e w3 ⟨rfl, hb⟩; refine ⟨_, rfl, ?_⟩; replace hw := grow_trans hw hb; clear hb
      skip
      refine lw_call (f := 30) (by kernel_rfl) rfl rfl (add_n (xs := fullL) (o := ofO 2) rfl (hF.mono hw) (by omega) full_add2) ?_; rintro e w3 ⟨a9, c9, rfl, hb, -⟩; refine ⟨_, rfl, ?_⟩; replace hw := grow_trans hw hb; clear hb
      repeat' (first | (refine lw_pure rfl (pv_move rfl) ?_) | (refine lw_pure rfl (pv_assign rfl) ?_) | (refine is_cw ?_; first | (refine cw_seq ?_)) | (refine is_qw ?_; first | (with_reducible refine qw_then ?_)) | (refine lw_nil ?_) | (refine lw_pure rfl (pv_extract rfl rfl) ?_))
      refine cw_drawn (fun w' => Below w2.heap.size w2 w') (by kernel_rfl) (by repeat (first | exact NoPanic.body | with_reducible refine NoPanic.then ?_ | with_reducible refine NoPanic.inBlock ?_)) (fun hNP => ?_)
      have hS := hw.drew
      (refine aw_take 0 rfl (by kernel_rfl) (by kernel_rfl) (by kernel_rfl) hNP hS rfl (fun w' hq => pv_move rfl) ?_)
      (refine aw_take 1 rfl (by kernel_rfl) (by kernel_rfl) (by kernel_rfl) hNP hS rfl (fun w' hq => pv_slice_l (tS rfl) rfl rfl (by omega)) ?_)
      refine aw_act 2 (by kernel_rfl) rfl rfl rfl ?_
      refine act_call (f := 38) (by kernel_rfl) rfl (of_c _ _ _ _ _) ?_; rintro e w1 ⟨rfl, hb⟩; refine ⟨_, rfl, grow_trans hS hb, fun hS => ?_⟩
      refine aw_act 3 (by kernel_rfl) rfl rfl rfl ?_
      refine act_call (f := 30) (by kernel_rfl) rfl (add_n (xs := fullL.drop 1) (o := ofO 1) (by rw [List.length_drop]; rfl) (hT1.mono hS) (by omega) full_add3') ?_; rintro e w3 ⟨a9, c9, rfl, hb, -⟩; refine ⟨_, rfl, grow_trans hS hb, fun hS => ?_⟩
      (refine aw_take 4 rfl (by kernel_rfl) (by kernel_rfl) (by kernel_rfl) hNP hS rfl (fun w' hq => pv_move rfl) ?_)
      (refine aw_take 5 rfl (by kernel_rfl) (by kernel_rfl) (by kernel_rfl) hNP hS rfl (fun w' hq => pv_extract rfl rfl) ?_)
      (refine aw_take 6 rfl (by kernel_rfl) (by kernel_rfl) (by kernel_rfl) hNP hS rfl (fun w' hq => pv_extract rfl rfl) ?_)
      (refine aw_take 7 rfl (by kernel_rfl) (by kernel_rfl) (by kernel_rfl) hNP hS rfl (fun w' hq => pv_assign rfl) ?_)
      (refine aw_take 8 rfl (by kernel_rfl) (by kernel_rfl) (by kernel_rfl) hNP hS rfl (fun w' hq => pv_assign rfl) ?_)
      refine aw_done (by kernel_rfl) ?_
      replace hw := hS; clear hS hNP
      repeat' (first | (refine is_cw ?_; first | (refine cw_seq ?_) | (refine cw_region ?_)) | (refine is_qw ?_; first | (with_reducible refine qw_then ?_)))
      refine lw_call (f := 38) (by kernel_rfl) rfl rfl (of_c _ _ _ _ _) ?_; rintro e w3 ⟨rfl, hb⟩; refine ⟨_, rfl, ?_⟩; replace hw := grow_trans hw hb; clear hb
      refine lw_bs1 elemO rfl rfl (cs := encO (ofO 1)) rfl rfl (by omega) ?_; intro w4 HB hb hz
      replace hw := grow_trans hw hb
      clear hb hz
      skip
      refine lw_call (f := 37) (by kernel_rfl) rfl rfl (listV_c _ _) ?_; rintro e w1 ⟨rfl, rfl⟩; refine ⟨_, rfl, ?_⟩
      repeat' (first | (refine lw_pure rfl (pv_move rfl) ?_))
      refine lw_appf elemO encO_len encO_one rfl rfl rfl (HB.slR (xs := [ofO 1]) encO_len rfl (by omega)) (hF.mono hw) rfl rfl (by show 1 < 1 + fullL.length; have := full_len; omega) (by show (1 + fullL.length) * 48 ≤ _; have := full_len; omega) (by show 1 + fullL.length ≤ 9223372036854775807; have := full_len; omega) ?_; intro vm w5 hOm hb
      obtain ⟨ma, mc, rfl, hM, -⟩ := Own.slR encO_len hOm
      replace hM : SlO w5 ma mc (ofO 1 :: fullL) := hM
      have hlm : ([ofO 1] ++ fullL).length = 129 := by rw [List.length_append, full_len]; rfl
      replace hw := grow_trans hw hb
      replace hE := hE.mono hw; replace hp := hp.mono hw; replace hF := hF.mono hw; clear hw; have hw := Below.refl w5.heap.size w5
      repeat' (first | (refine lw_pure rfl (pv_move rfl) ?_) | (refine lw_pure rfl (pv_assign rfl) ?_) | (refine is_cw ?_; first | (refine cw_seq ?_) | (refine cw_region ?_)) | (refine is_qw ?_; first | (with_reducible refine qw_then ?_)) | (refine lw_nil ?_))
      refine lw_call (f := 32) (by kernel_rfl) rfl rfl (take_n (xs := ofO 1 :: fullL) rfl (hM.mono hw) (by omega) more_take) ?_; rintro e w3 ⟨a9, c9, rfl, hb, -⟩; refine ⟨_, rfl, ?_⟩; replace hw := grow_trans hw hb; clear hb
      repeat' (first | (refine lw_pure rfl (pv_move rfl) ?_) | (refine lw_pure rfl (pv_assign rfl) ?_) | (refine is_cw ?_; first | (refine cw_seq ?_) | (refine cw_region ?_)) | (refine is_qw ?_; first | (with_reducible refine qw_then ?_)) | (refine lw_nil ?_) | (refine lw_pure rfl (pv_extract rfl rfl) ?_))
      refine lw_call (f := 34) (by kernel_rfl) rfl rfl (drop_n (xs := ofO 1 :: fullL) rfl (hM.mono hw) (by omega) more_drop) ?_; rintro e w3 ⟨a9, c9, rfl, hb, -⟩; refine ⟨_, rfl, ?_⟩; replace hw := grow_trans hw hb; clear hb
      repeat' (first | (refine lw_pure rfl (pv_move rfl) ?_) | (refine lw_pure rfl (pv_assign rfl) ?_) | (refine is_cw ?_; first | (refine cw_seq ?_) | (refine cw_region ?_)) | (refine is_qw ?_; first | (with_reducible refine qw_then ?_)) | (refine lw_nil ?_) | (refine lw_pure rfl (pv_extract rfl rfl) ?_))
      refine lw_call (f := 32) (by kernel_rfl) rfl rfl (take_n (xs := fullL) rfl (hF.mono hw) (by omega) full_take1) ?_; rintro e w3 ⟨a9, c9, rfl, hb, -⟩; refine ⟨_, rfl, ?_⟩; replace hw := grow_trans hw hb; clear hb
      repeat' (first | (refine lw_pure rfl (pv_move rfl) ?_) | (refine lw_pure rfl (pv_assign rfl) ?_) | (refine is_cw ?_; first | (refine cw_seq ?_) | (refine cw_region ?_)) | (refine is_qw ?_; first | (with_reducible refine qw_then ?_)) | (refine lw_nil ?_) | (refine lw_pure rfl (pv_extract rfl rfl) ?_))
      refine lw_call (f := 32) (by kernel_rfl) rfl rfl (take_n (xs := fullL) rfl (hF.mono hw) (by omega) full_take2) ?_; rintro e w3 ⟨a9, c9, rfl, hb, -⟩; refine ⟨_, rfl, ?_⟩; replace hw := grow_trans hw hb; clear hb
      repeat' (first | (refine lw_pure rfl (pv_move rfl) ?_) | (refine lw_pure rfl (pv_assign rfl) ?_) | (refine is_cw ?_; first | (refine cw_seq ?_) | (refine cw_region ?_)) | (refine is_qw ?_; first | (with_reducible refine qw_then ?_)) | (refine lw_nil ?_) | (refine lw_pure rfl (pv_extract rfl rfl) ?_))
      refine lw_call (f := 32) (by kernel_rfl) rfl rfl (take_n (xs := fullL) rfl (hF.mono hw) (by omega) full_take3) ?_; rintro e w3 ⟨a9, c9, rfl, hb, -⟩; refine ⟨_, rfl, ?_⟩; replace hw := grow_trans hw hb; clear hb
      repeat' (first | (refine lw_pure rfl (pv_move rfl) ?_) | (refine lw_pure rfl (pv_assign rfl) ?_) | (refine is_cw ?_; first | (refine cw_seq ?_) | (refine cw_region ?_)) | (refine is_qw ?_; first | (with_reducible refine qw_then ?_)) | (refine lw_nil ?_) | (refine lw_pure rfl (pv_extract rfl rfl) ?_))
      refine lw_call (f := 34) (by kernel_rfl) rfl rfl (drop_n (xs := fullL) rfl (hF.mono hw) (by omega) full_drop) ?_; rintro e w3 ⟨a9, c9, rfl, hb, -⟩; refine ⟨_, rfl, ?_⟩; replace hw := grow_trans hw hb; clear hb
      repeat' (first | (refine lw_pure rfl (pv_move rfl) ?_) | (refine lw_pure rfl (pv_assign rfl) ?_) | (refine is_cw ?_; first | (refine cw_seq ?_) | (refine cw_region ?_)) | (refine is_qw ?_; first | (with_reducible refine qw_then ?_)) | (refine lw_nil ?_) | (refine lw_pure rfl (pv_extract rfl rfl) ?_))
      refine lw_call (f := 28) (by kernel_rfl) rfl rfl (find_z (xs := ofO 1 :: fullL) rfl (hM.mono hw) (by omega) more_find) ?_; rintro e w1 ⟨rfl, hb⟩; refine ⟨_, rfl, ?_⟩; replace hw := grow_trans hw hb; clear hb
      repeat' (first | (refine lw_pure rfl (pv_move rfl) ?_) | (refine lw_pure rfl (pv_extract rfl rfl) ?_))
      refine lw_varN rfl (by first | exact tyv_22 | exact tyv_23) rfl (tZ rfl) (fun _ => rfl) rfl rfl ?_; intro Z1 wn hn1 hz1 hb; replace hn1 := Nat.le_trans hw.size hn1; replace hw := grow_trans hw hb; clear hb
      repeat' (first | (refine lw_pure rfl (pv_move rfl) ?_) | (refine lw_pure rfl (pv_assign rfl) ?_) | (refine is_cw ?_; first | (refine cw_seq ?_) | (refine cw_region ?_)) | (refine is_qw ?_; first | (with_reducible refine qw_then ?_)) | (refine lw_nil ?_))
      refine lw_call (f := 16) (by kernel_rfl) rfl rfl (first_e (xs := fullL) rfl full_list (hF.mono hw) (hp.mono hw) (by omega)) ?_; rintro e w1 ⟨rfl, hb⟩; refine ⟨_, rfl, ?_⟩; replace hw := grow_trans hw hb; clear hb
      repeat' (first | (refine lw_pure rfl (pv_move rfl) ?_) | (refine lw_pure rfl (pv_extract rfl rfl) ?_))
      refine lw_varN rfl (by first | exact tyv_22 | exact tyv_23) rfl (tZ rfl) (fun _ => rfl) rfl rfl ?_; intro Z2 wn hn2 hz2 hb; replace hn2 := Nat.le_trans hw.size hn2; replace hw := grow_trans hw hb; clear hb
      repeat' (first | (refine lw_pure rfl (pv_assign rfl) ?_) | (refine is_cw ?_; first | (refine cw_seq ?_) | (refine cw_region ?_)) | (refine is_qw ?_; first | (with_reducible refine qw_then ?_)) | (refine lw_nil ?_))
      refine lw_call (f := 16) (by kernel_rfl) rfl rfl (first_e (xs := []) rfl nil_list (SlR.nil _) (hp.mono hw) (by omega)) ?_; rintro e w1 ⟨rfl, hb⟩; refine ⟨_, rfl, ?_⟩; replace hw := grow_trans hw hb; clear hb
      repeat' (first | (refine lw_pure rfl (pv_move rfl) ?_) | (refine lw_pure rfl (pv_extract rfl rfl) ?_))
      refine lw_varN rfl (by first | exact tyv_22 | exact tyv_23) rfl (tZ rfl) (fun _ => rfl) rfl rfl ?_; intro Z3 wn hn3 hz3 hb; replace hn3 := Nat.le_trans hw.size hn3; replace hw := grow_trans hw hb; clear hb
      repeat' (first | (refine lw_pure rfl (pv_assign rfl) ?_) | (refine is_cw ?_; first | (refine cw_seq ?_)) | (refine is_qw ?_; first | (with_reducible refine qw_then ?_)) | (refine lw_nil ?_))
      clear hz1 hz2 hz3 hn1 hn2 hn3
      replace hE := hE.mono hw; replace hp := hp.mono hw; replace hF := hF.mono hw; replace hM := hM.mono hw; clear hw; have hw := Below.refl wn.heap.size wn
      have h0 := full_at0
      have h1 := full_at1
      refine cw_drawn (fun w' => Below wn.heap.size wn w') (by kernel_rfl) (by repeat (first | exact NoPanic.body | with_reducible refine NoPanic.then ?_ | with_reducible refine NoPanic.inBlock ?_)) (fun hNP => ?_)
      have hS := hw.drew
      (refine aw_take 0 rfl (by kernel_rfl) (by kernel_rfl) (by kernel_rfl) hNP hS rfl (fun w' hq => pv_move rfl) ?_)
      refine aw_act 1 (by kernel_rfl) rfl rfl rfl ?_
      refine act_call (f := 17) (by kernel_rfl) rfl (may_v (xs := fullL) rfl full_may (hF.mono hS)) ?_; rintro e w1 ⟨rfl, hb⟩; refine ⟨_, rfl, grow_trans hS hb, fun hS => ?_⟩
      (refine aw_take 2 rfl (by kernel_rfl) (by kernel_rfl) (by kernel_rfl) hNP hS rfl (fun w' hq => pv_move rfl) ?_)
      refine aw_act 3 (by kernel_rfl) rfl rfl rfl ?_
      refine act_call (f := 17) (by kernel_rfl) rfl (may_v (xs := []) rfl nil_may (SlR.nil _)) ?_; rintro e w1 ⟨rfl, hb⟩; refine ⟨_, rfl, grow_trans hS hb, fun hS => ?_⟩
      (refine aw_take 4 rfl (by kernel_rfl) (by kernel_rfl) (by kernel_rfl) hNP hS rfl (fun w' hq => pv_pick_t rfl rfl rfl) ?_)
      (refine aw_take 5 rfl (by kernel_rfl) (by kernel_rfl) (by kernel_rfl) hNP hS rfl (fun w' hq => pv_move rfl) ?_)
      (refine aw_take_on 6 rfl rfl rfl rfl (by kernel_rfl) (by kernel_rfl) (by kernel_rfl) hNP hS rfl (fun w' hq => pv_move rfl) ?_)
      refine aw_act 7 (by kernel_rfl) rfl rfl rfl ?_
      refine act_call (f := 17) (by kernel_rfl) rfl (may_v (xs := ofO 1 :: fullL) rfl more_may (hM.mono hS)) ?_; rintro e w1 ⟨rfl, hb⟩; refine ⟨_, rfl, grow_trans hS hb, fun hS => ?_⟩
      (refine aw_take_on 8 rfl rfl rfl rfl (by kernel_rfl) (by kernel_rfl) (by kernel_rfl) hNP hS rfl (fun w' hq => pv_not rfl) ?_)
      (refine aw_take 9 rfl (by kernel_rfl) (by kernel_rfl) (by kernel_rfl) hNP hS rfl (fun w' hq => pv_pick_t rfl rfl rfl) ?_)
      (refine aw_take 10 rfl (by kernel_rfl) (by kernel_rfl) (by kernel_rfl) hNP hS rfl (fun w' hq => pv_move rfl) ?_)
      (refine aw_take_on 11 rfl rfl rfl rfl (by kernel_rfl) (by kernel_rfl) (by kernel_rfl) hNP hS rfl (fun w' hq => pv_move rfl) ?_)
      (refine aw_take_on 12 rfl rfl rfl rfl (by kernel_rfl) (by kernel_rfl) (by kernel_rfl) hNP hS rfl (fun w' hq => pv_ia (tS rfl) rfl rfl (by omega)) ?_)
      (refine aw_take_on 13 rfl rfl rfl rfl (by kernel_rfl) (by kernel_rfl) (by kernel_rfl) hNP hS rfl (fun w' hq => pv_loada (tA rfl) rfl (by first | exact SlR.lda (hF.mono hq) h0 | exact SlR.lda (hF.mono hq) h1) (by rfl)) ?_)
      (refine aw_take_on 14 rfl rfl rfl rfl (by kernel_rfl) (by kernel_rfl) (by kernel_rfl) hNP hS rfl (fun w' hq => pv_move rfl) ?_)
      (refine aw_take_on 15 rfl rfl rfl rfl (by kernel_rfl) (by kernel_rfl) (by kernel_rfl) hNP hS rfl (fun w' hq => pv_ia (tS rfl) rfl rfl (by omega)) ?_)
      (refine aw_take_on 16 rfl rfl rfl rfl (by kernel_rfl) (by kernel_rfl) (by kernel_rfl) hNP hS rfl (fun w' hq => pv_loada (tA rfl) rfl (by first | exact SlR.lda (hF.mono hq) h0 | exact SlR.lda (hF.mono hq) h1) (by rfl)) ?_)
      refine aw_act 17 (by kernel_rfl) rfl rfl rfl ?_
      refine act_bs (vs := [(.agg #[.int .i64 (ofO 4).id, .int .i64 (ofO 4).acct, .int .i64 (ofO 4).inst, .int .u8 (ofO 4).side, .int .i64 (ofO 4).price, .int .i64 (ofO 4).left]), (.agg #[.int .i64 (ofO 2).id, .int .i64 (ofO 2).acct, .int .i64 (ofO 2).inst, .int .u8 (ofO 2).side, .int .i64 (ofO 2).price, .int .i64 (ofO 2).left])]) (cs := [ofO 4, ofO 2].flatMap encO) elemO rfl rfl (by omega) (by omega) rfl (by simp [Value.cells]) ?_; intro wb HB hb; refine ⟨grow_trans hS hb, fun hS => ?_⟩
      refine aw_act 18 (by kernel_rfl) rfl rfl rfl ?_
      refine act_call (f := 37) (by kernel_rfl) rfl (listV_c _ _) ?_; rintro e w1 ⟨rfl, rfl⟩; refine ⟨_, rfl, hS, fun hS => ?_⟩
      refine aw_act 19 (by kernel_rfl) rfl rfl rfl ?_
      refine act_call (f := 17) (by kernel_rfl) rfl (may_v (xs := [ofO 4, ofO 2]) rfl full_two (HB.slR encO_len rfl (by omega))) ?_; rintro e w1 ⟨rfl, hb⟩; refine ⟨_, rfl, grow_trans hS hb, fun hS => ?_⟩
      (refine aw_take_on 20 rfl rfl rfl rfl (by kernel_rfl) (by kernel_rfl) (by kernel_rfl) hNP hS rfl (fun w' hq => pv_not rfl) ?_)
      (refine aw_take 21 rfl (by kernel_rfl) (by kernel_rfl) (by kernel_rfl) hNP hS rfl (fun w' hq => pv_pick_t rfl rfl rfl) ?_)
      (refine aw_take 22 rfl (by kernel_rfl) (by kernel_rfl) (by kernel_rfl) hNP hS rfl (fun w' hq => pv_move rfl) ?_)
      (refine aw_take_on 23 rfl rfl rfl rfl (by kernel_rfl) (by kernel_rfl) (by kernel_rfl) hNP hS rfl (fun w' hq => pv_move rfl) ?_)
      (refine aw_take_on 24 rfl rfl rfl rfl (by kernel_rfl) (by kernel_rfl) (by kernel_rfl) hNP hS rfl (fun w' hq => pv_ia (tS rfl) rfl rfl (by omega)) ?_)
      (refine aw_take_on 25 rfl rfl rfl rfl (by kernel_rfl) (by kernel_rfl) (by kernel_rfl) hNP hS rfl (fun w' hq => pv_loada (tA rfl) rfl (by first | exact SlR.lda (hF.mono hq) h0 | exact SlR.lda (hF.mono hq) h1) (by rfl)) ?_)
      (refine aw_take_on 26 rfl rfl rfl rfl (by kernel_rfl) (by kernel_rfl) (by kernel_rfl) hNP hS rfl (fun w' hq => pv_move rfl) ?_)
      (refine aw_take_on 27 rfl rfl rfl rfl (by kernel_rfl) (by kernel_rfl) (by kernel_rfl) hNP hS rfl (fun w' hq => pv_ia (tS rfl) rfl rfl (by omega)) ?_)
      (refine aw_take_on 28 rfl rfl rfl rfl (by kernel_rfl) (by kernel_rfl) (by kernel_rfl) hNP hS rfl (fun w' hq => pv_loada (tA rfl) rfl (by first | exact SlR.lda (hF.mono hq) h0 | exact SlR.lda (hF.mono hq) h1) (by rfl)) ?_)
      refine aw_act 29 (by kernel_rfl) rfl rfl rfl ?_
      refine act_bs (vs := [(.agg #[.int .i64 (ofO 4).id, .int .i64 (ofO 4).acct, .int .i64 (ofO 4).inst, .int .u8 (ofO 4).side, .int .i64 (ofO 4).price, .int .i64 (ofO 4).left]), (.agg #[.int .i64 (ofO 4).id, .int .i64 (ofO 4).acct, .int .i64 (ofO 4).inst, .int .u8 (ofO 4).side, .int .i64 (ofO 4).price, .int .i64 (ofO 4).left])]) (cs := [ofO 4, ofO 4].flatMap encO) elemO rfl rfl (by omega) (by omega) rfl (by simp [Value.cells]) ?_; intro wb HB hb; refine ⟨grow_trans hS hb, fun hS => ?_⟩
      refine aw_act 30 (by kernel_rfl) rfl rfl rfl ?_
      refine act_call (f := 37) (by kernel_rfl) rfl (listV_c _ _) ?_; rintro e w1 ⟨rfl, rfl⟩; refine ⟨_, rfl, hS, fun hS => ?_⟩
      refine aw_act 31 (by kernel_rfl) rfl rfl rfl ?_
      refine act_call (f := 17) (by kernel_rfl) rfl (may_v (xs := [ofO 4, ofO 4]) rfl full_twice (HB.slR encO_len rfl (by omega))) ?_; rintro e w1 ⟨rfl, hb⟩; refine ⟨_, rfl, grow_trans hS hb, fun hS => ?_⟩
      (refine aw_take_on 32 rfl rfl rfl rfl (by kernel_rfl) (by kernel_rfl) (by kernel_rfl) hNP hS rfl (fun w' hq => pv_not rfl) ?_)
      (refine aw_take 33 rfl (by kernel_rfl) (by kernel_rfl) (by kernel_rfl) hNP hS rfl (fun w' hq => pv_pick_t rfl rfl rfl) ?_)
      (refine aw_take 34 rfl (by kernel_rfl) (by kernel_rfl) (by kernel_rfl) hNP hS rfl (fun w' hq => pv_move rfl) ?_)
      (refine aw_take_on 35 rfl rfl rfl rfl (by kernel_rfl) (by kernel_rfl) (by kernel_rfl) hNP hS rfl (fun w' hq => pv_move rfl) ?_)
      (refine aw_take_on 36 rfl rfl rfl rfl (by kernel_rfl) (by kernel_rfl) (by kernel_rfl) hNP hS rfl (fun w' hq => pv_eql rfl rfl) ?_)
      (refine aw_take 37 rfl (by kernel_rfl) (by kernel_rfl) (by kernel_rfl) hNP hS rfl (fun w' hq => pv_pick_t rfl rfl rfl) ?_)
      (refine aw_take 38 rfl (by kernel_rfl) (by kernel_rfl) (by kernel_rfl) hNP hS rfl (fun w' hq => pv_move rfl) ?_)
      (refine aw_take_on 39 rfl rfl rfl rfl (by kernel_rfl) (by kernel_rfl) (by kernel_rfl) hNP hS rfl (fun w' hq => pv_move rfl) ?_)
      (refine aw_take_on 40 rfl rfl rfl rfl (by kernel_rfl) (by kernel_rfl) (by kernel_rfl) hNP hS rfl (fun w' hq => pv_eql rfl rfl) ?_)
      (refine aw_take 41 rfl (by kernel_rfl) (by kernel_rfl) (by kernel_rfl) hNP hS rfl (fun w' hq => pv_pick_t rfl rfl rfl) ?_)
      (refine aw_take 42 rfl (by kernel_rfl) (by kernel_rfl) (by kernel_rfl) hNP hS rfl (fun w' hq => pv_move rfl) ?_)
      (refine aw_take_on 43 rfl rfl rfl rfl (by kernel_rfl) (by kernel_rfl) (by kernel_rfl) hNP hS rfl (fun w' hq => pv_move rfl) ?_)
      (refine aw_take_on 44 rfl rfl rfl rfl (by kernel_rfl) (by kernel_rfl) (by kernel_rfl) hNP hS rfl (fun w' hq => pv_eql rfl rfl) ?_)
      (refine aw_take 45 rfl (by kernel_rfl) (by kernel_rfl) (by kernel_rfl) hNP hS rfl (fun w' hq => pv_pick_t rfl rfl rfl) ?_)
      (refine aw_take 46 rfl (by kernel_rfl) (by kernel_rfl) (by kernel_rfl) hNP hS rfl (fun w' hq => pv_move rfl) ?_)
      (refine aw_take_on 47 rfl rfl rfl rfl (by kernel_rfl) (by kernel_rfl) (by kernel_rfl) hNP hS rfl (fun w' hq => pv_move rfl) ?_)
      (refine aw_take_on 48 rfl rfl rfl rfl (by kernel_rfl) (by kernel_rfl) (by kernel_rfl) hNP hS rfl (fun w' hq => pv_eql rfl rfl) ?_)
      (refine aw_take 49 rfl (by kernel_rfl) (by kernel_rfl) (by kernel_rfl) hNP hS rfl (fun w' hq => pv_pick_t rfl rfl rfl) ?_)
      (refine aw_take 50 rfl (by kernel_rfl) (by kernel_rfl) (by kernel_rfl) hNP hS rfl (fun w' hq => pv_move rfl) ?_)
      (refine aw_take_on 51 rfl rfl rfl rfl (by kernel_rfl) (by kernel_rfl) (by kernel_rfl) hNP hS rfl (fun w' hq => pv_move rfl) ?_)
      (refine aw_take_on 52 rfl rfl rfl rfl (by kernel_rfl) (by kernel_rfl) (by kernel_rfl) hNP hS rfl (fun w' hq => pv_eql rfl rfl) ?_)
      (refine aw_take 53 rfl (by kernel_rfl) (by kernel_rfl) (by kernel_rfl) hNP hS rfl (fun w' hq => pv_pick_t rfl rfl rfl) ?_)
      (refine aw_take 54 rfl (by kernel_rfl) (by kernel_rfl) (by kernel_rfl) hNP hS rfl (fun w' hq => pv_move rfl) ?_)
      (refine aw_take_on 55 rfl rfl rfl rfl (by kernel_rfl) (by kernel_rfl) (by kernel_rfl) hNP hS rfl (fun w' hq => pv_move rfl) ?_)
      (refine aw_take_on 56 rfl rfl rfl rfl (by kernel_rfl) (by kernel_rfl) (by kernel_rfl) hNP hS rfl (fun w' hq => pv_eql rfl rfl) ?_)
      (refine aw_take 57 rfl (by kernel_rfl) (by kernel_rfl) (by kernel_rfl) hNP hS rfl (fun w' hq => pv_pick_t rfl rfl rfl) ?_)
      (refine aw_take 58 rfl (by kernel_rfl) (by kernel_rfl) (by kernel_rfl) hNP hS rfl (fun w' hq => pv_move rfl) ?_)
      (refine aw_take_on 59 rfl rfl rfl rfl (by kernel_rfl) (by kernel_rfl) (by kernel_rfl) hNP hS rfl (fun w' hq => pv_move rfl) ?_)
      (refine aw_take_on 60 rfl rfl rfl rfl (by kernel_rfl) (by kernel_rfl) (by kernel_rfl) hNP hS rfl (fun w' hq => pv_eql rfl rfl) ?_)
      (refine aw_take 61 rfl (by kernel_rfl) (by kernel_rfl) (by kernel_rfl) hNP hS rfl (fun w' hq => pv_pick_t rfl rfl rfl) ?_)
      (refine aw_take 62 rfl (by kernel_rfl) (by kernel_rfl) (by kernel_rfl) hNP hS rfl (fun w' hq => pv_move rfl) ?_)
      (refine aw_take_on 63 rfl rfl rfl rfl (by kernel_rfl) (by kernel_rfl) (by kernel_rfl) hNP hS rfl (fun w' hq => pv_move rfl) ?_)
      (refine aw_take_on 64 rfl rfl rfl rfl (by kernel_rfl) (by kernel_rfl) (by kernel_rfl) hNP hS rfl (fun w' hq => pv_eql rfl rfl) ?_)
      (refine aw_take 65 rfl (by kernel_rfl) (by kernel_rfl) (by kernel_rfl) hNP hS rfl (fun w' hq => pv_pick_t rfl rfl rfl) ?_)
      (refine aw_take 66 rfl (by kernel_rfl) (by kernel_rfl) (by kernel_rfl) hNP hS rfl (fun w' hq => pv_move rfl) ?_)
      (refine aw_take_on 67 rfl rfl rfl rfl (by kernel_rfl) (by kernel_rfl) (by kernel_rfl) hNP hS rfl (fun w' hq => pv_move rfl) ?_)
      (refine aw_take_on 68 rfl rfl rfl rfl (by kernel_rfl) (by kernel_rfl) (by kernel_rfl) hNP hS rfl (fun w' hq => pv_eql rfl rfl) ?_)
      (refine aw_take 69 rfl (by kernel_rfl) (by kernel_rfl) (by kernel_rfl) hNP hS rfl (fun w' hq => pv_pick_t rfl rfl rfl) ?_)
      (refine aw_take 70 rfl (by kernel_rfl) (by kernel_rfl) (by kernel_rfl) hNP hS rfl (fun w' hq => pv_move rfl) ?_)
      (refine aw_take_on 71 rfl rfl rfl rfl (by kernel_rfl) (by kernel_rfl) (by kernel_rfl) hNP hS rfl (fun w' hq => pv_move rfl) ?_)
      (refine aw_take_on 72 rfl rfl rfl rfl (by kernel_rfl) (by kernel_rfl) (by kernel_rfl) hNP hS rfl (fun w' hq => pv_not rfl) ?_)
      (refine aw_take 73 rfl (by kernel_rfl) (by kernel_rfl) (by kernel_rfl) hNP hS rfl (fun w' hq => pv_pick_t rfl rfl rfl) ?_)
      (refine aw_take 74 rfl (by kernel_rfl) (by kernel_rfl) (by kernel_rfl) hNP hS rfl (fun w' hq => pv_move rfl) ?_)
      (refine aw_take_on 75 rfl rfl rfl rfl (by kernel_rfl) (by kernel_rfl) (by kernel_rfl) hNP hS rfl (fun w' hq => pv_move rfl) ?_)
      (refine aw_take_on 76 rfl rfl rfl rfl (by kernel_rfl) (by kernel_rfl) (by kernel_rfl) hNP hS rfl (fun w' hq => pv_not rfl) ?_)
      (refine aw_take 77 rfl (by kernel_rfl) (by kernel_rfl) (by kernel_rfl) hNP hS rfl (fun w' hq => pv_pick_t rfl rfl rfl) ?_)
      (refine aw_take 78 rfl (by kernel_rfl) (by kernel_rfl) (by kernel_rfl) hNP hS rfl (fun w' hq => pv_move rfl) ?_)
      (refine aw_take_on 79 rfl rfl rfl rfl (by kernel_rfl) (by kernel_rfl) (by kernel_rfl) hNP hS rfl (fun w' hq => pv_move rfl) ?_)
      (refine aw_take_on 80 rfl rfl rfl rfl (by kernel_rfl) (by kernel_rfl) (by kernel_rfl) hNP hS rfl (fun w' hq => pv_not rfl) ?_)
      (refine aw_take 81 rfl (by kernel_rfl) (by kernel_rfl) (by kernel_rfl) hNP hS rfl (fun w' hq => pv_pick_t rfl rfl rfl) ?_)
      (refine aw_take 82 rfl (by kernel_rfl) (by kernel_rfl) (by kernel_rfl) hNP hS rfl (fun w' hq => pv_assign rfl) ?_)
      refine aw_done (by kernel_rfl) ?_
      replace hw := hS; clear hS hNP
      repeat' (first | (refine is_cw ?_; first | (refine cw_ret ?_)) | (refine is_qw ?_; first | (with_reducible refine qw_then ?_)))
      exact qw_ret1 rfl rfl ⟨rfl, (hE.mono hw).b⟩
end Go.Proofs.YtecfajnmekpeoaaDoor
