/-
  DiskFirm: its row and its card: whatever the input: true; the input reads as it did. Conditions: what the row prints (the table of functions reads as the program's text lays it).
-/
import Derived.Test.YtncicecmhibpcaaDoorZG2
import Derived.Test.YtncicecmhibpcaaDoorTie
import Derived.Test.YtncicecmhibpcaaDoorCards
import Derived.SevenTiedAt
namespace Go.Proofs.YtncicecmhibpcaaDoor
open Go.RowKit Go.PlainAid

section
variable {w : World} {N B : Nat} {d d' : Dsk} {n t b : ByteArray} {k q : Int}
theorem create_is (h : DkW w N B d) (hn : n.size ≤ 9223372036854775807) (hr : createD d n = (k, d')) : Calls Tryd.prog 35 #[.pointer (some ⟨N, 0, none⟩), .string n] w fun e w' => e = .returned (.int .i64 k) ∧ DkW w' N B d' ∧ Gw N B w w' := by
  have := create_c h hn; rw [hr] at this; exact this
theorem append_is (h : DkW w N B d) (hn : n.size ≤ 9223372036854775807) (hr : appendD d n b = (k, d')) : Calls Tryd.prog 34 #[.pointer (some ⟨N, 0, none⟩), .string n, .string b] w fun e w' => e = .returned (.int .i64 k) ∧ DkW w' N B d' ∧ Gw N B w w' := by
  have := append_c (b := b) h hn; rw [hr] at this; exact this
theorem sync_is (h : DkW w N B d) (hn : n.size ≤ 9223372036854775807) (hr : syncD d n = (k, d')) : Calls Tryd.prog 36 #[.pointer (some ⟨N, 0, none⟩), .string n] w fun e w' => e = .returned (.int .i64 k) ∧ DkW w' N B d' ∧ Gw N B w w' := by
  have := sync_c h hn; rw [hr] at this; exact this
theorem trim_is (h : DkW w N B d) (hn : n.size ≤ 9223372036854775807) (hr : trimD d n q = (k, d')) : Calls Tryd.prog 37 #[.pointer (some ⟨N, 0, none⟩), .string n, .int .i64 q] w fun e w' => e = .returned (.int .i64 k) ∧ DkW w' N B d' ∧ Gw N B w w' := by
  have := dtrim_c h hn q; rw [hr] at this; exact this
theorem rename_is (h : DkW w N B d) (hn : n.size ≤ 9223372036854775807) (ht : t.size ≤ 9223372036854775807) (hr : renameD d n t = (k, d')) : Calls Tryd.prog 38 #[.pointer (some ⟨N, 0, none⟩), .string n, .string t] w fun e w' => e = .returned (.int .i64 k) ∧ DkW w' N B d' ∧ Gw N B w w' := by
  have := rename_c h hn ht; rw [hr] at this; exact this
theorem cut_is (h : DkW w N B d) (hm : q ≤ 9223372036854775807) (hr : cutD d q = (k, d')) : Calls Tryd.prog 29 #[.pointer (some ⟨N, 0, none⟩), .int .i64 q] w fun e w' => e = .returned (.int .i64 k) ∧ DkW w' N B d' ∧ Gw N B w w' := by
  have := cut_c h hm; rw [hr] at this; exact this
theorem crash_is {keep : List Int} {kn kc : Nat} {ka : Option Addr} (h : DkW w N B d) (hkl : keep.length = kn) (HK : SlR encI 1 w ka kc keep) (hka : ∀ x, ka = some x → x.block ≠ B) (hr : crashD d keep = d') : Calls Tryd.prog 17 #[.pointer (some ⟨N, 0, none⟩), .slice ka kn kc] w fun e w' => e = .returned (.int .i64 0) ∧ DkW w' N B d' ∧ Gw N B w w' := by
  have := crash_c h hkl HK hka; rw [hr] at this; exact this
theorem one_is {p r : ByteArray} {c : Bool} (h : DkW w N B d) (hr : decide (d.fs = [⟨n, p, r⟩]) = c) : Calls Tryd.prog 41 #[.pointer (some ⟨N, 0, none⟩), .string n, .string p, .string r] w fun e w' => e = .returned (.bool c) ∧ Below w.heap.size w w' := by
  have := one_c h n p r; rw [hr] at this; exact this
theorem up_is {c : Bool} (h : DkW w N B d) (hr : (!d.dark) = c) : Calls Tryd.prog 30 #[.pointer (some ⟨N, 0, none⟩)] w fun e w' => e = .returned (.bool c) ∧ Below w.heap.size w w' := by
  have := up_c h; rw [hr] at this; exact this
theorem read_is {s : ByteArray} (h : DkW w N B d) (hn : n.size ≤ 9223372036854775807) (hr : readD d n = (s, k)) : Calls Tryd.prog 20 #[.pointer (some ⟨N, 0, none⟩), .string n] w fun e w' => e = .returned (.tuple #[.string s, .int .i64 k]) ∧ Below w.heap.size w w' := by
  have := read_c h hn; rw [hr] at this; exact this
end
section
variable {k nb : Nat} {P : Program} {n : Nat} {l : Fr} {w : World} {Q : Exit → Act → World → Prop} {ops : Array Oper} {os : List Oper} {d : Nat} {ty : TypeId} {pos : String} {af : Array Edge} {S T : TypeId}
theorem lw_bsN (E : ElemT P S T k nb) {m : Nat} {ps : List (Nat × Operand)} {vs cs : List Value} (hd : Nat.blt d n = true) (hps : ps.map (·.1) = List.range m) (hvs : evs l (ps.map (·.2)) = some vs) (hp : 0 < m) (hs : m * k ≤ 16777216) (hcs : (vs.flatMap fun v => v.cells.toList) = cs) (h1 : ∀ v ∈ vs, v.cells.size = k)
    (h : ∀ N w', w.heap.size ≤ N → PT w' N T cs → Below w.heap.size w w' → LW P n ops Q os ((d, .slice (some ⟨N, 0, none⟩) m m) :: l) w') :
    LW P n ops Q (⟨some d, .buildSlice S m ps.toArray, ty, pos, af, none⟩ :: os) l w :=
  lw_bs E hd hps hvs hp hs hcs h1 fun w' hp hb _ => h _ w' (Nat.le_refl _) hp hb
end
def sa : ByteArray := ⟨#[97]⟩
def sb : ByteArray := ⟨#[98]⟩
def sx : ByteArray := ⟨#[120]⟩
def syz : ByteArray := ⟨#[121, 122]⟩
def s17 : ByteArray := ⟨#[49, 50, 51, 52, 53, 54, 55]⟩
def sab : ByteArray := ⟨#[97, 47, 98]⟩
def dA0 : Dsk := ⟨[], 9, -1, false⟩
def dA1 : Dsk := ⟨[⟨sa, emptyB, emptyB⟩], 9, -1, false⟩
def dA2 : Dsk := ⟨[⟨sa, emptyB, sx⟩], 9, -1, false⟩
def dA3 : Dsk := ⟨[⟨sa, sx, emptyB⟩], 9, -1, false⟩
def dA4 : Dsk := ⟨[⟨sa, sx, syz⟩], 9, -1, false⟩
def dA5 : Dsk := ⟨[⟨sa, sx, syz⟩, ⟨sb, emptyB, emptyB⟩], 9, -1, false⟩
def dA6 : Dsk := ⟨[⟨sb, sx, syz⟩], 9, -1, false⟩
def dA7 : Dsk := ⟨[⟨sb, emptyB, emptyB⟩], 9, -1, false⟩
def dC1 : Dsk := ⟨[], 9, 1, false⟩
def dC2 : Dsk := ⟨[⟨sa, emptyB, emptyB⟩], 9, 0, false⟩
def dC3 : Dsk := ⟨[⟨sa, emptyB, sx⟩], 9, 0, true⟩
def dC4 : Dsk := ⟨[⟨sa, sx, emptyB⟩], 9, -1, false⟩
theorem rA1 : createD dA0 sa = (0, dA1) := by decide +kernel
theorem rA2 : appendD dA1 sa sx = (0, dA2) := by decide +kernel
theorem rA3 : syncD dA2 sa = (0, dA3) := by decide +kernel
theorem rA4 : appendD dA3 sa syz = (0, dA4) := by decide +kernel
theorem rA44 : appendD dA4 sa s17 = (44, dA4) := by decide +kernel
theorem rA5 : createD dA4 sb = (0, dA5) := by decide +kernel
theorem rA6 : renameD dA5 sa sb = (0, dA6) := by decide +kernel
theorem rA7 : trimD dA6 sb 0 = (0, dA7) := by decide +kernel
theorem rA8 : createD dA7 sab = (4, dA7) := by decide +kernel
theorem rC1 : cutD dA0 1 = (0, dC1) := by decide +kernel
theorem rC2 : createD dC1 sa = (0, dC2) := by decide +kernel
theorem rC3 : appendD dC2 sa sx = (45, dC3) := by decide +kernel
theorem rC4 : crashD dC3 [1] = dC4 := by decide +kernel
theorem rCr : readD dC3 sa = (emptyB, 45) := by decide +kernel
def wantsL : List ByteArray := [⟨#[120]⟩, ⟨#[120, 121]⟩, ⟨#[120, 121, 122]⟩, ⟨#[120]⟩]
theorem rW0 : ∀ k : Fin 4, (crashD dA4 [((k.val : Nat) : Int)]).fs = [⟨sa, wantsL.getD k.val emptyB, emptyB⟩] := by decide +kernel
theorem rW {k : Nat} (h : k < 4) {s : ByteArray} (hs : wantsL[k]? = some s) : decide ((crashD dA4 [(k : Int)]).fs = [⟨sa, s, emptyB⟩]) = true := by
  have := rW0 ⟨k, h⟩
  dsimp only at this
  rw [this, List.getD_eq_getElem?_getD, hs]
  simp
theorem elemXn : ElemT Tryd.prog 23 3 1 8 := elem_of Tryd.underlying23 (by kernel_rfl) (by omega)
set_option maxRecDepth 20000 in
set_option maxHeartbeats 1000000 in
theorem awake_c (w : World) : Calls Tryd.prog 11 #[] w fun e w' => e = .returned (.bool true) ∧ Below w.heap.size w w' := by
  have hw := Below.refl w.heap.size w
  refine fn_enter 129 Tryd.func11 rfl rfl rfl ?_
  repeat' (first | (refine lw_pure rfl (pv_assign rfl) ?_) | (refine is_cw ?_; first | (refine cw_seq ?_) | (refine cw_region ?_)) | (refine is_qw ?_; first | (with_reducible refine qw_then ?_)) | (refine lw_nil ?_))
  refine lw_call (f := 12) (by kernel_rfl) rfl rfl (small_c (cap := 9) (by omega) (by omega) _) ?_; rintro e w1 ⟨⟨N, B, rfl, hN, hB, hD0⟩, hb⟩; refine ⟨_, rfl, ?_⟩
  replace hN := Nat.le_trans hw.size hN
  replace hB := Nat.le_trans hw.size hB
  replace hw := grow_trans hw hb
  clear hb
  have hD : DkW w1 N B dA0 := hD0
  clear hD0
  repeat' (first | (refine lw_pure rfl (pv_move rfl) ?_) | (refine lw_pure rfl (pv_assign rfl) ?_) | (refine is_cw ?_; first | (refine cw_seq ?_) | (refine cw_region ?_)) | (refine is_qw ?_; first | (with_reducible refine qw_then ?_)) | (refine lw_nil ?_) | (refine is_guarded ?_; first | (refine lw_on rfl rfl rfl ?_)) | ((refine is_bin ?_; first | (refine lw_pure rfl (pv_pnil tpD rfl rfl) ?_))))
  refine lw_call (f := 35) (by kernel_rfl) rfl rfl (create_is (n := sa) hD (by decide) rA1) ?_; clear hD; rintro e w1 ⟨rfl, hD, hG⟩; refine ⟨_, rfl, ?_⟩; replace hw := hG.below hw hN hB; clear hG
  repeat' (first | (refine lw_pure rfl (pv_move rfl) ?_) | (refine is_guarded ?_; first | (refine lw_on rfl rfl rfl ?_)) | ((refine is_bin ?_; first | (refine lw_pure rfl (pv_neq rfl rfl) ?_))) | (refine lw_pure rfl (pv_pick_f rfl rfl rfl) ?_))
  refine lw_call (f := 34) (by kernel_rfl) rfl rfl (append_is (n := sa) (b := sx) hD (by decide) rA2) ?_; clear hD; rintro e w1 ⟨rfl, hD, hG⟩; refine ⟨_, rfl, ?_⟩; replace hw := hG.below hw hN hB; clear hG
  repeat' (first | (refine lw_pure rfl (pv_move rfl) ?_) | (refine is_guarded ?_; first | (refine lw_on rfl rfl rfl ?_)) | ((refine is_bin ?_; first | (refine lw_pure rfl (pv_neq rfl rfl) ?_))) | (refine lw_pure rfl (pv_pick_f rfl rfl rfl) ?_))
  refine lw_call (f := 36) (by kernel_rfl) rfl rfl (sync_is (n := sa) hD (by decide) rA3) ?_; clear hD; rintro e w1 ⟨rfl, hD, hG⟩; refine ⟨_, rfl, ?_⟩; replace hw := hG.below hw hN hB; clear hG
  repeat' (first | (refine lw_pure rfl (pv_move rfl) ?_) | (refine is_guarded ?_; first | (refine lw_on rfl rfl rfl ?_)) | ((refine is_bin ?_; first | (refine lw_pure rfl (pv_neq rfl rfl) ?_))) | (refine lw_pure rfl (pv_pick_f rfl rfl rfl) ?_))
  refine lw_call (f := 34) (by kernel_rfl) rfl rfl (append_is (n := sa) (b := syz) hD (by decide) rA4) ?_; clear hD; rintro e w1 ⟨rfl, hD, hG⟩; refine ⟨_, rfl, ?_⟩; replace hw := hG.below hw hN hB; clear hG
  repeat' (first | (refine lw_pure rfl (pv_move rfl) ?_) | (refine is_guarded ?_; first | (refine lw_on rfl rfl rfl ?_)) | ((refine is_bin ?_; first | (refine lw_pure rfl (pv_neq rfl rfl) ?_))) | (refine lw_pure rfl (pv_pick_f rfl rfl rfl) ?_))
  refine lw_call (f := 34) (by kernel_rfl) rfl rfl (append_is (n := sa) (b := s17) hD (by decide) rA44) ?_; clear hD; rintro e w1 ⟨rfl, hD, hG⟩; refine ⟨_, rfl, ?_⟩; replace hw := hG.below hw hN hB; clear hG
  repeat' (first | (refine lw_pure rfl (pv_move rfl) ?_) | (refine is_guarded ?_; first | (refine lw_on rfl rfl rfl ?_)) | ((refine is_bin ?_; first | (refine lw_pure rfl (pv_neq rfl rfl) ?_))) | (refine lw_pure rfl (pv_pick_f rfl rfl rfl) ?_))
  refine lw_call (f := 41) (by kernel_rfl) rfl rfl (one_is (n := sa) (p := sx) (r := syz) (c := true) hD (by decide +kernel)) ?_; rintro e w1 ⟨rfl, hb⟩; refine ⟨_, rfl, ?_⟩; replace hD := hD.mono hb; replace hw := grow_trans hw hb; clear hb
  repeat' (first | (refine is_cw ?_; first | (refine cw_seq ?_) | (refine cw_region ?_) | (refine cw_false rfl rfl ?_) | (refine cw_skip ?_)) | (refine is_qw ?_; first | (with_reducible refine qw_then ?_)) | (refine lw_nil ?_) | (refine is_guarded ?_; first | (refine lw_on rfl rfl rfl ?_)) | ((refine is_un ?_; first | (refine lw_pure rfl (pv_not rfl) ?_))) | (refine lw_pure rfl (pv_pick_f rfl rfl rfl) ?_))
  refine lw_bsN (vs := [.string ⟨#[120]⟩, .string ⟨#[120, 121]⟩, .string ⟨#[120, 121, 122]⟩, .string ⟨#[120]⟩]) (cs := wantsL.flatMap encT) elemXs rfl rfl rfl (by omega) (by omega) rfl (by intro v hv; simp at hv; rcases hv with rfl | rfl | rfl | rfl <;> rfl) ?_; intro N3 w3 hN3 HB hb
  have hl4 : wantsL.length = 4 := rfl
  have HW : SlR encT 1 w3 (some ⟨N3, 0, none⟩) 4 wantsL := HB.slR (xs := wantsL) encT_len rfl (by omega)
  replace hD := hD.mono hb
  replace hw := grow_trans hw hb
  clear hb
  repeat' (first | (refine lw_pure rfl (pv_move rfl) ?_) | (refine is_cw ?_; first | (refine cw_block ?_)) | (refine is_qw ?_; first | (with_reducible refine qw_then ?_)) | (refine lw_nil ?_) | ((refine is_bi ?_; first | (refine lw_pure rfl (pv_lenl (tS rfl) rfl) ?_))))
  refine cw_loop (σ := Nat) (fun k => [(1, .pointer (some ⟨N, 0, none⟩)), (41, .slice (some ⟨N3, 0, none⟩) 4 4), (42, .int .i64 4), (43, .int .i64 (k : Nat))]) (fun k wr => k ≤ 4 ∧ Below w.heap.size w wr ∧ DkW wr N B dA4 ∧ SlR encT 1 wr (some ⟨N3, 0, none⟩) 4 wantsL) (fun k => 4 - k) 0 (by repeat' (first | exact trivial | refine ⟨rfl, ?_⟩)) ⟨Nat.zero_le _, hw, hD, HW⟩ ?_
  clear hw hD HW HB
  rintro k wr ⟨hk, hw, hD, HW⟩
  by_cases hlt : k < 4
  · have hxk : wantsL[k]? = some wantsL[k] := List.getElem?_eq_getElem (by rw [hl4]; exact hlt)
    generalize wantsL[k] = s at hxk
    have hw0 := hw
    have hDl := hD.lt
    clear hw
    have hw := Below.refl wr.heap.size wr
    repeat' (first | (refine lw_pure rfl (pv_move rfl) ?_) | (refine lw_pure rfl (pv_assign rfl) ?_) | (refine is_cw ?_; first | (refine cw_seq ?_) | (refine cw_region ?_) | (refine cw_true rfl (by first | assumption | exact decide_eq_true (by omega) | exact dec_notT (by omega)) ?_) | (refine cw_skip ?_) | (refine cw_block ?_)) | (refine is_qw ?_; first | (with_reducible refine qw_then ?_)) | (refine lw_nil ?_) | ((refine is_bin ?_; first | (refine lw_pure rfl (pv_lss rfl rfl) ?_))) | ((refine is_load ?_; first | (refine lw_pure rfl (pv_load (t1 rfl) rfl (by first | exact SlR.ld (HW.mono hw) hxk rfl | exact SlR.ld1 (HW.mono hw) hxk rfl)) ?_))) | ((refine is_ia ?_; first | (refine lw_pure rfl (pv_ian (tS rfl) rfl rfl (by omega)) ?_))))
    refine lw_call (f := 28) (by kernel_rfl) rfl rfl (copy_c (hD.mono hw)) ?_; rintro e w4 ⟨⟨N4, B4, rfl, hN4, hB4, hD4⟩, hb⟩; refine ⟨_, rfl, ?_⟩
    replace hN4 := Nat.le_trans hw.size hN4
    replace hB4 := Nat.le_trans hw.size hB4
    replace hw := grow_trans hw hb
    clear hb
    repeat' (first | (refine lw_pure rfl (pv_move rfl) ?_) | (refine lw_pure rfl (pv_assign rfl) ?_) | (refine is_cw ?_; first | (refine cw_seq ?_) | (refine cw_region ?_)) | (refine is_qw ?_; first | (with_reducible refine qw_then ?_)) | (refine lw_nil ?_))
    refine lw_bsN (vs := [.int .i64 (k : Nat)]) (cs := [.int .i64 (k : Nat)]) elemXn rfl rfl rfl (by omega) (by omega) rfl (by intro v hv; simp at hv; subst hv; rfl) ?_; intro N5 w5 hN5 H5 hb
    have HK : SlR encI 1 w5 (some ⟨N5, 0, none⟩) 1 [((k : Nat) : Int)] := H5.slR (xs := [((k : Nat) : Int)]) encI_len rfl (by omega)
    have hl2 := hD4.lt
    replace hD4 := hD4.mono hb
    replace hw := grow_trans hw hb
    clear hb
    refine lw_call (f := 17) (by kernel_rfl) rfl rfl (crash_c hD4 (keep := [((k : Nat) : Int)]) rfl HK (fun x hx => by injection hx with hx; subst hx; show N5 ≠ B4; omega)) ?_; clear hD4; rintro e w6 ⟨rfl, hD4, hG⟩; refine ⟨_, rfl, ?_⟩
    have hD6 := (hD.mono hw).gw hG ⟨by omega, by omega⟩ ⟨by omega, by omega⟩
    have HW6 := (HW.mono hw).gw hG (fun x hx => by injection hx with hx; subst hx; have := (HW.ofSome _ rfl (by omega)).2.1; exact ⟨by show N3 ≠ N4; dsimp only at this; omega, by show N3 ≠ B4; dsimp only at this; omega⟩)
    replace hw := hG.below hw hN4 hB4
    clear hG
    repeat' (first | (refine lw_pure rfl (pv_move rfl) ?_) | (refine is_guarded ?_; first | (refine lw_on rfl rfl rfl ?_)) | ((refine is_bin ?_; first | (refine lw_pure rfl (pv_neq rfl rfl) ?_))))
    refine lw_call (f := 41) (by kernel_rfl) rfl rfl (one_is (n := sa) (p := s) (r := emptyB) (c := true) hD4 (rW hlt hxk)) ?_; rintro e w7 ⟨rfl, hb⟩; refine ⟨_, rfl, ?_⟩
    replace hw := grow_trans hw hb
    repeat' (first | (refine lw_pure rfl (pv_move rfl) ?_) | (refine is_cw ?_; first | (refine cw_region ?_) | (refine cw_false rfl rfl ?_) | (refine cw_skip ?_)) | (refine is_qw ?_; first | (with_reducible refine qw_then ?_) | (with_reducible refine qw_in ?_)) | (refine lw_nil ?_) | (refine is_guarded ?_; first | (refine lw_on rfl rfl rfl ?_)) | ((refine is_bin ?_; first | (refine lw_pure rfl (pv_inc rfl rfl (by omega)) ?_))) | ((refine is_un ?_; first | (refine lw_pure rfl (pv_not rfl) ?_))) | (refine lw_pure rfl (pv_pick_f rfl rfl rfl) ?_))
    exact qw_round (k + 1) (by repeat' (first | exact trivial | refine ⟨rfl, ?_⟩)) ⟨by omega, grow_trans hw0 hw, hD6.mono hb, HW6.mono hb⟩ (by omega)
  · have hk4 : k = 4 := by omega
    subst hk4
    clear HW hlt hk
    repeat' (first | (refine is_cw ?_; first | (refine cw_seq ?_) | (refine cw_region ?_) | (refine cw_false rfl rfl ?_) | (refine cw_exit ?_)) | (refine is_qw ?_; first | (with_reducible refine qw_then ?_) | (with_reducible refine qw_in_hit ?_) | (with_reducible refine qw_then_exit ?_)) | (refine lw_nil ?_) | ((refine is_bin ?_; first | (refine lw_pure rfl (pv_lss rfl rfl) ?_))))
    have hDk := hD
    clear hD
    refine lw_call (f := 12) (by kernel_rfl) rfl rfl (small_c (cap := 9) (by omega) (by omega) _) ?_; rintro e w5 ⟨⟨N5, B5, rfl, hN5, hB5, hD0⟩, hb⟩; refine ⟨_, rfl, ?_⟩
    have hDl := hDk.lt
    replace hDk := (hDk.mono hb)
    have hc1 : N ≠ N5 ∧ N ≠ B5 := ⟨by omega, by omega⟩
    have hc2 : B ≠ N5 ∧ B ≠ B5 := ⟨by omega, by omega⟩
    replace hN5 := Nat.le_trans hw.size hN5
    replace hB5 := Nat.le_trans hw.size hB5
    replace hw := grow_trans hw hb
    clear hb
    have hD : DkW w5 N5 B5 dA0 := hD0
    clear hD0
    repeat' (first | (refine lw_pure rfl (pv_move rfl) ?_) | (refine lw_pure rfl (pv_assign rfl) ?_) | (refine is_cw ?_; first | (refine cw_seq ?_) | (refine cw_region ?_)) | (refine is_qw ?_; first | (with_reducible refine qw_then ?_)) | (refine lw_nil ?_))
    refine lw_call (f := 29) (by kernel_rfl) rfl rfl (cut_is hD (by omega) rC1) ?_; clear hD; rintro e w1 ⟨rfl, hD, hG⟩; refine ⟨_, rfl, ?_⟩; replace hDk := hDk.gw hG hc1 hc2; replace hw := hG.below hw hN5 hB5; clear hG
    repeat' (first | (refine lw_pure rfl (pv_move rfl) ?_) | (refine is_guarded ?_; first | (refine lw_on rfl rfl rfl ?_)) | ((refine is_bin ?_; first | (refine lw_pure rfl (pv_neq rfl rfl) ?_))))
    refine lw_call (f := 35) (by kernel_rfl) rfl rfl (create_is (n := sa) hD (by decide) rC2) ?_; clear hD; rintro e w1 ⟨rfl, hD, hG⟩; refine ⟨_, rfl, ?_⟩; replace hDk := hDk.gw hG hc1 hc2; replace hw := hG.below hw hN5 hB5; clear hG
    repeat' (first | (refine lw_pure rfl (pv_move rfl) ?_) | (refine is_guarded ?_; first | (refine lw_on rfl rfl rfl ?_)) | ((refine is_bin ?_; first | (refine lw_pure rfl (pv_neq rfl rfl) ?_))) | (refine lw_pure rfl (pv_pick_f rfl rfl rfl) ?_))
    refine lw_call (f := 34) (by kernel_rfl) rfl rfl (append_is (n := sa) (b := sx) hD (by decide) rC3) ?_; clear hD; rintro e w1 ⟨rfl, hD, hG⟩; refine ⟨_, rfl, ?_⟩; replace hDk := hDk.gw hG hc1 hc2; replace hw := hG.below hw hN5 hB5; clear hG
    repeat' (first | (refine lw_pure rfl (pv_move rfl) ?_) | (refine is_guarded ?_; first | (refine lw_on rfl rfl rfl ?_)) | ((refine is_bin ?_; first | (refine lw_pure rfl (pv_neq rfl rfl) ?_))) | (refine lw_pure rfl (pv_pick_f rfl rfl rfl) ?_))
    refine lw_call (f := 30) (by kernel_rfl) rfl rfl (up_is (c := false) hD rfl) ?_; rintro e w1 ⟨rfl, hb⟩; refine ⟨_, rfl, ?_⟩; replace hD := hD.mono hb; replace hDk := hDk.mono hb; replace hw := grow_trans hw hb; clear hb
    repeat' (first | (refine lw_pure rfl (pv_move rfl) ?_) | (refine is_cw ?_; first | (refine cw_seq ?_) | (refine cw_region ?_) | (refine cw_false rfl rfl ?_) | (refine cw_skip ?_)) | (refine is_qw ?_; first | (with_reducible refine qw_then ?_)) | (refine lw_nil ?_) | (refine lw_pure rfl (pv_pick_f rfl rfl rfl) ?_))
    refine lw_call (f := 20) (by kernel_rfl) rfl rfl (read_is (n := sa) hD (by decide) rCr) ?_; rintro e w1 ⟨rfl, hb⟩; refine ⟨_, rfl, ?_⟩; replace hD := hD.mono hb; replace hDk := hDk.mono hb; replace hw := grow_trans hw hb; clear hb
    repeat' (first | (refine lw_pure rfl (pv_move rfl) ?_) | (refine lw_pure rfl (pv_assign rfl) ?_) | (refine is_cw ?_; first | (refine cw_seq ?_) | (refine cw_region ?_)) | (refine is_qw ?_; first | (with_reducible refine qw_then ?_)) | (refine lw_nil ?_) | (refine is_guarded ?_; first | (refine lw_on rfl rfl rfl ?_)) | ((refine is_bin ?_; first | (refine lw_pure rfl (pv_neq rfl rfl) ?_))) | (refine lw_pure rfl (pv_extract rfl rfl) ?_))
    refine lw_bsN (vs := [.int .i64 1]) (cs := [.int .i64 1]) elemXn rfl rfl rfl (by omega) (by omega) rfl (by intro v hv; simp at hv; subst hv; rfl) ?_; intro N6 w6 hN6 H6 hb
    have HK : SlR encI 1 w6 (some ⟨N6, 0, none⟩) 1 [(1 : Int)] := H6.slR (xs := [(1 : Int)]) encI_len rfl (by omega)
    have hl2 := hD.lt
    replace hD := hD.mono hb
    replace hDk := hDk.mono hb
    replace hw := grow_trans hw hb
    clear hb
    repeat' (first | (refine is_guarded ?_; first | (refine lw_on rfl rfl rfl ?_)))
    refine lw_call (f := 17) (by kernel_rfl) rfl rfl (crash_is hD (keep := [(1 : Int)]) rfl HK (fun x hx => by injection hx with hx; subst hx; show N6 ≠ B5; omega) rC4) ?_; clear hD; rintro e w1 ⟨rfl, hD, hG⟩; refine ⟨_, rfl, ?_⟩; replace hDk := hDk.gw hG hc1 hc2; replace hw := hG.below hw hN5 hB5; clear hG
    repeat' (first | (refine lw_pure rfl (pv_move rfl) ?_) | (refine is_guarded ?_; first | (refine lw_on rfl rfl rfl ?_)) | ((refine is_bin ?_; first | (refine lw_pure rfl (pv_neq rfl rfl) ?_))) | (refine lw_pure rfl (pv_pick_f rfl rfl rfl) ?_))
    refine lw_call (f := 41) (by kernel_rfl) rfl rfl (one_is (n := sa) (p := sx) (r := emptyB) (c := true) hD (by decide +kernel)) ?_; rintro e w1 ⟨rfl, hb⟩; refine ⟨_, rfl, ?_⟩; replace hD := hD.mono hb; replace hDk := hDk.mono hb; replace hw := grow_trans hw hb; clear hb
    repeat' (first | (refine lw_pure rfl (pv_move rfl) ?_) | (refine is_guarded ?_; first | (refine lw_on rfl rfl rfl ?_)) | ((refine is_un ?_; first | (refine lw_pure rfl (pv_not rfl) ?_))) | (refine lw_pure rfl (pv_pick_f rfl rfl rfl) ?_))
    refine lw_call (f := 30) (by kernel_rfl) rfl rfl (up_is (c := true) hD rfl) ?_; rintro e w1 ⟨rfl, hb⟩; refine ⟨_, rfl, ?_⟩; replace hD := hD.mono hb; replace hDk := hDk.mono hb; replace hw := grow_trans hw hb; clear hb
    repeat' (first | (refine lw_pure rfl (pv_move rfl) ?_) | (refine is_cw ?_; first | (refine cw_seq ?_) | (refine cw_region ?_) | (refine cw_false rfl rfl ?_) | (refine cw_skip ?_)) | (refine is_qw ?_; first | (with_reducible refine qw_then ?_)) | (refine lw_nil ?_) | (refine is_guarded ?_; first | (refine lw_on rfl rfl rfl ?_)) | ((refine is_un ?_; first | (refine lw_pure rfl (pv_not rfl) ?_))) | (refine lw_pure rfl (pv_pick_f rfl rfl rfl) ?_))
    clear hD
    have hD := hDk
    clear hDk
    refine lw_call (f := 35) (by kernel_rfl) rfl rfl (create_is (n := sb) hD (by decide) rA5) ?_; clear hD; rintro e w1 ⟨rfl, hD, hG⟩; refine ⟨_, rfl, ?_⟩; replace hw := hG.below hw hN hB; clear hG
    repeat' (first | (refine lw_pure rfl (pv_move rfl) ?_) | (refine is_guarded ?_; first | (refine lw_on rfl rfl rfl ?_)) | ((refine is_bin ?_; first | (refine lw_pure rfl (pv_eql rfl rfl) ?_))))
    refine lw_call (f := 38) (by kernel_rfl) rfl rfl (rename_is (n := sa) (t := sb) hD (by decide) (by decide) rA6) ?_; clear hD; rintro e w1 ⟨rfl, hD, hG⟩; refine ⟨_, rfl, ?_⟩; replace hw := hG.below hw hN hB; clear hG
    repeat' (first | (refine lw_pure rfl (pv_move rfl) ?_) | (refine is_guarded ?_; first | (refine lw_on rfl rfl rfl ?_)) | ((refine is_bin ?_; first | (refine lw_pure rfl (pv_eql rfl rfl) ?_))) | (refine lw_pure rfl (pv_pick_t rfl rfl rfl) ?_))
    refine lw_call (f := 41) (by kernel_rfl) rfl rfl (one_is (n := sb) (p := sx) (r := syz) (c := true) hD (by decide +kernel)) ?_; rintro e w1 ⟨rfl, hb⟩; refine ⟨_, rfl, ?_⟩; replace hD := hD.mono hb; replace hw := grow_trans hw hb; clear hb
    repeat' (first | (refine lw_pure rfl (pv_move rfl) ?_) | (refine is_guarded ?_; first | (refine lw_on rfl rfl rfl ?_)) | (refine lw_pure rfl (pv_pick_t rfl rfl rfl) ?_))
    refine lw_call (f := 37) (by kernel_rfl) rfl rfl (trim_is (n := sb) hD (by decide) rA7) ?_; clear hD; rintro e w1 ⟨rfl, hD, hG⟩; refine ⟨_, rfl, ?_⟩; replace hw := hG.below hw hN hB; clear hG
    repeat' (first | (refine lw_pure rfl (pv_move rfl) ?_) | (refine is_guarded ?_; first | (refine lw_on rfl rfl rfl ?_)) | ((refine is_bin ?_; first | (refine lw_pure rfl (pv_eql rfl rfl) ?_))) | (refine lw_pure rfl (pv_pick_t rfl rfl rfl) ?_))
    refine lw_call (f := 41) (by kernel_rfl) rfl rfl (one_is (n := sb) (p := emptyB) (r := emptyB) (c := true) hD (by decide +kernel)) ?_; rintro e w1 ⟨rfl, hb⟩; refine ⟨_, rfl, ?_⟩; replace hD := hD.mono hb; replace hw := grow_trans hw hb; clear hb
    repeat' (first | (refine lw_pure rfl (pv_move rfl) ?_) | (refine is_guarded ?_; first | (refine lw_on rfl rfl rfl ?_)) | (refine lw_pure rfl (pv_pick_t rfl rfl rfl) ?_))
    refine lw_call (f := 35) (by kernel_rfl) rfl rfl (create_is (n := sab) hD (by decide) rA8) ?_; clear hD; rintro e w1 ⟨rfl, hD, hG⟩; refine ⟨_, rfl, ?_⟩; replace hw := hG.below hw hN hB; clear hG
    repeat' (first | (refine lw_pure rfl (pv_assign rfl) ?_) | (refine is_cw ?_; first | (refine cw_ret ?_)) | (refine is_qw ?_; first | (with_reducible refine qw_then ?_)) | (refine lw_nil ?_) | (refine is_guarded ?_; first | (refine lw_on rfl rfl rfl ?_)) | ((refine is_bin ?_; first | (refine lw_pure rfl (pv_eql rfl rfl) ?_))) | (refine lw_pure rfl (pv_pick_t rfl rfl rfl) ?_))
    exact qw_ret1 rfl rfl ⟨rfl, hw⟩

theorem is_seqr {P : Program} {n : Nat} {l : Fr} {w : World} {Q : Exit → Act → World → Prop} (i : Nat) {ops : Array Oper} {d : Bool} {y : Code} (h : CW P n (.seq (.region i ops d) y) Q l w) : CW P n (.seq (.region i ops d) y) Q l w := h
theorem free0 {cap : Int} (h : 0 ≤ cap) (h2 : cap ≤ 9223372036854775807) : Free ⟨[], cap, -1, false⟩ := ⟨⟨List.Pairwise.nil, fun f hf => (by cases hf), fun f hf => (by cases hf), (by simp), (by simpa [usedF] using h), h2, (by show (-1 : Int) ≤ -1; omega), (by show (-1 : Int) ≤ 9223372036854775807; omega)⟩, rfl, rfl⟩
theorem free_is {d : Dsk} (h : Free d) {c : Int} (hc : d.cap = c) : (⟨d.fs, c, -1, false⟩ : Dsk) = d := by
  rw [dsk_ext]; exact ⟨rfl, hc.symm, h.left.symm, h.up.symm⟩
theorem same_is {w : World} {N1 B1 N2 B2 : Nat} {a b : Dsk} {c : Bool} (h1 : DkW w N1 B1 a) (h2 : DkW w N2 B2 b) (hr : decide (a = b) = c) : Calls Tryd.prog 26 #[.pointer (some ⟨N1, 0, none⟩), .pointer (some ⟨N2, 0, none⟩)] w fun e w' => e = .returned (.bool c) ∧ Below w.heap.size w w' := by
  have := same_c h1 h2; rw [hr] at this; exact this
theorem load_is {w : World} {cap : Int} {l : List Fil} {n ca : Nat} {a : Option Addr} (hO : SlR encF 3 w a ca l) (hn : l.length = n) (hcap : cap ≤ 9223372036854775807) (hs : ∀ f ∈ l, nameF f.name = true ∧ szF f ≤ 1048576) (hr : loadD cap l = (0, ⟨l, cap, -1, false⟩)) : Calls Tryd.prog 21 #[.int .i64 cap, .slice a n ca] w fun e w' => (∃ N B, e = .returned (.tuple #[.pointer (some ⟨N, 0, none⟩), .int .i64 0]) ∧ w.heap.size ≤ N ∧ w.heap.size ≤ B ∧ DkW w' N B ⟨l, cap, -1, false⟩) ∧ Below w.heap.size w w' := by
  refine (load_c hn hcap (fun f hf => ?_) hO).mono ?_
  · obtain ⟨h1, h2⟩ := hs f hf
    unfold nameF at h1
    simp only [Bool.and_eq_true, decide_eq_true_eq] at h1
    unfold szF at h2
    omega
  · rintro e w' ⟨hL, hb⟩
    rcases hL with ⟨h1, _⟩ | ⟨_, h2⟩
    · rw [hr] at h1; exact absurd rfl h1
    · exact ⟨h2, hb⟩

theorem emp_of {a : ByteArray} (h : a.size = 0) : a = emptyB := by
  apply ByteArray.ext
  exact Array.eq_empty_of_size_eq_zero h
theorem ext00 (a b : ByteArray) : a ++ b.extract 0 0 = a := by
  have h : b.extract 0 0 = emptyB := by
    apply ByteArray.ext
    simp
    rfl
  rw [h]
  apply ByteArray.ext
  simp [emptyB]
theorem firm_facts {o : DOp} {d : Dsk} (h : Free d) (hk : 0 ≤ o.kind ∧ o.kind ≤ 5) {g : Fil} (hg : g ∈ d.fs) :
    (¬ ((actD o d).1 = 0 ∧ (2 ≤ o.kind ∧ o.name = g.name ∨ o.kind = 4 ∧ o.to = g.name)) → (getF (actD o d).2.fs g.name).isSome = true ∧ ((getF (actD o d).2.fs g.name).getD ⟨emptyB, emptyB, emptyB⟩).firm = g.firm ∧ (o.kind ≠ 1 → (getF (actD o d).2.fs g.name).getD ⟨emptyB, emptyB, emptyB⟩ = g)) ∧
    ((actD o d).1 = 0 → o.kind = 2 → o.name = g.name → ((getF (actD o d).2.fs g.name).getD ⟨emptyB, emptyB, emptyB⟩).firm = g.firm ++ g.pend ∧ ((getF (actD o d).2.fs g.name).getD ⟨emptyB, emptyB, emptyB⟩).pend = emptyB) := by
  refine ⟨fun hn => ?_, fun _ h2 hn => ?_⟩
  · obtain ⟨f, h1, h2, h3⟩ := firm_kept h hk hg hn
    rw [h1]
    exact ⟨rfl, h2, h3⟩
  · rw [firm_sync h h2 hg hn]
    exact ⟨rfl, rfl⟩
set_option maxRecDepth 20000 in
theorem keep_lt {W : World} {b0 : Nat} {v : Value} (hv : Value.okWide Tryd.prog W .any b0 23 v) {a : Option Addr} {n c : Nat} (e : v = .slice a n c) : ∀ x, a = some x → x.block < W.heap.size := by
  rcases okWide_slice_ok Tryd.underlying23 hv with rfl | ⟨ad, len, cap, rfl, -, -, -, hlt⟩
  · injection e with e1
    intro x hx
    rw [hx] at e1
    cases e1
  · injection e with e1
    intro x hx
    rw [hx] at e1
    injection e1 with e1
    rw [← e1]
    exact hlt
structure FirmC (g c : Fil) (n : Int) : Prop where
  lo : 0 ≤ n
  hi : n ≤ g.pend.size
  nm : c.name = g.name
  pd : c.pend = emptyB
  fm : c.firm = g.firm ++ g.pend.extract 0 n.toNat
set_option maxRecDepth 20000 in
set_option maxHeartbeats 8000000 in
theorem firmlaw_c {xs : List OpC} {ks : List Int} {m q : Nat} {a b : Option Addr} {ca cb : Nat} {w : World} (hm : xs.length = m) (hq : ks.length = q) (HX : SlR encQ 6 w a ca xs) (HK : SlR encI 1 w b cb ks) (hbl : ∀ x, b = some x → x.block < w.heap.size) (bX : ∀ x ∈ xs, OpB x) : Calls Tryd.prog 3 #[.slice a m ca, .slice b q cb] w fun e w' => e = .returned (.bool true) ∧ Below w.heap.size w w' := by
  subst hm hq
  have hle := HX.le
  have hmx := HX.max
  have hle2 := HK.le
  have hmx2 := HK.max
  have hw := Below.refl w.heap.size w
  refine fn_enter 247 Tryd.func3 rfl rfl rfl ?_
  repeat' (first | (refine lw_pure rfl (pv_move rfl) ?_) | (refine lw_pure rfl (pv_assign rfl) ?_) | (refine is_cw ?_; first | (refine cw_seq ?_) | (refine cw_region ?_)) | (refine is_qw ?_; first | (with_reducible refine qw_then ?_)) | (refine lw_nil ?_))
  refine lw_call (f := 10) (by kernel_rfl) rfl rfl (long_c rfl (HX.mono hw)) ?_; rintro e w1 ⟨⟨b1, rfl, hL1⟩, hb⟩; refine ⟨_, rfl, ?_⟩; replace hw := grow_trans hw hb; clear hb
  cases b1 with
  | true =>
    repeat' (first | (refine lw_pure rfl (pv_move rfl) ?_) | (refine lw_pure rfl (pv_assign rfl) ?_) | ((refine lw_call (f := 11) (by kernel_rfl) rfl rfl (awake_c _) ?_; rintro e1 wz ⟨rfl, hb⟩; refine ⟨_, rfl, ?_⟩; replace hw := grow_trans hw hb; clear hb)) | (refine is_cw ?_; first | (refine cw_seq ?_) | (refine cw_region ?_) | (refine cw_true rfl rfl ?_) | (refine cw_ret ?_)) | (refine is_qw ?_; first | (with_reducible refine qw_then ?_) | (with_reducible refine qw_then_ret ?_)) | (refine lw_nil ?_) | (refine is_guarded ?_; first | (refine lw_not rfl rfl rfl rfl ?_)) | (refine lw_pure rfl (pv_pick_t rfl rfl rfl) ?_))
    exact qw_ret1 rfl rfl ⟨rfl, hw⟩
  | false =>
    obtain ⟨hx60, hxs⟩ := hL1 rfl
    by_cases h100 : 100 < ks.length
    · repeat' (first | (refine lw_pure rfl (pv_move rfl) ?_) | (refine lw_pure rfl (pv_assign rfl) ?_) | ((refine lw_call (f := 11) (by kernel_rfl) rfl rfl (awake_c _) ?_; rintro e1 wz ⟨rfl, hb⟩; refine ⟨_, rfl, ?_⟩; replace hw := grow_trans hw hb; clear hb)) | (refine is_cw ?_; first | (refine cw_seq ?_) | (refine cw_region ?_) | (refine cw_true rfl rfl ?_) | (refine cw_ret ?_)) | (refine is_qw ?_; first | (with_reducible refine qw_then ?_) | (with_reducible refine qw_then_ret ?_)) | (refine lw_nil ?_) | (refine is_guarded ?_; first | (refine lw_on rfl rfl rfl ?_) | (refine lw_not rfl rfl rfl (by first | assumption | exact decide_eq_true (by omega) | exact decide_eq_false (by omega) | exact dec_notT (by omega) | exact dec_notF (by omega)) ?_)) | ((refine is_bin ?_; first | (refine lw_pure rfl (pv_gtr rfl rfl) ?_))) | ((refine is_bi ?_; first | (refine lw_pure rfl (pv_lenl (tS rfl) rfl) ?_))) | (refine lw_pure rfl (pv_pick_f rfl rfl rfl) ?_) | (refine lw_pure rfl (pv_pick_t rfl (by first | assumption | exact decide_eq_true (by omega) | exact dec_notT (by omega)) rfl) ?_))
      exact qw_ret1 rfl rfl ⟨rfl, hw⟩
    repeat' (first | (refine lw_pure rfl (pv_move rfl) ?_) | ((refine lw_call (f := 11) (by kernel_rfl) rfl rfl (awake_c _) ?_; rintro e1 wz ⟨rfl, hb⟩; refine ⟨_, rfl, ?_⟩; replace hw := grow_trans hw hb; clear hb)) | (refine is_cw ?_; first | (refine cw_seq ?_) | (refine cw_region ?_) | (refine cw_false rfl rfl ?_) | (refine cw_skip ?_)) | (refine is_qw ?_; first | (with_reducible refine qw_then ?_)) | (refine lw_nil ?_) | (refine is_guarded ?_; first | (refine lw_on rfl rfl rfl ?_) | (refine lw_on rfl rfl (by first | assumption | exact decide_eq_true (by omega) | exact decide_eq_false (by omega) | exact dec_notT (by omega) | exact dec_notF (by omega)) ?_)) | ((refine is_bin ?_; first | (refine lw_pure rfl (pv_gtr rfl rfl) ?_))) | ((refine is_un ?_; first | (refine lw_pure rfl (pv_not rfl) ?_))) | ((refine is_bi ?_; first | (refine lw_pure rfl (pv_lenl (tS rfl) rfl) ?_))) | (refine lw_pure rfl (pv_pick_f rfl rfl rfl) ?_) | (refine lw_pure rfl (pv_pick_f rfl (by first | assumption | exact decide_eq_false (by omega) | exact dec_notF (by omega)) rfl) ?_))
    refine lw_call (f := 12) (by kernel_rfl) rfl rfl (small_c (cap := 1048576) (by omega) (by omega) _) ?_; rintro e w1 ⟨⟨N, B, rfl, hN, hB, hD⟩, hb⟩; refine ⟨_, rfl, ?_⟩
    replace hN := Nat.le_trans hw.size hN
    replace hB := Nat.le_trans hw.size hB
    replace hw := grow_trans hw hb
    clear hb
    repeat' (first | (refine lw_pure rfl (pv_assign rfl) ?_) | (refine is_cw ?_; first | (refine cw_seq ?_) | (refine cw_region ?_) | (refine cw_block ?_)) | (refine is_qw ?_; first | (with_reducible refine qw_then ?_)) | (refine lw_nil ?_))
    refine cw_loop (σ := Nat × Dsk) (fun s => [(0, .slice a xs.length ca), (1, .slice b ks.length cb), (5, .pointer (some ⟨N, 0, none⟩)), (6, .int .i64 (s.1 : Nat))]) (fun s wr => s.1 ≤ xs.length ∧ Below w.heap.size w wr ∧ DkW wr N B s.2 ∧ Free s.2) (fun s => xs.length - s.1) (0, ⟨[], 1048576, -1, false⟩) (by repeat' (first | exact trivial | refine ⟨rfl, ?_⟩)) ⟨Nat.zero_le _, hw, hD, free0 (by omega) (by omega)⟩ ?_
    clear hw hD
    rintro ⟨k, d⟩ wr ⟨hk1, hw, hD, hF⟩
    replace hk1 : k ≤ xs.length := hk1
    replace hD : DkW wr N B d := hD
    replace hF : Free d := hF
    change CW Tryd.prog _ _ _ [(0, .slice a xs.length ca), (1, .slice b ks.length cb), (5, .pointer (some ⟨N, 0, none⟩)), (6, .int .i64 (k : Nat))] wr
    by_cases hlt : k < xs.length
    · have hxk : xs[k]? = some xs[k] := List.getElem?_eq_getElem hlt
      generalize xs[k] = x at hxk
      have hxm := List.mem_of_getElem? hxk
      have hkd := (bX x hxm).kind
      obtain ⟨ab, ao, rfl, -, -⟩ := HX.at (by intro h; rw [h] at hlt; simp at hlt)
      repeat' (first | (refine lw_pure rfl (pv_move rfl) ?_) | (refine is_cw ?_; first | (refine cw_seq ?_) | (refine cw_region ?_) | (refine cw_true rfl (by first | assumption | exact decide_eq_true (by omega) | exact dec_notT (by omega)) ?_) | (refine cw_skip ?_) | (refine cw_block ?_)) | (refine is_qw ?_; first | (with_reducible refine qw_then ?_)) | (refine lw_nil ?_) | ((refine is_bin ?_; first | (refine lw_pure rfl (pv_lss rfl rfl) ?_))) | ((refine is_load ?_; first | (refine lw_pure rfl (pv_loada (tA rfl) rfl (by first | exact SlR.lda (HX.mono hw) hxk) (by rfl)) ?_))) | ((refine is_ia ?_; first | (refine lw_pure rfl (pv_ian (tS rfl) rfl rfl (by omega)) ?_))) | ((refine is_bi ?_; first | (refine lw_pure rfl (pv_lenl (tS rfl) rfl) ?_))))
      refine lw_varN rfl (by first | exact tyv_28 | exact tyv_29 | exact tyv_34 | exact tyv_35 | exact tyv_43 | exact tyv_44 | exact tyv_77 | exact tyv_78 | exact tyv_80 | exact tyv_81 | exact tyv_86 | exact tyv_87 | exact tyv_126 | exact tyv_127) rfl (tZ rfl) (fun _ => rfl) rfl rfl ?_; intro N7 w7 hN7 H7 hb
      replace H7 : PT w7 N7 29 (encQ x) := H7
      have l1 := hD.lt
      have q3 : N7 ≠ N ∧ N7 ≠ B := ⟨by omega, by omega⟩
      replace hD := hD.mono hb
      replace hw := grow_trans hw hb
      clear l1 hb
      by_cases h5 : 5 < x.kind
      · repeat' (first | (refine lw_pure rfl (pv_move rfl) ?_) | (refine lw_pure rfl (pv_assign rfl) ?_) | (refine is_cw ?_; first | (refine cw_seq ?_) | (refine cw_region ?_) | (refine cw_true rfl (by first | assumption | exact decide_eq_true (by omega) | exact dec_notT (by omega)) ?_) | (refine cw_exit ?_)) | (refine is_qw ?_; first | (with_reducible refine qw_then ?_) | (with_reducible refine qw_in_hit ?_) | (with_reducible refine qw_then_exit ?_)) | (refine lw_nil ?_) | ((refine is_bin ?_; first | (refine lw_pure rfl (pv_gtr rfl rfl) ?_) | (refine lw_pure rfl (pv_inc rfl rfl (by omega)) ?_))) | ((refine is_load ?_; first | (refine lw_pure rfl (pv_load (t1 rfl) rfl (by first | exact PT.ld0 H7 rfl | exact PT.ld H7 rfl)) ?_))) | ((refine is_fa ?_; first | (refine lw_pure rfl (pv_fa (tF rfl) rfl) ?_))))
        exact qw_round (k + 1, d) (by repeat' (first | exact trivial | refine ⟨rfl, ?_⟩)) ⟨by show k + 1 ≤ _; omega, hw, hD, hF⟩ (by show xs.length - (k + 1) < xs.length - k; omega)
      · repeat' (first | (refine lw_pure rfl (pv_move rfl) ?_) | (refine is_cw ?_; first | (refine cw_seq ?_) | (refine cw_region ?_) | (refine cw_false rfl (by first | assumption | exact decide_eq_false (by omega) | exact dec_notF (by omega)) ?_) | (refine cw_skip ?_)) | (refine is_qw ?_; first | (with_reducible refine qw_then ?_)) | (refine lw_nil ?_) | ((refine is_bin ?_; first | (refine lw_pure rfl (pv_gtr rfl rfl) ?_))) | ((refine is_load ?_; first | (refine lw_pure rfl (pv_load (t1 rfl) rfl (by first | exact PT.ld0 H7 rfl | exact PT.ld H7 rfl)) ?_))) | ((refine is_fa ?_; first | (refine lw_pure rfl (pv_fa (tF rfl) rfl) ?_))))
        refine lw_call (f := 13) (by kernel_rfl) rfl rfl (files_c hD) ?_; rintro e w8 ⟨⟨v8, rfl, hO8⟩, hb⟩; refine ⟨_, rfl, ?_⟩
        have l1 := hD.lt
        replace hD := hD.mono hb
        replace H7 := H7.mono hb
        obtain ⟨ba, bc, rfl, HB, hBn⟩ := Own.slR encF_len hO8
        have q8 : ∀ y, ba = some y → y.block ≠ N ∧ y.block ≠ B := fun y hy => by have := (hBn y hy).1; exact ⟨by omega, by omega⟩
        replace hw := grow_trans hw hb
        clear hb l1 hO8 hBn
        repeat' (first | (refine lw_pure rfl (pv_move rfl) ?_) | (refine lw_pure rfl (pv_assign rfl) ?_) | (refine is_cw ?_; first | (refine cw_seq ?_) | (refine cw_region ?_)) | (refine is_qw ?_; first | (with_reducible refine qw_then ?_)) | (refine lw_nil ?_) | ((refine is_load ?_; first | (refine lw_pure rfl (pv_loada (tA rfl) rfl (by first | exact PT.lda H7) (by rfl)) ?_))))
        refine lw_call (f := 14) (by kernel_rfl) rfl rfl (act_c hD (hxs x hxm)) ?_; clear hD; rintro e w9 ⟨rfl, hD, hG⟩; refine ⟨_, rfl, ?_⟩
        replace H7 := H7.gw hG q3.1 q3.2
        replace HB := HB.gw hG q8
        replace hw := hG.below hw hN hB
        clear hG
        have hF2 := hF.act (opOf x)
        have hff : ∀ g ∈ d.fs, _ := fun g hg => firm_facts hF (o := opOf x) ⟨show 0 ≤ x.kind by omega, show x.kind ≤ 5 by omega⟩ (g := g) hg
        repeat' (first | (refine lw_pure rfl (pv_move rfl) ?_) | (refine lw_pure rfl (pv_assign rfl) ?_) | (refine is_cw ?_; first | (refine cw_seq ?_) | (refine cw_region ?_)) | (refine is_qw ?_; first | (with_reducible refine qw_then ?_)) | (refine lw_nil ?_))
        refine lw_call (f := 13) (by kernel_rfl) rfl rfl (files_c hD) ?_; rintro e w10 ⟨⟨v10, rfl, hO10⟩, hb⟩; refine ⟨_, rfl, ?_⟩
        replace hD := hD.mono hb
        replace H7 := H7.mono hb
        replace HB := HB.mono hb
        obtain ⟨aa, ac, rfl, HA, -⟩ := Own.slR encF_len hO10
        replace hw := grow_trans hw hb
        clear hb hO10
        have hBm := HB.max
        have hBl := HB.le
        have hAm := HA.max
        repeat' (first | (refine lw_pure rfl (pv_assign rfl) ?_) | (refine is_cw ?_; first | (refine cw_seq ?_) | (refine cw_region ?_) | (refine cw_block ?_)) | (refine is_qw ?_; first | (with_reducible refine qw_then ?_)) | (refine lw_nil ?_))
        generalize (actD (opOf x) d).1 = e0 at hff ⊢
        generalize (actD (opOf x) d).2 = d2 at hff hD HA hF2 hAm ⊢
        have hw1 := hw
        clear hw
        have hw := Below.refl w10.heap.size w10
        refine cw_loop (σ := Nat) (fun j => [(0, .slice (some ⟨ab, ao, none⟩) xs.length ca), (1, .slice b ks.length cb), (5, .pointer (some ⟨N, 0, none⟩)), (6, .int .i64 (k : Nat)), (7, .pointer (some ⟨N7, 0, none⟩)), (8, .slice ba d.fs.length bc), (9, .int .i64 e0), (10, .slice aa d2.fs.length ac), (11, .int .i64 (j : Nat))]) (fun j wr => j ≤ d.fs.length ∧ Below w10.heap.size w10 wr) (fun j => d.fs.length - j) 0 (by repeat' (first | exact trivial | refine ⟨rfl, ?_⟩)) ⟨Nat.zero_le _, hw⟩ ?_
        clear hw
        rintro j wj ⟨hj1, hw⟩
        by_cases hlj : j < d.fs.length
        · have hgj : d.fs[j]? = some d.fs[j] := List.getElem?_eq_getElem hlj
          generalize d.fs[j] = g at hgj
          have hgm := List.mem_of_getElem? hgj
          have hsg := hF.ok.sizes g hgm
          obtain ⟨hfa, hfb⟩ := hff g hgm
          obtain ⟨bb, bo, rfl, -, -⟩ := HB.at (by intro h; rw [h] at hlj; simp at hlj)
          repeat' (first | (refine lw_pure rfl (pv_move rfl) ?_) | (refine is_cw ?_; first | (refine cw_seq ?_) | (refine cw_region ?_) | (refine cw_true rfl (by first | assumption | exact decide_eq_true (by omega) | exact dec_notT (by omega)) ?_) | (refine cw_skip ?_) | (refine cw_block ?_)) | (refine is_qw ?_; first | (with_reducible refine qw_then ?_)) | (refine lw_nil ?_) | ((refine is_bin ?_; first | (refine lw_pure rfl (pv_lss rfl rfl) ?_))) | ((refine is_load ?_; first | (refine lw_pure rfl (pv_load (t1 rfl) rfl (by first | exact PT.ld0 (H7.mono hw) rfl | exact PT.ld (H7.mono hw) rfl | exact SlR.ld (HB.mono hw) hgj rfl | exact SlR.ld1 (HB.mono hw) hgj rfl)) ?_))) | ((refine is_fa ?_; first | (refine lw_pure rfl (pv_fa (tF rfl) rfl) ?_))) | ((refine is_ia ?_; first | (refine lw_pure rfl (pv_ian (tS rfl) rfl rfl (by omega)) ?_))) | ((refine is_bi ?_; first | (refine lw_pure rfl (pv_lenl (tS rfl) rfl) ?_))))
          refine lw_call (f := 15) (by kernel_rfl) rfl rfl (lfind_c rfl (HA.mono hw) g.name) ?_; rintro e w3 ⟨rfl, hb⟩; refine ⟨_, rfl, ?_⟩
          replace hw := grow_trans hw hb
          clear hb
          generalize (getF d2.fs g.name).isSome = is at hfa ⊢
          generalize (getF d2.fs g.name).getD ⟨emptyB, emptyB, emptyB⟩ = f at hfa hfb ⊢
          repeat' (first | (refine lw_pure rfl (pv_move rfl) ?_) | (refine lw_pure rfl (pv_extract rfl rfl) ?_))
          refine lw_varN rfl (by first | exact tyv_28 | exact tyv_29 | exact tyv_34 | exact tyv_35 | exact tyv_43 | exact tyv_44 | exact tyv_77 | exact tyv_78 | exact tyv_80 | exact tyv_81 | exact tyv_86 | exact tyv_87 | exact tyv_126 | exact tyv_127) rfl (tZ rfl) (fun _ => rfl) rfl rfl ?_; intro N12 w12 hN12 H12 hb
          replace H12 : PT w12 N12 35 (encF f) := H12
          have hw2 := grow_trans hw hb
          have H7a := H7.mono hw2
          have HBa := HB.mono hw2
          clear hw hb
          have hw := Below.refl w12.heap.size w12
          repeat' ((fail_if_success (refine is_seqr 16 ?_)); first | (refine lw_pure rfl (pv_assign rfl) ?_) | (refine is_qw ?_; first | (with_reducible refine qw_then ?_)) | (refine lw_nil ?_))
          refine cw_seq ?_
          refine cw_cutq (σ := Bool) (fun t => [(0, .slice (some ⟨ab, ao, none⟩) xs.length ca), (1, .slice b ks.length cb), (5, .pointer (some ⟨N, 0, none⟩)), (6, .int .i64 (k : Nat)), (7, .pointer (some ⟨N7, 0, none⟩)), (8, .slice (some ⟨bb, bo, none⟩) d.fs.length bc), (9, .int .i64 e0), (10, .slice aa d2.fs.length ac), (11, .int .i64 (j : Nat)), (12, .pointer (some ⟨N12, 0, none⟩)), (13, .bool is), (14, .bool t)]) (fun t wr => t = decide (e0 = 0 ∧ (2 ≤ x.kind ∧ x.name = g.name ∨ x.kind = 4 ∧ x.to = g.name)) ∧ Below w12.heap.size w12 wr) ?_ ?_
          · by_cases h0 : e0 = 0
            · by_cases h2 : 2 ≤ x.kind
              · by_cases hn : x.name = g.name
                · have hE := decide_eq_true hn
                  refine cw_drawn (fun w' => Below w12.heap.size w12 w') (by kernel_rfl) (by repeat (first | exact NoPanic.body | with_reducible refine NoPanic.then ?_ | with_reducible refine NoPanic.inBlock ?_)) (fun hNP => ?_)
                  have hS := hw.drew
                  all_goals (refine at0 0 rfl (fun w' hq => pv_move rfl) ?_)
                  all_goals (refine at0 1 rfl (fun w' hq => pv_eql rfl rfl) ?_)
                  all_goals (refine at0 2 rfl (fun w' hq => pv_move rfl) ?_)
                  all_goals (refine at2 3 rfl rfl rfl (fun w' hq => pv_fa (tF rfl) rfl) ?_)
                  all_goals (refine at2 4 rfl rfl rfl (fun w' hq => pv_load (t1 rfl) rfl (by first | exact PT.ld0 (H7a.mono hq) rfl | exact PT.ld (H7a.mono hq) rfl | exact SlR.ld (HBa.mono hq) hgj rfl | exact SlR.ld1 (HBa.mono hq) hgj rfl)) ?_)
                  all_goals (refine at2 5 rfl rfl rfl (fun w' hq => pv_geq rfl rfl) ?_)
                  all_goals (refine at2 6 rfl rfl rfl (fun w' hq => pv_move rfl) ?_)
                  all_goals (refine at2 7 rfl rfl rfl (fun w' hq => pv_fa (tF rfl) rfl) ?_)
                  all_goals (refine at2 8 rfl rfl rfl (fun w' hq => pv_load (t1 rfl) rfl (by first | exact PT.ld0 (H7a.mono hq) rfl | exact PT.ld (H7a.mono hq) rfl | exact SlR.ld (HBa.mono hq) hgj rfl | exact SlR.ld1 (HBa.mono hq) hgj rfl)) ?_)
                  all_goals (refine at2 9 rfl rfl rfl (fun w' hq => pv_move rfl) ?_)
                  all_goals (refine at2 10 rfl rfl rfl (fun w' hq => pv_move rfl) ?_)
                  all_goals (refine at2 11 rfl rfl rfl (fun w' hq => pv_ian (tS rfl) rfl rfl (by omega)) ?_)
                  all_goals (refine at2 12 rfl rfl rfl (fun w' hq => pv_fa (tF rfl) rfl) ?_)
                  all_goals (refine at2 13 rfl rfl rfl (fun w' hq => pv_load (t1 rfl) rfl (by first | exact PT.ld0 (H7a.mono hq) rfl | exact PT.ld (H7a.mono hq) rfl | exact SlR.ld (HBa.mono hq) hgj rfl | exact SlR.ld1 (HBa.mono hq) hgj rfl)) ?_)
                  all_goals (refine at2 14 rfl rfl rfl (fun w' hq => pv_seqlD rfl rfl) ?_)
                  all_goals (refine at2 15 rfl rfl rfl (fun w' hq => pv_pick_t rfl (by first | assumption | exact decide_eq_true (by omega) | exact dec_notT (by omega)) rfl) ?_)
                  all_goals (refine at2 16 rfl rfl rfl (fun w' hq => pv_move rfl) ?_)
                  all_goals (refine an2 17 rfl rfl rfl ?_)
                  all_goals (refine an2 18 rfl rfl rfl ?_)
                  all_goals (refine an2 19 rfl rfl rfl ?_)
                  all_goals (refine an2 20 rfl rfl rfl ?_)
                  all_goals (refine an0 21 rfl rfl rfl ?_)
                  all_goals (refine an0 22 rfl rfl rfl ?_)
                  all_goals (refine an0 23 rfl rfl rfl ?_)
                  all_goals (refine an0 24 rfl rfl rfl ?_)
                  all_goals (refine an0 25 rfl rfl rfl ?_)
                  all_goals (refine an0 26 rfl rfl rfl ?_)
                  all_goals (refine an0 27 rfl rfl rfl ?_)
                  all_goals (refine an0 28 rfl rfl rfl ?_)
                  all_goals (refine an2 29 rfl rfl rfl ?_)
                  all_goals (refine at2 30 rfl rfl rfl (fun w' hq => pv_pick_t rfl (by first | assumption | exact decide_eq_true (by omega) | exact dec_notT (by omega)) rfl) ?_)
                  all_goals (refine at0 31 rfl (fun w' hq => pv_pick_t rfl (by first | assumption | exact decide_eq_true (by omega) | exact dec_notT (by omega)) rfl) ?_)
                  all_goals (refine at0 32 rfl (fun w' hq => pv_assign rfl) ?_)
                  all_goals (refine aw_done (by kernel_rfl) ?_; replace hw := hS; clear hS hNP)
                  skip
                  exact qw_join true (by repeat' (first | exact trivial | refine ⟨rfl, ?_⟩)) ⟨(decide_eq_true ⟨h0, Or.inl ⟨h2, hn⟩⟩).symm, hw⟩
                · have hE := decide_eq_false hn
                  by_cases h4 : x.kind = 4
                  · skip
                    refine cw_drawn (fun w' => Below w12.heap.size w12 w') (by kernel_rfl) (by repeat (first | exact NoPanic.body | with_reducible refine NoPanic.then ?_ | with_reducible refine NoPanic.inBlock ?_)) (fun hNP => ?_)
                    have hS := hw.drew
                    all_goals (refine at0 0 rfl (fun w' hq => pv_move rfl) ?_)
                    all_goals (refine at0 1 rfl (fun w' hq => pv_eql rfl rfl) ?_)
                    all_goals (refine at0 2 rfl (fun w' hq => pv_move rfl) ?_)
                    all_goals (refine at2 3 rfl rfl rfl (fun w' hq => pv_fa (tF rfl) rfl) ?_)
                    all_goals (refine at2 4 rfl rfl rfl (fun w' hq => pv_load (t1 rfl) rfl (by first | exact PT.ld0 (H7a.mono hq) rfl | exact PT.ld (H7a.mono hq) rfl | exact SlR.ld (HBa.mono hq) hgj rfl | exact SlR.ld1 (HBa.mono hq) hgj rfl)) ?_)
                    all_goals (refine at2 5 rfl rfl rfl (fun w' hq => pv_geq rfl rfl) ?_)
                    all_goals (refine at2 6 rfl rfl rfl (fun w' hq => pv_move rfl) ?_)
                    all_goals (refine at2 7 rfl rfl rfl (fun w' hq => pv_fa (tF rfl) rfl) ?_)
                    all_goals (refine at2 8 rfl rfl rfl (fun w' hq => pv_load (t1 rfl) rfl (by first | exact PT.ld0 (H7a.mono hq) rfl | exact PT.ld (H7a.mono hq) rfl | exact SlR.ld (HBa.mono hq) hgj rfl | exact SlR.ld1 (HBa.mono hq) hgj rfl)) ?_)
                    all_goals (refine at2 9 rfl rfl rfl (fun w' hq => pv_move rfl) ?_)
                    all_goals (refine at2 10 rfl rfl rfl (fun w' hq => pv_move rfl) ?_)
                    all_goals (refine at2 11 rfl rfl rfl (fun w' hq => pv_ian (tS rfl) rfl rfl (by omega)) ?_)
                    all_goals (refine at2 12 rfl rfl rfl (fun w' hq => pv_fa (tF rfl) rfl) ?_)
                    all_goals (refine at2 13 rfl rfl rfl (fun w' hq => pv_load (t1 rfl) rfl (by first | exact PT.ld0 (H7a.mono hq) rfl | exact PT.ld (H7a.mono hq) rfl | exact SlR.ld (HBa.mono hq) hgj rfl | exact SlR.ld1 (HBa.mono hq) hgj rfl)) ?_)
                    all_goals (refine at2 14 rfl rfl rfl (fun w' hq => pv_seqlD rfl rfl) ?_)
                    all_goals (refine at2 15 rfl rfl rfl (fun w' hq => pv_pick_t rfl (by first | assumption | exact decide_eq_true (by omega) | exact dec_notT (by omega)) rfl) ?_)
                    all_goals (refine at2 16 rfl rfl rfl (fun w' hq => pv_move rfl) ?_)
                    all_goals (refine at2 17 rfl rfl rfl (fun w' hq => pv_fa (tF rfl) rfl) ?_)
                    all_goals (refine at2 18 rfl rfl rfl (fun w' hq => pv_load (t1 rfl) rfl (by first | exact PT.ld0 (H7a.mono hq) rfl | exact PT.ld (H7a.mono hq) rfl | exact SlR.ld (HBa.mono hq) hgj rfl | exact SlR.ld1 (HBa.mono hq) hgj rfl)) ?_)
                    all_goals (refine at2 19 rfl rfl rfl (fun w' hq => pv_eql rfl rfl) ?_)
                    all_goals (refine at2 20 rfl rfl rfl (fun w' hq => pv_move rfl) ?_)
                    all_goals (refine at2 21 rfl rfl rfl (fun w' hq => pv_fa (tF rfl) rfl) ?_)
                    all_goals (refine at2 22 rfl rfl rfl (fun w' hq => pv_load (t1 rfl) rfl (by first | exact PT.ld0 (H7a.mono hq) rfl | exact PT.ld (H7a.mono hq) rfl | exact SlR.ld (HBa.mono hq) hgj rfl | exact SlR.ld1 (HBa.mono hq) hgj rfl)) ?_)
                    all_goals (refine at2 23 rfl rfl rfl (fun w' hq => pv_move rfl) ?_)
                    all_goals (refine at2 24 rfl rfl rfl (fun w' hq => pv_move rfl) ?_)
                    all_goals (refine at2 25 rfl rfl rfl (fun w' hq => pv_ian (tS rfl) rfl rfl (by omega)) ?_)
                    all_goals (refine at2 26 rfl rfl rfl (fun w' hq => pv_fa (tF rfl) rfl) ?_)
                    all_goals (refine at2 27 rfl rfl rfl (fun w' hq => pv_load (t1 rfl) rfl (by first | exact PT.ld0 (H7a.mono hq) rfl | exact PT.ld (H7a.mono hq) rfl | exact SlR.ld (HBa.mono hq) hgj rfl | exact SlR.ld1 (HBa.mono hq) hgj rfl)) ?_)
                    all_goals (refine at2 28 rfl rfl rfl (fun w' hq => pv_seqlD rfl rfl) ?_)
                    all_goals (refine at2 29 rfl rfl rfl (fun w' hq => pv_pick_t rfl (by first | assumption | exact decide_eq_true (by omega) | exact dec_notT (by omega)) rfl) ?_)
                    all_goals (refine at2 30 rfl rfl rfl (fun w' hq => pv_pick_f rfl (by first | assumption | exact decide_eq_false (by omega) | exact dec_notF (by omega)) rfl) ?_)
                    all_goals (refine at0 31 rfl (fun w' hq => pv_pick_t rfl (by first | assumption | exact decide_eq_true (by omega) | exact dec_notT (by omega)) rfl) ?_)
                    all_goals (refine at0 32 rfl (fun w' hq => pv_assign rfl) ?_)
                    all_goals (refine aw_done (by kernel_rfl) ?_; replace hw := hS; clear hS hNP)
                    skip
                    exact qw_join (decide (x.to = g.name)) (by repeat' (first | exact trivial | refine ⟨rfl, ?_⟩)) ⟨by simp [h0, hn, h4], hw⟩
                  · skip
                    refine cw_drawn (fun w' => Below w12.heap.size w12 w') (by kernel_rfl) (by repeat (first | exact NoPanic.body | with_reducible refine NoPanic.then ?_ | with_reducible refine NoPanic.inBlock ?_)) (fun hNP => ?_)
                    have hS := hw.drew
                    all_goals (refine at0 0 rfl (fun w' hq => pv_move rfl) ?_)
                    all_goals (refine at0 1 rfl (fun w' hq => pv_eql rfl rfl) ?_)
                    all_goals (refine at0 2 rfl (fun w' hq => pv_move rfl) ?_)
                    all_goals (refine at2 3 rfl rfl rfl (fun w' hq => pv_fa (tF rfl) rfl) ?_)
                    all_goals (refine at2 4 rfl rfl rfl (fun w' hq => pv_load (t1 rfl) rfl (by first | exact PT.ld0 (H7a.mono hq) rfl | exact PT.ld (H7a.mono hq) rfl | exact SlR.ld (HBa.mono hq) hgj rfl | exact SlR.ld1 (HBa.mono hq) hgj rfl)) ?_)
                    all_goals (refine at2 5 rfl rfl rfl (fun w' hq => pv_geq rfl rfl) ?_)
                    all_goals (refine at2 6 rfl rfl rfl (fun w' hq => pv_move rfl) ?_)
                    all_goals (refine at2 7 rfl rfl rfl (fun w' hq => pv_fa (tF rfl) rfl) ?_)
                    all_goals (refine at2 8 rfl rfl rfl (fun w' hq => pv_load (t1 rfl) rfl (by first | exact PT.ld0 (H7a.mono hq) rfl | exact PT.ld (H7a.mono hq) rfl | exact SlR.ld (HBa.mono hq) hgj rfl | exact SlR.ld1 (HBa.mono hq) hgj rfl)) ?_)
                    all_goals (refine at2 9 rfl rfl rfl (fun w' hq => pv_move rfl) ?_)
                    all_goals (refine at2 10 rfl rfl rfl (fun w' hq => pv_move rfl) ?_)
                    all_goals (refine at2 11 rfl rfl rfl (fun w' hq => pv_ian (tS rfl) rfl rfl (by omega)) ?_)
                    all_goals (refine at2 12 rfl rfl rfl (fun w' hq => pv_fa (tF rfl) rfl) ?_)
                    all_goals (refine at2 13 rfl rfl rfl (fun w' hq => pv_load (t1 rfl) rfl (by first | exact PT.ld0 (H7a.mono hq) rfl | exact PT.ld (H7a.mono hq) rfl | exact SlR.ld (HBa.mono hq) hgj rfl | exact SlR.ld1 (HBa.mono hq) hgj rfl)) ?_)
                    all_goals (refine at2 14 rfl rfl rfl (fun w' hq => pv_seqlD rfl rfl) ?_)
                    all_goals (refine at2 15 rfl rfl rfl (fun w' hq => pv_pick_t rfl (by first | assumption | exact decide_eq_true (by omega) | exact dec_notT (by omega)) rfl) ?_)
                    all_goals (refine at2 16 rfl rfl rfl (fun w' hq => pv_move rfl) ?_)
                    all_goals (refine at2 17 rfl rfl rfl (fun w' hq => pv_fa (tF rfl) rfl) ?_)
                    all_goals (refine at2 18 rfl rfl rfl (fun w' hq => pv_load (t1 rfl) rfl (by first | exact PT.ld0 (H7a.mono hq) rfl | exact PT.ld (H7a.mono hq) rfl | exact SlR.ld (HBa.mono hq) hgj rfl | exact SlR.ld1 (HBa.mono hq) hgj rfl)) ?_)
                    all_goals (refine at2 19 rfl rfl rfl (fun w' hq => pv_eql rfl rfl) ?_)
                    all_goals (refine at2 20 rfl rfl rfl (fun w' hq => pv_move rfl) ?_)
                    all_goals (refine an2 21 rfl rfl rfl ?_)
                    all_goals (refine an2 22 rfl rfl rfl ?_)
                    all_goals (refine an2 23 rfl rfl rfl ?_)
                    all_goals (refine an2 24 rfl rfl rfl ?_)
                    all_goals (refine an2 25 rfl rfl rfl ?_)
                    all_goals (refine an2 26 rfl rfl rfl ?_)
                    all_goals (refine an2 27 rfl rfl rfl ?_)
                    all_goals (refine an2 28 rfl rfl rfl ?_)
                    all_goals (refine at2 29 rfl rfl rfl (fun w' hq => pv_pick_f rfl (by first | assumption | exact decide_eq_false (by omega) | exact dec_notF (by omega)) rfl) ?_)
                    all_goals (refine at2 30 rfl rfl rfl (fun w' hq => pv_pick_f rfl (by first | assumption | exact decide_eq_false (by omega) | exact dec_notF (by omega)) rfl) ?_)
                    all_goals (refine at0 31 rfl (fun w' hq => pv_pick_t rfl (by first | assumption | exact decide_eq_true (by omega) | exact dec_notT (by omega)) rfl) ?_)
                    all_goals (refine at0 32 rfl (fun w' hq => pv_assign rfl) ?_)
                    all_goals (refine aw_done (by kernel_rfl) ?_; replace hw := hS; clear hS hNP)
                    skip
                    exact qw_join false (by repeat' (first | exact trivial | refine ⟨rfl, ?_⟩)) ⟨(decide_eq_false (fun h => by rcases h.2 with h | h; exact hn h.2; exact h4 h.1)).symm, hw⟩
              · skip
                refine cw_drawn (fun w' => Below w12.heap.size w12 w') (by kernel_rfl) (by repeat (first | exact NoPanic.body | with_reducible refine NoPanic.then ?_ | with_reducible refine NoPanic.inBlock ?_)) (fun hNP => ?_)
                have hS := hw.drew
                all_goals (refine at0 0 rfl (fun w' hq => pv_move rfl) ?_)
                all_goals (refine at0 1 rfl (fun w' hq => pv_eql rfl rfl) ?_)
                all_goals (refine at0 2 rfl (fun w' hq => pv_move rfl) ?_)
                all_goals (refine at2 3 rfl rfl rfl (fun w' hq => pv_fa (tF rfl) rfl) ?_)
                all_goals (refine at2 4 rfl rfl rfl (fun w' hq => pv_load (t1 rfl) rfl (by first | exact PT.ld0 (H7a.mono hq) rfl | exact PT.ld (H7a.mono hq) rfl | exact SlR.ld (HBa.mono hq) hgj rfl | exact SlR.ld1 (HBa.mono hq) hgj rfl)) ?_)
                all_goals (refine at2 5 rfl rfl rfl (fun w' hq => pv_geq rfl rfl) ?_)
                all_goals (refine at2 6 rfl rfl rfl (fun w' hq => pv_move rfl) ?_)
                all_goals (refine an2 7 rfl rfl rfl ?_)
                all_goals (refine an2 8 rfl rfl rfl ?_)
                all_goals (refine an2 9 rfl rfl rfl ?_)
                all_goals (refine an2 10 rfl rfl rfl ?_)
                all_goals (refine an2 11 rfl rfl rfl ?_)
                all_goals (refine an2 12 rfl rfl rfl ?_)
                all_goals (refine an2 13 rfl rfl rfl ?_)
                all_goals (refine an2 14 rfl rfl rfl ?_)
                all_goals (refine at2 15 rfl rfl rfl (fun w' hq => pv_pick_f rfl (by first | assumption | exact decide_eq_false (by omega) | exact dec_notF (by omega)) rfl) ?_)
                all_goals (refine at2 16 rfl rfl rfl (fun w' hq => pv_move rfl) ?_)
                all_goals (refine at1 17 rfl rfl rfl rfl (fun w' hq => pv_fa (tF rfl) rfl) ?_)
                all_goals (refine at1 18 rfl rfl rfl rfl (fun w' hq => pv_load (t1 rfl) rfl (by first | exact PT.ld0 (H7a.mono hq) rfl | exact PT.ld (H7a.mono hq) rfl | exact SlR.ld (HBa.mono hq) hgj rfl | exact SlR.ld1 (HBa.mono hq) hgj rfl)) ?_)
                all_goals (refine at1 19 rfl rfl rfl rfl (fun w' hq => pv_eql rfl rfl) ?_)
                all_goals (refine at1 20 rfl rfl rfl rfl (fun w' hq => pv_move rfl) ?_)
                all_goals (refine an2 21 rfl rfl rfl ?_)
                all_goals (refine an2 22 rfl rfl rfl ?_)
                all_goals (refine an2 23 rfl rfl rfl ?_)
                all_goals (refine an2 24 rfl rfl rfl ?_)
                all_goals (refine an2 25 rfl rfl rfl ?_)
                all_goals (refine an2 26 rfl rfl rfl ?_)
                all_goals (refine an2 27 rfl rfl rfl ?_)
                all_goals (refine an2 28 rfl rfl rfl ?_)
                all_goals (refine at1 29 rfl rfl rfl rfl (fun w' hq => pv_pick_f rfl (by first | assumption | exact decide_eq_false (by omega) | exact dec_notF (by omega)) rfl) ?_)
                all_goals (refine at2 30 rfl rfl rfl (fun w' hq => pv_pick_f rfl rfl rfl) ?_)
                all_goals (refine at0 31 rfl (fun w' hq => pv_pick_t rfl (by first | assumption | exact decide_eq_true (by omega) | exact dec_notT (by omega)) rfl) ?_)
                all_goals (refine at0 32 rfl (fun w' hq => pv_assign rfl) ?_)
                all_goals (refine aw_done (by kernel_rfl) ?_; replace hw := hS; clear hS hNP)
                skip
                exact qw_join false (by repeat' (first | exact trivial | refine ⟨rfl, ?_⟩)) ⟨(decide_eq_false (fun h => by rcases h.2 with h | h <;> omega)).symm, hw⟩
            · skip
              refine cw_drawn (fun w' => Below w12.heap.size w12 w') (by kernel_rfl) (by repeat (first | exact NoPanic.body | with_reducible refine NoPanic.then ?_ | with_reducible refine NoPanic.inBlock ?_)) (fun hNP => ?_)
              have hS := hw.drew
              all_goals (refine at0 0 rfl (fun w' hq => pv_move rfl) ?_)
              all_goals (refine at0 1 rfl (fun w' hq => pv_eql rfl rfl) ?_)
              all_goals (refine at0 2 rfl (fun w' hq => pv_move rfl) ?_)
              all_goals (refine an2 3 rfl rfl rfl ?_)
              all_goals (refine an2 4 rfl rfl rfl ?_)
              all_goals (refine an2 5 rfl rfl rfl ?_)
              all_goals (refine an2 6 rfl rfl rfl ?_)
              all_goals (refine an0 7 rfl rfl rfl ?_)
              all_goals (refine an0 8 rfl rfl rfl ?_)
              all_goals (refine an0 9 rfl rfl rfl ?_)
              all_goals (refine an0 10 rfl rfl rfl ?_)
              all_goals (refine an0 11 rfl rfl rfl ?_)
              all_goals (refine an0 12 rfl rfl rfl ?_)
              all_goals (refine an0 13 rfl rfl rfl ?_)
              all_goals (refine an0 14 rfl rfl rfl ?_)
              all_goals (refine an2 15 rfl rfl rfl ?_)
              all_goals (refine an2 16 rfl rfl rfl ?_)
              all_goals (refine an0 17 rfl rfl rfl ?_)
              all_goals (refine an0 18 rfl rfl rfl ?_)
              all_goals (refine an0 19 rfl rfl rfl ?_)
              all_goals (refine an0 20 rfl rfl rfl ?_)
              all_goals (refine an0 21 rfl rfl rfl ?_)
              all_goals (refine an0 22 rfl rfl rfl ?_)
              all_goals (refine an0 23 rfl rfl rfl ?_)
              all_goals (refine an0 24 rfl rfl rfl ?_)
              all_goals (refine an0 25 rfl rfl rfl ?_)
              all_goals (refine an0 26 rfl rfl rfl ?_)
              all_goals (refine an0 27 rfl rfl rfl ?_)
              all_goals (refine an0 28 rfl rfl rfl ?_)
              all_goals (refine an0 29 rfl rfl rfl ?_)
              all_goals (refine an2 30 rfl rfl rfl ?_)
              all_goals (refine at0 31 rfl (fun w' hq => pv_pick_f rfl (by first | assumption | exact decide_eq_false (by omega) | exact dec_notF (by omega)) rfl) ?_)
              all_goals (refine at0 32 rfl (fun w' hq => pv_assign rfl) ?_)
              all_goals (refine aw_done (by kernel_rfl) ?_; replace hw := hS; clear hS hNP)
              skip
              exact qw_join false (by repeat' (first | exact trivial | refine ⟨rfl, ?_⟩)) ⟨(decide_eq_false (fun h => h0 h.1)).symm, hw⟩
          · clear hw
            rintro t wr ⟨ht, hw⟩
            repeat' ((fail_if_success (refine is_seqr 17 ?_)); first | (refine is_cw ?_; first | (refine cw_seq ?_)))
            refine cw_seq ?_
            refine cw_cutq (σ := Bool) (fun c => [(0, .slice (some ⟨ab, ao, none⟩) xs.length ca), (1, .slice b ks.length cb), (5, .pointer (some ⟨N, 0, none⟩)), (6, .int .i64 (k : Nat)), (7, .pointer (some ⟨N7, 0, none⟩)), (8, .slice (some ⟨bb, bo, none⟩) d.fs.length bc), (9, .int .i64 e0), (10, .slice aa d2.fs.length ac), (11, .int .i64 (j : Nat)), (12, .pointer (some ⟨N12, 0, none⟩)), (129, .bool c)]) (fun c wr => c = false ∧ Below w12.heap.size w12 wr) ?_ ?_
            · by_cases hT : e0 = 0 ∧ (2 ≤ x.kind ∧ x.name = g.name ∨ x.kind = 4 ∧ x.to = g.name)
              · rw [decide_eq_true hT] at ht
                subst ht
                refine cw_drawn (fun w' => Below w12.heap.size w12 w') (by kernel_rfl) (by repeat (first | exact NoPanic.body | with_reducible refine NoPanic.then ?_ | with_reducible refine NoPanic.inBlock ?_)) (fun hNP => ?_)
                have hS := hw.drew
                all_goals (refine at0 0 rfl (fun w' hq => pv_move rfl) ?_)
                all_goals (refine at0 1 rfl (fun w' hq => pv_not rfl) ?_)
                all_goals (refine at0 2 rfl (fun w' hq => pv_move rfl) ?_)
                all_goals (refine an1 3 rfl rfl rfl rfl ?_)
                all_goals (refine an1 4 rfl rfl rfl rfl ?_)
                all_goals (refine an1 5 rfl rfl rfl rfl ?_)
                all_goals (refine an0 6 rfl rfl rfl ?_)
                all_goals (refine an0 7 rfl rfl rfl ?_)
                all_goals (refine an0 8 rfl rfl rfl ?_)
                all_goals (refine an0 9 rfl rfl rfl ?_)
                all_goals (refine an0 10 rfl rfl rfl ?_)
                all_goals (refine an0 11 rfl rfl rfl ?_)
                all_goals (refine an0 12 rfl rfl rfl ?_)
                all_goals (refine an0 13 rfl rfl rfl ?_)
                all_goals (refine an1 14 rfl rfl rfl rfl ?_)
                all_goals (refine an1 15 rfl rfl rfl rfl ?_)
                all_goals (refine an0 16 rfl rfl rfl ?_)
                all_goals (refine an0 17 rfl rfl rfl ?_)
                all_goals (refine an0 18 rfl rfl rfl ?_)
                all_goals (refine an0 19 rfl rfl rfl ?_)
                all_goals (refine an0 20 rfl rfl rfl ?_)
                all_goals (refine an0 21 rfl rfl rfl ?_)
                all_goals (refine an0 22 rfl rfl rfl ?_)
                all_goals (refine an0 23 rfl rfl rfl ?_)
                all_goals (refine an0 24 rfl rfl rfl ?_)
                all_goals (refine an0 25 rfl rfl rfl ?_)
                all_goals (refine an0 26 rfl rfl rfl ?_)
                all_goals (refine an1 27 rfl rfl rfl rfl ?_)
                all_goals (refine at0 28 rfl (fun w' hq => pv_pick_f rfl rfl rfl) ?_)
                all_goals (refine aw_done (by kernel_rfl) ?_; replace hw := hS; clear hS hNP)
                skip
                exact qw_join false (by repeat' (first | exact trivial | refine ⟨rfl, ?_⟩)) ⟨rfl, hw⟩
              · rw [decide_eq_false hT] at ht
                subst ht
                obtain ⟨his, hf1, hf2⟩ := hfa hT
                subst his
                have hE1 : (!decide (f.firm = g.firm)) = false := by rw [decide_eq_true hf1]; rfl
                by_cases h1 : x.kind = 1
                · skip
                  refine cw_drawn (fun w' => Below w12.heap.size w12 w') (by kernel_rfl) (by repeat (first | exact NoPanic.body | with_reducible refine NoPanic.then ?_ | with_reducible refine NoPanic.inBlock ?_)) (fun hNP => ?_)
                  have hS := hw.drew
                  all_goals (refine at0 0 rfl (fun w' hq => pv_move rfl) ?_)
                  all_goals (refine at0 1 rfl (fun w' hq => pv_not rfl) ?_)
                  all_goals (refine at0 2 rfl (fun w' hq => pv_move rfl) ?_)
                  all_goals (refine at1 3 rfl rfl rfl rfl (fun w' hq => pv_move rfl) ?_)
                  all_goals (refine at1 4 rfl rfl rfl rfl (fun w' hq => pv_not rfl) ?_)
                  all_goals (refine at1 5 rfl rfl rfl rfl (fun w' hq => pv_move rfl) ?_)
                  all_goals (refine at1 6 rfl rfl rfl rfl (fun w' hq => pv_fa (tF rfl) rfl) ?_)
                  all_goals (refine at1 7 rfl rfl rfl rfl (fun w' hq => pv_load (t1 rfl) rfl (by first | exact PT.ld0 (H7a.mono hq) rfl | exact PT.ld (H7a.mono hq) rfl | exact SlR.ld (HBa.mono hq) hgj rfl | exact SlR.ld1 (HBa.mono hq) hgj rfl | exact PT.ld0 (H12.mono hq) rfl | exact PT.ld (H12.mono hq) rfl)) ?_)
                  all_goals (refine at1 8 rfl rfl rfl rfl (fun w' hq => pv_move rfl) ?_)
                  all_goals (refine at1 9 rfl rfl rfl rfl (fun w' hq => pv_move rfl) ?_)
                  all_goals (refine at1 10 rfl rfl rfl rfl (fun w' hq => pv_ian (tS rfl) rfl rfl (by omega)) ?_)
                  all_goals (refine at1 11 rfl rfl rfl rfl (fun w' hq => pv_fa (tF rfl) rfl) ?_)
                  all_goals (refine at1 12 rfl rfl rfl rfl (fun w' hq => pv_load (t1 rfl) rfl (by first | exact PT.ld0 (H7a.mono hq) rfl | exact PT.ld (H7a.mono hq) rfl | exact SlR.ld (HBa.mono hq) hgj rfl | exact SlR.ld1 (HBa.mono hq) hgj rfl | exact PT.ld0 (H12.mono hq) rfl | exact PT.ld (H12.mono hq) rfl)) ?_)
                  all_goals (refine at1 13 rfl rfl rfl rfl (fun w' hq => pv_sneqD rfl rfl) ?_)
                  all_goals (refine at1 14 rfl rfl rfl rfl (fun w' hq => pv_pick_f rfl rfl rfl) ?_)
                  all_goals (refine at1 15 rfl rfl rfl rfl (fun w' hq => pv_move rfl) ?_)
                  all_goals (refine at2 16 rfl rfl rfl (fun w' hq => pv_fa (tF rfl) rfl) ?_)
                  all_goals (refine at2 17 rfl rfl rfl (fun w' hq => pv_load (t1 rfl) rfl (by first | exact PT.ld0 (H7a.mono hq) rfl | exact PT.ld (H7a.mono hq) rfl | exact SlR.ld (HBa.mono hq) hgj rfl | exact SlR.ld1 (HBa.mono hq) hgj rfl | exact PT.ld0 (H12.mono hq) rfl | exact PT.ld (H12.mono hq) rfl)) ?_)
                  all_goals (refine at2 18 rfl rfl rfl (fun w' hq => pv_neq rfl rfl) ?_)
                  all_goals (refine at2 19 rfl rfl rfl (fun w' hq => pv_move rfl) ?_)
                  all_goals (refine an2 20 rfl rfl rfl ?_)
                  all_goals (refine an2 21 rfl rfl rfl ?_)
                  all_goals (refine an2 22 rfl rfl rfl ?_)
                  all_goals (refine an2 23 rfl rfl rfl ?_)
                  all_goals (refine an2 24 rfl rfl rfl ?_)
                  all_goals (refine an2 25 rfl rfl rfl ?_)
                  all_goals (refine at2 26 rfl rfl rfl (fun w' hq => pv_pick_f rfl (by first | assumption | exact decide_eq_false (by omega) | exact dec_notF (by omega)) rfl) ?_)
                  all_goals (refine at1 27 rfl rfl rfl rfl (fun w' hq => pv_pick_f rfl (by first | assumption | exact decide_eq_false (by omega) | exact dec_notF (by omega)) rfl) ?_)
                  all_goals (refine at0 28 rfl (fun w' hq => pv_pick_t rfl rfl rfl) ?_)
                  all_goals (refine aw_done (by kernel_rfl) ?_; replace hw := hS; clear hS hNP)
                  skip
                  exact qw_join false (by repeat' (first | exact trivial | refine ⟨rfl, ?_⟩)) ⟨rfl, hw⟩
                · skip
                  refine cw_drawn (fun w' => Below w12.heap.size w12 w') (by kernel_rfl) (by repeat (first | exact NoPanic.body | with_reducible refine NoPanic.then ?_ | with_reducible refine NoPanic.inBlock ?_)) (fun hNP => ?_)
                  have hS := hw.drew
                  all_goals (refine at0 0 rfl (fun w' hq => pv_move rfl) ?_)
                  all_goals (refine at0 1 rfl (fun w' hq => pv_not rfl) ?_)
                  all_goals (refine at0 2 rfl (fun w' hq => pv_move rfl) ?_)
                  all_goals (refine at1 3 rfl rfl rfl rfl (fun w' hq => pv_move rfl) ?_)
                  all_goals (refine at1 4 rfl rfl rfl rfl (fun w' hq => pv_not rfl) ?_)
                  all_goals (refine at1 5 rfl rfl rfl rfl (fun w' hq => pv_move rfl) ?_)
                  all_goals (refine at1 6 rfl rfl rfl rfl (fun w' hq => pv_fa (tF rfl) rfl) ?_)
                  all_goals (refine at1 7 rfl rfl rfl rfl (fun w' hq => pv_load (t1 rfl) rfl (by first | exact PT.ld0 (H7a.mono hq) rfl | exact PT.ld (H7a.mono hq) rfl | exact SlR.ld (HBa.mono hq) hgj rfl | exact SlR.ld1 (HBa.mono hq) hgj rfl | exact PT.ld0 (H12.mono hq) rfl | exact PT.ld (H12.mono hq) rfl)) ?_)
                  all_goals (refine at1 8 rfl rfl rfl rfl (fun w' hq => pv_move rfl) ?_)
                  all_goals (refine at1 9 rfl rfl rfl rfl (fun w' hq => pv_move rfl) ?_)
                  all_goals (refine at1 10 rfl rfl rfl rfl (fun w' hq => pv_ian (tS rfl) rfl rfl (by omega)) ?_)
                  all_goals (refine at1 11 rfl rfl rfl rfl (fun w' hq => pv_fa (tF rfl) rfl) ?_)
                  all_goals (refine at1 12 rfl rfl rfl rfl (fun w' hq => pv_load (t1 rfl) rfl (by first | exact PT.ld0 (H7a.mono hq) rfl | exact PT.ld (H7a.mono hq) rfl | exact SlR.ld (HBa.mono hq) hgj rfl | exact SlR.ld1 (HBa.mono hq) hgj rfl | exact PT.ld0 (H12.mono hq) rfl | exact PT.ld (H12.mono hq) rfl)) ?_)
                  all_goals (refine at1 13 rfl rfl rfl rfl (fun w' hq => pv_sneqD rfl rfl) ?_)
                  all_goals (refine at1 14 rfl rfl rfl rfl (fun w' hq => pv_pick_f rfl rfl rfl) ?_)
                  all_goals (refine at1 15 rfl rfl rfl rfl (fun w' hq => pv_move rfl) ?_)
                  all_goals (refine at2 16 rfl rfl rfl (fun w' hq => pv_fa (tF rfl) rfl) ?_)
                  all_goals (refine at2 17 rfl rfl rfl (fun w' hq => pv_load (t1 rfl) rfl (by first | exact PT.ld0 (H7a.mono hq) rfl | exact PT.ld (H7a.mono hq) rfl | exact SlR.ld (HBa.mono hq) hgj rfl | exact SlR.ld1 (HBa.mono hq) hgj rfl | exact PT.ld0 (H12.mono hq) rfl | exact PT.ld (H12.mono hq) rfl)) ?_)
                  all_goals (refine at2 18 rfl rfl rfl (fun w' hq => pv_neq rfl rfl) ?_)
                  all_goals (refine at2 19 rfl rfl rfl (fun w' hq => pv_move rfl) ?_)
                  all_goals (refine at2 20 rfl rfl rfl (fun w' hq => pv_loada (tA rfl) rfl (by first | exact PT.lda (H7a.mono hq) | exact SlR.lda (HBa.mono hq) hgj | exact PT.lda (H12.mono hq)) (by rfl)) ?_)
                  all_goals (refine at2 21 rfl rfl rfl (fun w' hq => pv_move rfl) ?_)
                  all_goals (refine at2 22 rfl rfl rfl (fun w' hq => pv_move rfl) ?_)
                  all_goals (refine at2 23 rfl rfl rfl (fun w' hq => pv_ian (tS rfl) rfl rfl (by omega)) ?_)
                  all_goals (refine at2 24 rfl rfl rfl (fun w' hq => pv_loada (tA rfl) rfl (by first | exact PT.lda (H7a.mono hq) | exact SlR.lda (HBa.mono hq) hgj | exact PT.lda (H12.mono hq)) (by rfl)) ?_)
                  all_goals (refine at2 25 rfl rfl rfl (fun w' hq => pv_neqF f g rfl rfl) ?_)
                  all_goals (refine at2 26 rfl rfl rfl (fun w' hq => pv_pick_t rfl (by first | assumption | exact decide_eq_true (by omega) | exact dec_notT (by omega)) rfl) ?_)
                  all_goals (refine at1 27 rfl rfl rfl rfl (fun w' hq => pv_pick_f rfl (by first | assumption | exact decide_eq_false (by omega) | exact dec_notF (by omega)) rfl) ?_)
                  all_goals (refine at0 28 rfl (fun w' hq => pv_pick_t rfl rfl rfl) ?_)
                  all_goals (refine aw_done (by kernel_rfl) ?_; replace hw := hS; clear hS hNP)
                  skip
                  exact qw_join (!decide (f = g)) (by repeat' (first | exact trivial | refine ⟨rfl, ?_⟩)) ⟨by rw [decide_eq_true (hf2 h1)]; rfl, hw⟩
            · clear hw ht
              rintro c wr ⟨rfl, hw⟩
              repeat' ((fail_if_success (refine is_seqr 19 ?_)); first | (refine is_cw ?_; first | (refine cw_false rfl rfl ?_) | (refine cw_skip ?_)) | (refine is_qw ?_; first | (with_reducible refine qw_then ?_)))
              refine cw_seq ?_
              refine cw_cutq (σ := Bool) (fun c => [(0, .slice (some ⟨ab, ao, none⟩) xs.length ca), (1, .slice b ks.length cb), (5, .pointer (some ⟨N, 0, none⟩)), (6, .int .i64 (k : Nat)), (7, .pointer (some ⟨N7, 0, none⟩)), (8, .slice (some ⟨bb, bo, none⟩) d.fs.length bc), (9, .int .i64 e0), (10, .slice aa d2.fs.length ac), (11, .int .i64 (j : Nat)), (161, .bool c)]) (fun c wr => c = false ∧ Below w12.heap.size w12 wr) ?_ ?_
              · by_cases h0 : e0 = 0
                · by_cases h2 : x.kind = 2
                  · by_cases hn : x.name = g.name
                    · have hE := decide_eq_true hn
                      obtain ⟨hf1, hf2⟩ := hfb h0 h2 hn
                      have hE1 : (!decide (f.firm = g.firm ++ g.pend)) = false := by rw [decide_eq_true hf1]; rfl
                      refine cw_drawn (fun w' => Below w12.heap.size w12 w') (by kernel_rfl) (by repeat (first | exact NoPanic.body | with_reducible refine NoPanic.then ?_ | with_reducible refine NoPanic.inBlock ?_)) (fun hNP => ?_)
                      have hS := hw.drew
                      all_goals (refine at0 0 rfl (fun w' hq => pv_move rfl) ?_)
                      all_goals (refine at0 1 rfl (fun w' hq => pv_eql rfl rfl) ?_)
                      all_goals (refine at0 2 rfl (fun w' hq => pv_move rfl) ?_)
                      all_goals (refine at2 3 rfl rfl rfl (fun w' hq => pv_fa (tF rfl) rfl) ?_)
                      all_goals (refine at2 4 rfl rfl rfl (fun w' hq => pv_load (t1 rfl) rfl (by first | exact PT.ld0 (H7a.mono hq) rfl | exact PT.ld (H7a.mono hq) rfl | exact SlR.ld (HBa.mono hq) hgj rfl | exact SlR.ld1 (HBa.mono hq) hgj rfl | exact PT.ld0 (H12.mono hq) rfl | exact PT.ld (H12.mono hq) rfl)) ?_)
                      all_goals (refine at2 5 rfl rfl rfl (fun w' hq => pv_eql rfl rfl) ?_)
                      all_goals (refine at0 6 rfl (fun w' hq => pv_pick_t rfl (by first | assumption | exact decide_eq_true (by omega) | exact dec_notT (by omega)) rfl) ?_)
                      all_goals (refine at0 7 rfl (fun w' hq => pv_move rfl) ?_)
                      all_goals (refine at2 8 rfl rfl rfl (fun w' hq => pv_fa (tF rfl) rfl) ?_)
                      all_goals (refine at2 9 rfl rfl rfl (fun w' hq => pv_load (t1 rfl) rfl (by first | exact PT.ld0 (H7a.mono hq) rfl | exact PT.ld (H7a.mono hq) rfl | exact SlR.ld (HBa.mono hq) hgj rfl | exact SlR.ld1 (HBa.mono hq) hgj rfl | exact PT.ld0 (H12.mono hq) rfl | exact PT.ld (H12.mono hq) rfl)) ?_)
                      all_goals (refine at2 10 rfl rfl rfl (fun w' hq => pv_move rfl) ?_)
                      all_goals (refine at2 11 rfl rfl rfl (fun w' hq => pv_move rfl) ?_)
                      all_goals (refine at2 12 rfl rfl rfl (fun w' hq => pv_ian (tS rfl) rfl rfl (by omega)) ?_)
                      all_goals (refine at2 13 rfl rfl rfl (fun w' hq => pv_fa (tF rfl) rfl) ?_)
                      all_goals (refine at2 14 rfl rfl rfl (fun w' hq => pv_load (t1 rfl) rfl (by first | exact PT.ld0 (H7a.mono hq) rfl | exact PT.ld (H7a.mono hq) rfl | exact SlR.ld (HBa.mono hq) hgj rfl | exact SlR.ld1 (HBa.mono hq) hgj rfl | exact PT.ld0 (H12.mono hq) rfl | exact PT.ld (H12.mono hq) rfl)) ?_)
                      all_goals (refine at2 15 rfl rfl rfl (fun w' hq => pv_seqlD rfl rfl) ?_)
                      all_goals (refine at0 16 rfl (fun w' hq => pv_pick_t rfl (by first | assumption | exact decide_eq_true (by omega) | exact dec_notT (by omega)) rfl) ?_)
                      all_goals (refine at0 17 rfl (fun w' hq => pv_move rfl) ?_)
                      all_goals (refine at2 18 rfl rfl rfl (fun w' hq => pv_fa (tF rfl) rfl) ?_)
                      all_goals (refine at2 19 rfl rfl rfl (fun w' hq => pv_load (t1 rfl) rfl (by first | exact PT.ld0 (H7a.mono hq) rfl | exact PT.ld (H7a.mono hq) rfl | exact SlR.ld (HBa.mono hq) hgj rfl | exact SlR.ld1 (HBa.mono hq) hgj rfl | exact PT.ld0 (H12.mono hq) rfl | exact PT.ld (H12.mono hq) rfl)) ?_)
                      all_goals (refine at2 20 rfl rfl rfl (fun w' hq => pv_move rfl) ?_)
                      all_goals (refine at2 21 rfl rfl rfl (fun w' hq => pv_move rfl) ?_)
                      all_goals (refine at2 22 rfl rfl rfl (fun w' hq => pv_ian (tS rfl) rfl rfl (by omega)) ?_)
                      all_goals (refine at2 23 rfl rfl rfl (fun w' hq => pv_loada (tA rfl) rfl (by first | exact PT.lda (H7a.mono hq) | exact SlR.lda (HBa.mono hq) hgj | exact PT.lda (H12.mono hq)) (by rfl)) ?_)
                      all_goals first | (refine an3 24 rfl rfl rfl ?_) | (refine an0 24 rfl rfl rfl ?_) | (refine aw_act_g 24 (by kernel_rfl) rfl rfl rfl (by first | rfl | assumption | exact decide_eq_true (by omega) | exact decide_eq_false (by omega) | exact dec_notT (by omega) | exact dec_notF (by omega)) rfl ?_; refine act_call (f := 16) (by kernel_rfl) rfl (lbytes_c (f := g) (by omega) _) ?_; rintro e w1 ⟨rfl, hb⟩; refine ⟨_, rfl, grow_trans hS hb, fun hS => ?_⟩)
                      all_goals (refine at2 25 rfl rfl rfl (fun w' hq => pv_sneqD rfl rfl) ?_)
                      all_goals (refine at2 26 rfl rfl rfl (fun w' hq => pv_move rfl) ?_)
                      all_goals (refine at2 27 rfl rfl rfl (fun w' hq => pv_fa (tF rfl) rfl) ?_)
                      all_goals (refine at2 28 rfl rfl rfl (fun w' hq => pv_load (t1 rfl) rfl (by first | exact PT.ld0 (H7a.mono hq) rfl | exact PT.ld (H7a.mono hq) rfl | exact SlR.ld (HBa.mono hq) hgj rfl | exact SlR.ld1 (HBa.mono hq) hgj rfl | exact PT.ld0 (H12.mono hq) rfl | exact PT.ld (H12.mono hq) rfl)) ?_)
                      all_goals (refine at2 29 rfl rfl rfl (fun w' hq => pv_sneqD rfl rfl) ?_)
                      all_goals (refine at2 30 rfl rfl rfl (fun w' hq => pv_pick_f rfl (by first | assumption | exact decide_eq_false (by omega) | exact dec_notF (by omega)) rfl) ?_)
                      all_goals (refine at0 31 rfl (fun w' hq => pv_pick_t rfl (by first | assumption | exact decide_eq_true (by omega) | exact dec_notT (by omega)) rfl) ?_)
                      all_goals (refine aw_done (by kernel_rfl) ?_; replace hw := hS; clear hS hNP)
                      skip
                      exact qw_join (!decide (f.pend = (⟨#[]⟩ : ByteArray))) (by repeat' (first | exact trivial | refine ⟨rfl, ?_⟩)) ⟨by rw [hf2]; rfl, hw⟩
                    · have hE := decide_eq_false hn
                      refine cw_drawn (fun w' => Below w12.heap.size w12 w') (by kernel_rfl) (by repeat (first | exact NoPanic.body | with_reducible refine NoPanic.then ?_ | with_reducible refine NoPanic.inBlock ?_)) (fun hNP => ?_)
                      have hS := hw.drew
                      all_goals (refine at0 0 rfl (fun w' hq => pv_move rfl) ?_)
                      all_goals (refine at0 1 rfl (fun w' hq => pv_eql rfl rfl) ?_)
                      all_goals (refine at0 2 rfl (fun w' hq => pv_move rfl) ?_)
                      all_goals (refine at2 3 rfl rfl rfl (fun w' hq => pv_fa (tF rfl) rfl) ?_)
                      all_goals (refine at2 4 rfl rfl rfl (fun w' hq => pv_load (t1 rfl) rfl (by first | exact PT.ld0 (H7a.mono hq) rfl | exact PT.ld (H7a.mono hq) rfl | exact SlR.ld (HBa.mono hq) hgj rfl | exact SlR.ld1 (HBa.mono hq) hgj rfl | exact PT.ld0 (H12.mono hq) rfl | exact PT.ld (H12.mono hq) rfl)) ?_)
                      all_goals (refine at2 5 rfl rfl rfl (fun w' hq => pv_eql rfl rfl) ?_)
                      all_goals (refine at0 6 rfl (fun w' hq => pv_pick_t rfl (by first | assumption | exact decide_eq_true (by omega) | exact dec_notT (by omega)) rfl) ?_)
                      all_goals (refine at0 7 rfl (fun w' hq => pv_move rfl) ?_)
                      all_goals (refine at2 8 rfl rfl rfl (fun w' hq => pv_fa (tF rfl) rfl) ?_)
                      all_goals (refine at2 9 rfl rfl rfl (fun w' hq => pv_load (t1 rfl) rfl (by first | exact PT.ld0 (H7a.mono hq) rfl | exact PT.ld (H7a.mono hq) rfl | exact SlR.ld (HBa.mono hq) hgj rfl | exact SlR.ld1 (HBa.mono hq) hgj rfl | exact PT.ld0 (H12.mono hq) rfl | exact PT.ld (H12.mono hq) rfl)) ?_)
                      all_goals (refine at2 10 rfl rfl rfl (fun w' hq => pv_move rfl) ?_)
                      all_goals (refine at2 11 rfl rfl rfl (fun w' hq => pv_move rfl) ?_)
                      all_goals (refine at2 12 rfl rfl rfl (fun w' hq => pv_ian (tS rfl) rfl rfl (by omega)) ?_)
                      all_goals (refine at2 13 rfl rfl rfl (fun w' hq => pv_fa (tF rfl) rfl) ?_)
                      all_goals (refine at2 14 rfl rfl rfl (fun w' hq => pv_load (t1 rfl) rfl (by first | exact PT.ld0 (H7a.mono hq) rfl | exact PT.ld (H7a.mono hq) rfl | exact SlR.ld (HBa.mono hq) hgj rfl | exact SlR.ld1 (HBa.mono hq) hgj rfl | exact PT.ld0 (H12.mono hq) rfl | exact PT.ld (H12.mono hq) rfl)) ?_)
                      all_goals (refine at2 15 rfl rfl rfl (fun w' hq => pv_seqlD rfl rfl) ?_)
                      all_goals (refine at0 16 rfl (fun w' hq => pv_pick_t rfl (by first | assumption | exact decide_eq_true (by omega) | exact dec_notT (by omega)) rfl) ?_)
                      all_goals (refine at0 17 rfl (fun w' hq => pv_move rfl) ?_)
                      all_goals (refine an2 18 rfl rfl rfl ?_)
                      all_goals (refine an2 19 rfl rfl rfl ?_)
                      all_goals (refine an2 20 rfl rfl rfl ?_)
                      all_goals (refine an2 21 rfl rfl rfl ?_)
                      all_goals (refine an2 22 rfl rfl rfl ?_)
                      all_goals (refine an2 23 rfl rfl rfl ?_)
                      all_goals first | (refine an3 24 rfl rfl rfl ?_) | (refine an0 24 rfl rfl rfl ?_) | (refine aw_act_g 24 (by kernel_rfl) rfl rfl rfl (by first | rfl | assumption | exact decide_eq_true (by omega) | exact decide_eq_false (by omega) | exact dec_notT (by omega) | exact dec_notF (by omega)) rfl ?_; refine act_call (f := 16) (by kernel_rfl) rfl (lbytes_c (f := g) (by omega) _) ?_; rintro e w1 ⟨rfl, hb⟩; refine ⟨_, rfl, grow_trans hS hb, fun hS => ?_⟩)
                      all_goals (refine an2 25 rfl rfl rfl ?_)
                      all_goals (refine an2 26 rfl rfl rfl ?_)
                      all_goals (refine an0 27 rfl rfl rfl ?_)
                      all_goals (refine an0 28 rfl rfl rfl ?_)
                      all_goals (refine an0 29 rfl rfl rfl ?_)
                      all_goals (refine an2 30 rfl rfl rfl ?_)
                      all_goals (refine at0 31 rfl (fun w' hq => pv_pick_f rfl (by first | assumption | exact decide_eq_false (by omega) | exact dec_notF (by omega)) rfl) ?_)
                      all_goals (refine aw_done (by kernel_rfl) ?_; replace hw := hS; clear hS hNP)
                      skip
                      exact qw_join false (by repeat' (first | exact trivial | refine ⟨rfl, ?_⟩)) ⟨rfl, hw⟩
                  · skip
                    refine cw_drawn (fun w' => Below w12.heap.size w12 w') (by kernel_rfl) (by repeat (first | exact NoPanic.body | with_reducible refine NoPanic.then ?_ | with_reducible refine NoPanic.inBlock ?_)) (fun hNP => ?_)
                    have hS := hw.drew
                    all_goals (refine at0 0 rfl (fun w' hq => pv_move rfl) ?_)
                    all_goals (refine at0 1 rfl (fun w' hq => pv_eql rfl rfl) ?_)
                    all_goals (refine at0 2 rfl (fun w' hq => pv_move rfl) ?_)
                    all_goals (refine at2 3 rfl rfl rfl (fun w' hq => pv_fa (tF rfl) rfl) ?_)
                    all_goals (refine at2 4 rfl rfl rfl (fun w' hq => pv_load (t1 rfl) rfl (by first | exact PT.ld0 (H7a.mono hq) rfl | exact PT.ld (H7a.mono hq) rfl | exact SlR.ld (HBa.mono hq) hgj rfl | exact SlR.ld1 (HBa.mono hq) hgj rfl | exact PT.ld0 (H12.mono hq) rfl | exact PT.ld (H12.mono hq) rfl)) ?_)
                    all_goals (refine at2 5 rfl rfl rfl (fun w' hq => pv_eql rfl rfl) ?_)
                    all_goals (refine at0 6 rfl (fun w' hq => pv_pick_t rfl (by first | assumption | exact decide_eq_true (by omega) | exact dec_notT (by omega)) rfl) ?_)
                    all_goals (refine at0 7 rfl (fun w' hq => pv_move rfl) ?_)
                    all_goals (refine an2 8 rfl rfl rfl ?_)
                    all_goals (refine an2 9 rfl rfl rfl ?_)
                    all_goals (refine an2 10 rfl rfl rfl ?_)
                    all_goals (refine an2 11 rfl rfl rfl ?_)
                    all_goals (refine an2 12 rfl rfl rfl ?_)
                    all_goals (refine an2 13 rfl rfl rfl ?_)
                    all_goals (refine an2 14 rfl rfl rfl ?_)
                    all_goals (refine an2 15 rfl rfl rfl ?_)
                    all_goals (refine at0 16 rfl (fun w' hq => pv_pick_f rfl (by first | assumption | exact decide_eq_false (by omega) | exact dec_notF (by omega)) rfl) ?_)
                    all_goals (refine at0 17 rfl (fun w' hq => pv_move rfl) ?_)
                    all_goals (refine an1 18 rfl rfl rfl rfl ?_)
                    all_goals (refine an1 19 rfl rfl rfl rfl ?_)
                    all_goals (refine an1 20 rfl rfl rfl rfl ?_)
                    all_goals (refine an1 21 rfl rfl rfl rfl ?_)
                    all_goals (refine an1 22 rfl rfl rfl rfl ?_)
                    all_goals (refine an1 23 rfl rfl rfl rfl ?_)
                    all_goals first | (refine an3 24 rfl rfl rfl ?_) | (refine an0 24 rfl rfl rfl ?_) | (refine aw_act_g 24 (by kernel_rfl) rfl rfl rfl (by first | rfl | assumption | exact decide_eq_true (by omega) | exact decide_eq_false (by omega) | exact dec_notT (by omega) | exact dec_notF (by omega)) rfl ?_; refine act_call (f := 16) (by kernel_rfl) rfl (lbytes_c (f := g) (by omega) _) ?_; rintro e w1 ⟨rfl, hb⟩; refine ⟨_, rfl, grow_trans hS hb, fun hS => ?_⟩)
                    all_goals (refine an1 25 rfl rfl rfl rfl ?_)
                    all_goals (refine an1 26 rfl rfl rfl rfl ?_)
                    all_goals (refine an0 27 rfl rfl rfl ?_)
                    all_goals (refine an0 28 rfl rfl rfl ?_)
                    all_goals (refine an0 29 rfl rfl rfl ?_)
                    all_goals (refine an1 30 rfl rfl rfl rfl ?_)
                    all_goals (refine at0 31 rfl (fun w' hq => pv_pick_f rfl rfl rfl) ?_)
                    all_goals (refine aw_done (by kernel_rfl) ?_; replace hw := hS; clear hS hNP)
                    skip
                    exact qw_join false (by repeat' (first | exact trivial | refine ⟨rfl, ?_⟩)) ⟨rfl, hw⟩
                · skip
                  refine cw_drawn (fun w' => Below w12.heap.size w12 w') (by kernel_rfl) (by repeat (first | exact NoPanic.body | with_reducible refine NoPanic.then ?_ | with_reducible refine NoPanic.inBlock ?_)) (fun hNP => ?_)
                  have hS := hw.drew
                  all_goals (refine at0 0 rfl (fun w' hq => pv_move rfl) ?_)
                  all_goals (refine at0 1 rfl (fun w' hq => pv_eql rfl rfl) ?_)
                  all_goals (refine at0 2 rfl (fun w' hq => pv_move rfl) ?_)
                  all_goals (refine an2 3 rfl rfl rfl ?_)
                  all_goals (refine an2 4 rfl rfl rfl ?_)
                  all_goals (refine an2 5 rfl rfl rfl ?_)
                  all_goals (refine at0 6 rfl (fun w' hq => pv_pick_f rfl (by first | assumption | exact decide_eq_false (by omega) | exact dec_notF (by omega)) rfl) ?_)
                  all_goals (refine at0 7 rfl (fun w' hq => pv_move rfl) ?_)
                  all_goals (refine an1 8 rfl rfl rfl rfl ?_)
                  all_goals (refine an1 9 rfl rfl rfl rfl ?_)
                  all_goals (refine an1 10 rfl rfl rfl rfl ?_)
                  all_goals (refine an1 11 rfl rfl rfl rfl ?_)
                  all_goals (refine an1 12 rfl rfl rfl rfl ?_)
                  all_goals (refine an1 13 rfl rfl rfl rfl ?_)
                  all_goals (refine an1 14 rfl rfl rfl rfl ?_)
                  all_goals (refine an1 15 rfl rfl rfl rfl ?_)
                  all_goals (refine at0 16 rfl (fun w' hq => pv_pick_f rfl rfl rfl) ?_)
                  all_goals (refine at0 17 rfl (fun w' hq => pv_move rfl) ?_)
                  all_goals (refine an1 18 rfl rfl rfl rfl ?_)
                  all_goals (refine an1 19 rfl rfl rfl rfl ?_)
                  all_goals (refine an1 20 rfl rfl rfl rfl ?_)
                  all_goals (refine an1 21 rfl rfl rfl rfl ?_)
                  all_goals (refine an1 22 rfl rfl rfl rfl ?_)
                  all_goals (refine an1 23 rfl rfl rfl rfl ?_)
                  all_goals first | (refine an3 24 rfl rfl rfl ?_) | (refine an0 24 rfl rfl rfl ?_) | (refine aw_act_g 24 (by kernel_rfl) rfl rfl rfl (by first | rfl | assumption | exact decide_eq_true (by omega) | exact decide_eq_false (by omega) | exact dec_notT (by omega) | exact dec_notF (by omega)) rfl ?_; refine act_call (f := 16) (by kernel_rfl) rfl (lbytes_c (f := g) (by omega) _) ?_; rintro e w1 ⟨rfl, hb⟩; refine ⟨_, rfl, grow_trans hS hb, fun hS => ?_⟩)
                  all_goals (refine an1 25 rfl rfl rfl rfl ?_)
                  all_goals (refine an1 26 rfl rfl rfl rfl ?_)
                  all_goals (refine an0 27 rfl rfl rfl ?_)
                  all_goals (refine an0 28 rfl rfl rfl ?_)
                  all_goals (refine an0 29 rfl rfl rfl ?_)
                  all_goals (refine an1 30 rfl rfl rfl rfl ?_)
                  all_goals (refine at0 31 rfl (fun w' hq => pv_pick_f rfl rfl rfl) ?_)
                  all_goals (refine aw_done (by kernel_rfl) ?_; replace hw := hS; clear hS hNP)
                  skip
                  exact qw_join false (by repeat' (first | exact trivial | refine ⟨rfl, ?_⟩)) ⟨rfl, hw⟩
              · clear hw
                rintro c wr ⟨rfl, hw⟩
                repeat' (first | (refine lw_pure rfl (pv_move rfl) ?_) | (refine lw_pure rfl (pv_assign rfl) ?_) | (refine is_cw ?_; first | (refine cw_region ?_) | (refine cw_false rfl rfl ?_) | (refine cw_skip ?_)) | (refine is_qw ?_; first | (with_reducible refine qw_then ?_) | (with_reducible refine qw_in ?_)) | (refine lw_nil ?_) | ((refine is_bin ?_; first | (refine lw_pure rfl (pv_inc rfl rfl (by omega)) ?_))))
                exact qw_round (j + 1) (by repeat' (first | exact trivial | refine ⟨rfl, ?_⟩)) ⟨by show j + 1 ≤ _; omega, grow_trans hw2 hw⟩ (by show d.fs.length - (j + 1) < d.fs.length - j; omega)
        · repeat' (first | (refine lw_pure rfl (pv_move rfl) ?_) | (refine lw_pure rfl (pv_assign rfl) ?_) | (refine is_cw ?_; first | (refine cw_seq ?_) | (refine cw_region ?_) | (refine cw_false rfl (by first | assumption | exact decide_eq_false (by omega) | exact dec_notF (by omega)) ?_) | (refine cw_exit ?_)) | (refine is_qw ?_; first | (with_reducible refine qw_then ?_) | (with_reducible refine qw_in ?_) | (with_reducible refine qw_in_hit ?_) | (with_reducible refine qw_then_exit ?_)) | (refine lw_nil ?_) | ((refine is_bin ?_; first | (refine lw_pure rfl (pv_lss rfl rfl) ?_) | (refine lw_pure rfl (pv_inc rfl rfl (by omega)) ?_))) | ((refine is_bi ?_; first | (refine lw_pure rfl (pv_lenl (tS rfl) rfl) ?_))))
          exact qw_round (k + 1, d2) (by repeat' (first | exact trivial | refine ⟨rfl, ?_⟩)) ⟨by show k + 1 ≤ _; omega, grow_trans hw1 hw, hD.mono hw, hF2⟩ (by show xs.length - (k + 1) < xs.length - k; omega)
    · repeat' (first | (refine lw_pure rfl (pv_move rfl) ?_) | (refine is_cw ?_; first | (refine cw_seq ?_) | (refine cw_region ?_) | (refine cw_false rfl (by first | assumption | exact decide_eq_false (by omega) | exact dec_notF (by omega)) ?_) | (refine cw_exit ?_)) | (refine is_qw ?_; first | (with_reducible refine qw_then ?_) | (with_reducible refine qw_in_hit ?_) | (with_reducible refine qw_then_exit ?_)) | (refine lw_nil ?_) | ((refine is_bin ?_; first | (refine lw_pure rfl (pv_lss rfl rfl) ?_))) | ((refine is_bi ?_; first | (refine lw_pure rfl (pv_lenl (tS rfl) rfl) ?_))))
      clear hk1 hlt
      refine lw_call (f := 13) (by kernel_rfl) rfl rfl (files_c hD) ?_; rintro e w8 ⟨⟨v8, rfl, hO8⟩, hb⟩; refine ⟨_, rfl, ?_⟩
      have l1 := hD.lt
      replace hD := hD.mono hb
      obtain ⟨ba, bc, rfl, HB, hBn⟩ := Own.slR encF_len hO8
      have q8 : ∀ y, ba = some y → y.block ≠ N ∧ y.block ≠ B := fun y hy => by have := (hBn y hy).1; exact ⟨by omega, by omega⟩
      replace hw := grow_trans hw hb
      clear hb l1 hO8 hBn
      repeat' (first | (refine lw_pure rfl (pv_move rfl) ?_) | (refine lw_pure rfl (pv_assign rfl) ?_) | (refine is_cw ?_; first | (refine cw_seq ?_) | (refine cw_region ?_)) | (refine is_qw ?_; first | (with_reducible refine qw_then ?_)) | (refine lw_nil ?_))
      refine lw_call (f := 17) (by kernel_rfl) rfl rfl (crash_is hD rfl (HK.mono hw) (fun y hy => by have := hbl y hy; omega) rfl) ?_; clear hD; rintro e w9 ⟨rfl, hD, hG⟩; refine ⟨_, rfl, ?_⟩
      replace HB := HB.gw hG q8
      replace hw := hG.below hw hN hB
      clear hG
      repeat' (first | (refine lw_pure rfl (pv_move rfl) ?_) | (refine is_cw ?_; first | (refine cw_seq ?_) | (refine cw_region ?_) | (refine cw_false rfl rfl ?_) | (refine cw_skip ?_)) | (refine is_qw ?_; first | (with_reducible refine qw_then ?_)) | (refine lw_nil ?_) | ((refine is_bin ?_; first | (refine lw_pure rfl (pv_neq rfl rfl) ?_))))
      refine lw_call (f := 13) (by kernel_rfl) rfl rfl (files_c hD) ?_; rintro e w10 ⟨⟨v10, rfl, hO10⟩, hb⟩; refine ⟨_, rfl, ?_⟩
      replace HB := HB.mono hb
      obtain ⟨aa, ac, rfl, HC, -⟩ := Own.slR encF_len hO10
      replace hw := grow_trans hw hb
      clear hb hO10 hD
      replace HC : SlR encF 3 w10 aa ac (crashF d.fs ks) := HC
      have hcl : (crashD d ks).fs.length = d.fs.length := crashF_len _ _
      have hBm := HB.max
      have hBl := HB.le
      have hCm := HC.max
      repeat' (first | (refine lw_pure rfl (pv_move rfl) ?_) | (refine lw_pure rfl (pv_assign rfl) ?_) | (refine is_cw ?_; first | (refine cw_seq ?_) | (refine cw_region ?_) | (refine cw_false rfl (by first | assumption | exact decide_eq_false (by omega) | exact dec_notF (by omega)) ?_) | (refine cw_skip ?_) | (refine cw_block ?_)) | (refine is_qw ?_; first | (with_reducible refine qw_then ?_)) | (refine lw_nil ?_) | ((refine is_bin ?_; first | (refine lw_pure rfl (pv_neq rfl rfl) ?_))) | ((refine is_bi ?_; first | (refine lw_pure rfl (pv_lenl (tS rfl) rfl) ?_))))
      have HK2 := HK.mono hw
      have hw1 := hw
      clear hw
      have hw := Below.refl w10.heap.size w10
      refine cw_loop (σ := Nat × Nat) (fun s => [(1, .slice b ks.length cb), (15, .slice ba d.fs.length bc), (16, .slice aa (crashD d ks).fs.length ac), (17, .int .i64 (s.2 : Nat)), (18, .int .i64 (s.1 : Nat))]) (fun s wr => s.1 ≤ d.fs.length ∧ s.2 = turnsF (d.fs.take s.1) ∧ s.2 ≤ s.1 ∧ Below w10.heap.size w10 wr) (fun s => d.fs.length - s.1) (0, 0) (by repeat' (first | exact trivial | refine ⟨rfl, ?_⟩)) ⟨Nat.zero_le _, rfl, Nat.le_refl _, hw⟩ ?_
      clear hw
      rintro ⟨i, t⟩ wr ⟨hi1, ht, hti, hw⟩
      replace hi1 : i ≤ d.fs.length := hi1
      replace ht : t = turnsF (d.fs.take i) := ht
      replace hti : t ≤ i := hti
      change CW Tryd.prog _ _ _ [(1, .slice b ks.length cb), (15, .slice ba d.fs.length bc), (16, .slice aa (crashD d ks).fs.length ac), (17, .int .i64 (t : Nat)), (18, .int .i64 (i : Nat))] wr
      by_cases hli : i < d.fs.length
      · have hgi : d.fs[i]? = some d.fs[i] := List.getElem?_eq_getElem hli
        generalize d.fs[i] = g at hgi
        have hsg := hF.ok.sizes g (List.mem_of_getElem? hgi)
        have hsz : g.firm.size + g.pend.size ≤ 1048576 := hsg
        have hca := crashF_at d.fs ks i hgi
        have hts := turns_succ d.fs i hgi
        rw [← ht] at hca hts
        generalize hcd : (if g.pend.size = 0 then g else firmF g (ks.drop t)) = c at hca
        obtain ⟨bb, bo, rfl, -, -⟩ := HB.at (by intro h; rw [h] at hli; simp at hli)
        obtain ⟨eb, eo, rfl, -, -⟩ := HC.at (by intro h; have h9 : (crashF d.fs ks).length = d.fs.length := hcl; rw [h] at h9; simp at h9; omega)
        repeat' ((fail_if_success (refine is_seqr 32 ?_)); first | (refine lw_pure rfl (pv_move rfl) ?_) | (refine lw_pure rfl (pv_assign rfl) ?_) | (refine is_cw ?_; first | (refine cw_seq ?_) | (refine cw_region ?_) | (refine cw_true rfl (by first | assumption | exact decide_eq_true (by omega) | exact dec_notT (by omega)) ?_) | (refine cw_skip ?_) | (refine cw_block ?_)) | (refine is_qw ?_; first | (with_reducible refine qw_then ?_)) | (refine lw_nil ?_) | ((refine is_bin ?_; first | (refine lw_pure rfl (pv_lss rfl rfl) ?_))) | ((refine is_bi ?_; first | (refine lw_pure rfl (pv_lenl (tS rfl) rfl) ?_))))
        refine cw_cutq (σ := Int × Nat) (fun s => [(1, .slice b ks.length cb), (15, .slice (some ⟨bb, bo, none⟩) d.fs.length bc), (16, .slice (some ⟨eb, eo, none⟩) (crashD d ks).fs.length ac), (17, .int .i64 (s.2 : Nat)), (18, .int .i64 (i : Nat)), (19, .int .u64 s.1)]) (fun s wr => FirmC g c s.1 ∧ s.2 = turnsF (d.fs.take (i + 1)) ∧ s.2 ≤ i + 1 ∧ Below w10.heap.size w10 wr) ?_ ?_
        · by_cases hp0 : g.pend.size = 0
          · have hpe : g.pend = emptyB := emp_of hp0
            have hE : (!decide (g.pend = (⟨#[]⟩ : ByteArray))) = false := by rw [hpe]; rfl
            rw [if_pos hp0] at hcd hts
            subst hcd
            repeat' (first | (refine lw_pure rfl (pv_move rfl) ?_) | (refine is_cw ?_; first | (refine cw_seq ?_) | (refine cw_region ?_) | (refine cw_false rfl (by first | assumption | exact decide_eq_false (by omega) | exact dec_notF (by omega)) ?_) | (refine cw_skip ?_)) | (refine is_qw ?_; first | (with_reducible refine qw_then ?_)) | (refine lw_nil ?_) | ((refine is_bin ?_; first | (refine lw_pure rfl (pv_sneqD rfl rfl) ?_))) | ((refine is_load ?_; first | (refine lw_pure rfl (pv_load (t1 rfl) rfl (by first | exact SlR.ld (HB.mono hw) hgi rfl | exact SlR.ld1 (HB.mono hw) hgi rfl)) ?_))) | ((refine is_fa ?_; first | (refine lw_pure rfl (pv_fa (tF rfl) rfl) ?_))) | ((refine is_ia ?_; first | (refine lw_pure rfl (pv_ian (tS rfl) rfl rfl (by omega)) ?_))))
            exact qw_join (0, t) (by repeat' (first | exact trivial | refine ⟨rfl, ?_⟩)) ⟨⟨Int.le_refl _, by show (0 : Int) ≤ _; omega, rfl, hpe, (ext00 _ _).symm⟩, hts.symm, Nat.le_succ_of_le hti, hw⟩
          · have hE : (!decide (g.pend = (⟨#[]⟩ : ByteArray))) = true := by rw [decide_eq_false (fun e => hp0 (by rw [e]; rfl))]; rfl
            rw [if_neg hp0] at hcd hts
            subst hcd
            by_cases htl : t < ks.length
            · have hkt : ks[t]? = some ks[t] := List.getElem?_eq_getElem htl
              have hdr : ks.drop t = ks[t] :: ks.drop (t + 1) := List.drop_eq_getElem_cons htl
              rw [hdr]
              generalize ks[t] = v at hkt
              obtain ⟨kb, ko, rfl, -, -⟩ := HK2.at (by intro h; rw [h] at htl; simp at htl)
              have hn0 := Int.emod_nonneg (v % 18446744073709551616) (show (g.pend.size : Int) + 1 ≠ 0 by omega)
              have hn1 := Int.emod_lt_of_pos (v % 18446744073709551616) (show 0 < (g.pend.size : Int) + 1 by omega)
              repeat' (first | (refine lw_pure rfl (pv_move rfl) ?_) | (refine is_cw ?_; first | (refine cw_seq ?_) | (refine cw_region ?_) | (refine cw_true rfl (by first | assumption | exact decide_eq_true (by omega) | exact dec_notT (by omega)) ?_)) | (refine is_qw ?_; first | (with_reducible refine qw_then ?_)) | (refine lw_nil ?_) | ((refine is_bin ?_; first | (refine lw_pure rfl (pv_lss rfl rfl) ?_) | (refine lw_pure rfl (pv_sneqD rfl rfl) ?_))) | ((refine is_load ?_; first | (refine lw_pure rfl (pv_load (t1 rfl) rfl (by first | exact SlR.ld (HB.mono hw) hgi rfl | exact SlR.ld1 (HB.mono hw) hgi rfl)) ?_))) | ((refine is_fa ?_; first | (refine lw_pure rfl (pv_fa (tF rfl) rfl) ?_))) | ((refine is_ia ?_; first | (refine lw_pure rfl (pv_ian (tS rfl) rfl rfl (by omega)) ?_))) | ((refine is_bi ?_; first | (refine lw_pure rfl (pv_lenl (tS rfl) rfl) ?_))))
              refine cw_drawn (fun w' => Below w10.heap.size w10 w') (by kernel_rfl) (by repeat (first | exact NoPanic.body | with_reducible refine NoPanic.then ?_ | with_reducible refine NoPanic.inBlock ?_)) (fun hNP => ?_)
              have hS := hw.drew
              (refine at0 0 rfl (fun w' hq => pv_move rfl) ?_)
              (refine at0 1 rfl (fun w' hq => pv_move rfl) ?_)
              (refine at0 2 rfl (fun w' hq => pv_ian (tS rfl) rfl rfl (by omega)) ?_)
              (refine at0 3 rfl (fun w' hq => pv_load (t1 rfl) rfl (by first | exact SlR.ld (HB.mono hq) hgi rfl | exact SlR.ld1 (HB.mono hq) hgi rfl | exact SlR.ld (HK2.mono hq) hkt rfl | exact SlR.ld1 (HK2.mono hq) hkt rfl)) ?_)
              (refine at0 4 rfl (fun w' hq => pv_convm (tCv rfl rfl) rfl) ?_)
              (refine at0 5 rfl (fun w' hq => pv_move rfl) ?_)
              (refine at0 6 rfl (fun w' hq => pv_move rfl) ?_)
              (refine at0 7 rfl (fun w' hq => pv_ian (tS rfl) rfl rfl (by omega)) ?_)
              (refine at0 8 rfl (fun w' hq => pv_fa (tF rfl) rfl) ?_)
              (refine at0 9 rfl (fun w' hq => pv_load (t1 rfl) rfl (by first | exact SlR.ld (HB.mono hq) hgi rfl | exact SlR.ld1 (HB.mono hq) hgi rfl | exact SlR.ld (HK2.mono hq) hkt rfl | exact SlR.ld1 (HK2.mono hq) hkt rfl)) ?_)
              (refine at0 10 rfl (fun w' hq => pv_lens (tStr rfl) rfl) ?_)
              (refine at0 11 rfl (fun w' hq => pv_inc rfl rfl (by omega)) ?_)
              (refine at0 12 rfl (fun w' hq => pv_convu (tCv rfl rfl) rfl (by omega)) ?_)
              (refine at0 13 rfl (fun w' hq => pv_remu rfl rfl (by omega)) ?_)
              (refine at0 14 rfl (fun w' hq => pv_assign rfl) ?_)
              refine aw_done (by kernel_rfl) ?_
              replace hw := hS; clear hS hNP
              repeat' (first | (refine lw_pure rfl (pv_move rfl) ?_) | (refine lw_pure rfl (pv_assign rfl) ?_) | (refine is_cw ?_; first | (refine cw_region ?_)) | (refine is_qw ?_; first | (with_reducible refine qw_then ?_)) | (refine lw_nil ?_) | ((refine is_bin ?_; first | (refine lw_pure rfl (pv_inc rfl rfl (by omega)) ?_))))
              exact qw_join ((v % 18446744073709551616) % ((g.pend.size : Int) + 1), t + 1) (by repeat' (first | exact trivial | refine ⟨rfl, ?_⟩)) ⟨⟨hn0, by show v % 18446744073709551616 % ((g.pend.size : Int) + 1) ≤ _; omega, rfl, rfl, rfl⟩, hts.symm, Nat.succ_le_succ hti, hw⟩
            · have hdr : ks.drop t = [] := List.drop_eq_nil_of_le (by omega)
              rw [hdr]
              repeat' (first | (refine lw_pure rfl (pv_move rfl) ?_) | (refine lw_pure rfl (pv_assign rfl) ?_) | (refine is_cw ?_; first | (refine cw_seq ?_) | (refine cw_region ?_) | (refine cw_true rfl (by first | assumption | exact decide_eq_true (by omega) | exact dec_notT (by omega)) ?_) | (refine cw_false rfl (by first | assumption | exact decide_eq_false (by omega) | exact dec_notF (by omega)) ?_) | (refine cw_skip ?_)) | (refine is_qw ?_; first | (with_reducible refine qw_then ?_)) | (refine lw_nil ?_) | ((refine is_bin ?_; first | (refine lw_pure rfl (pv_lss rfl rfl) ?_) | (refine lw_pure rfl (pv_inc rfl rfl (by omega)) ?_) | (refine lw_pure rfl (pv_sneqD rfl rfl) ?_))) | ((refine is_load ?_; first | (refine lw_pure rfl (pv_load (t1 rfl) rfl (by first | exact SlR.ld (HB.mono hw) hgi rfl | exact SlR.ld1 (HB.mono hw) hgi rfl)) ?_))) | ((refine is_fa ?_; first | (refine lw_pure rfl (pv_fa (tF rfl) rfl) ?_))) | ((refine is_ia ?_; first | (refine lw_pure rfl (pv_ian (tS rfl) rfl rfl (by omega)) ?_))) | ((refine is_bi ?_; first | (refine lw_pure rfl (pv_lenl (tS rfl) rfl) ?_))))
              exact qw_join (0, t + 1) (by repeat' (first | exact trivial | refine ⟨rfl, ?_⟩)) ⟨⟨Int.le_refl _, by show (0 : Int) ≤ _; omega, rfl, rfl, rfl⟩, hts.symm, Nat.succ_le_succ hti, hw⟩
        · clear hw
          rintro ⟨n, t2⟩ wr ⟨hc, ht2, ht3, hw⟩
          replace hc : FirmC g c n := hc
          replace ht2 : t2 = turnsF (d.fs.take (i + 1)) := ht2
          replace ht3 : t2 ≤ i + 1 := ht3
          change CW Tryd.prog _ _ _ [(1, .slice b ks.length cb), (15, .slice (some ⟨bb, bo, none⟩) d.fs.length bc), (16, .slice (some ⟨eb, eo, none⟩) (crashD d ks).fs.length ac), (17, .int .i64 (t2 : Nat)), (18, .int .i64 (i : Nat)), (19, .int .u64 n)] wr
          have hk : 0 ≤ n ∧ n ≤ g.pend.size := ⟨hc.lo, hc.hi⟩
          have hcat : g.firm.size + (g.pend.extract 0 n.toNat).size ≤ 9223372036854775807 := by rw [size_extract0]; omega
          have hE1 : (!decide (c.name = g.name)) = false := by rw [decide_eq_true hc.nm]; rfl
          have hE2 : (!decide (c.pend = (⟨#[]⟩ : ByteArray))) = false := by rw [hc.pd]; rfl
          have hE3 : (!decide (c.firm = g.firm ++ g.pend.extract 0 n.toNat)) = false := by rw [decide_eq_true hc.fm]; rfl
          repeat' (first | (refine is_cw ?_; first | (refine cw_seq ?_)))
          refine cw_drawn (fun w' => Below w10.heap.size w10 w') (by kernel_rfl) (by repeat (first | exact NoPanic.body | with_reducible refine NoPanic.then ?_ | with_reducible refine NoPanic.inBlock ?_)) (fun hNP => ?_)
          have hS := hw.drew
          all_goals (refine at0 0 rfl (fun w' hq => pv_move rfl) ?_)
          all_goals (refine at0 1 rfl (fun w' hq => pv_move rfl) ?_)
          all_goals (refine at0 2 rfl (fun w' hq => pv_ian (tS rfl) rfl rfl (by omega)) ?_)
          all_goals (refine at0 3 rfl (fun w' hq => pv_fa (tF rfl) rfl) ?_)
          all_goals (refine at0 4 rfl (fun w' hq => pv_load (t1 rfl) rfl (by first | exact SlR.ld (HB.mono hq) hgi rfl | exact SlR.ld1 (HB.mono hq) hgi rfl | exact SlR.ld (HC.mono hq) hca rfl | exact SlR.ld1 (HC.mono hq) hca rfl)) ?_)
          all_goals (refine at0 5 rfl (fun w' hq => pv_move rfl) ?_)
          all_goals (refine at0 6 rfl (fun w' hq => pv_move rfl) ?_)
          all_goals (refine at0 7 rfl (fun w' hq => pv_ian (tS rfl) rfl rfl (by omega)) ?_)
          all_goals (refine at0 8 rfl (fun w' hq => pv_fa (tF rfl) rfl) ?_)
          all_goals (refine at0 9 rfl (fun w' hq => pv_load (t1 rfl) rfl (by first | exact SlR.ld (HB.mono hq) hgi rfl | exact SlR.ld1 (HB.mono hq) hgi rfl | exact SlR.ld (HC.mono hq) hca rfl | exact SlR.ld1 (HC.mono hq) hca rfl)) ?_)
          all_goals (refine at0 10 rfl (fun w' hq => pv_sneqD rfl rfl) ?_)
          all_goals (refine at0 11 rfl (fun w' hq => pv_move rfl) ?_)
          all_goals (refine at2 12 rfl rfl rfl (fun w' hq => pv_move rfl) ?_)
          all_goals (refine at2 13 rfl rfl rfl (fun w' hq => pv_move rfl) ?_)
          all_goals (refine at2 14 rfl rfl rfl (fun w' hq => pv_ian (tS rfl) rfl rfl (by omega)) ?_)
          all_goals (refine at2 15 rfl rfl rfl (fun w' hq => pv_fa (tF rfl) rfl) ?_)
          all_goals (refine at2 16 rfl rfl rfl (fun w' hq => pv_load (t1 rfl) rfl (by first | exact SlR.ld (HB.mono hq) hgi rfl | exact SlR.ld1 (HB.mono hq) hgi rfl | exact SlR.ld (HC.mono hq) hca rfl | exact SlR.ld1 (HC.mono hq) hca rfl)) ?_)
          all_goals (refine at2 17 rfl rfl rfl (fun w' hq => pv_sneqD rfl rfl) ?_)
          all_goals (refine at0 18 rfl (fun w' hq => pv_pick_f rfl (by first | assumption | exact decide_eq_false (by omega) | exact dec_notF (by omega)) rfl) ?_)
          all_goals (refine at0 19 rfl (fun w' hq => pv_move rfl) ?_)
          all_goals (refine at2 20 rfl rfl rfl (fun w' hq => pv_move rfl) ?_)
          all_goals (refine at2 21 rfl rfl rfl (fun w' hq => pv_move rfl) ?_)
          all_goals (refine at2 22 rfl rfl rfl (fun w' hq => pv_ian (tS rfl) rfl rfl (by omega)) ?_)
          all_goals (refine at2 23 rfl rfl rfl (fun w' hq => pv_fa (tF rfl) rfl) ?_)
          all_goals (refine at2 24 rfl rfl rfl (fun w' hq => pv_load (t1 rfl) rfl (by first | exact SlR.ld (HB.mono hq) hgi rfl | exact SlR.ld1 (HB.mono hq) hgi rfl | exact SlR.ld (HC.mono hq) hca rfl | exact SlR.ld1 (HC.mono hq) hca rfl)) ?_)
          all_goals (refine at2 25 rfl rfl rfl (fun w' hq => pv_move rfl) ?_)
          all_goals (refine at2 26 rfl rfl rfl (fun w' hq => pv_move rfl) ?_)
          all_goals (refine at2 27 rfl rfl rfl (fun w' hq => pv_ian (tS rfl) rfl rfl (by omega)) ?_)
          all_goals (refine at2 28 rfl rfl rfl (fun w' hq => pv_fa (tF rfl) rfl) ?_)
          all_goals (refine at2 29 rfl rfl rfl (fun w' hq => pv_load (t1 rfl) rfl (by first | exact SlR.ld (HB.mono hq) hgi rfl | exact SlR.ld1 (HB.mono hq) hgi rfl | exact SlR.ld (HC.mono hq) hca rfl | exact SlR.ld1 (HC.mono hq) hca rfl)) ?_)
          all_goals (refine at2 30 rfl rfl rfl (fun w' hq => pv_move rfl) ?_)
          all_goals (refine at2 31 rfl rfl rfl (fun w' hq => pv_move rfl) ?_)
          all_goals (refine at2 32 rfl rfl rfl (fun w' hq => pv_ian (tS rfl) rfl rfl (by omega)) ?_)
          all_goals (refine at2 33 rfl rfl rfl (fun w' hq => pv_fa (tF rfl) rfl) ?_)
          all_goals (refine at2 34 rfl rfl rfl (fun w' hq => pv_load (t1 rfl) rfl (by first | exact SlR.ld (HB.mono hq) hgi rfl | exact SlR.ld1 (HB.mono hq) hgi rfl | exact SlR.ld (HC.mono hq) hca rfl | exact SlR.ld1 (HC.mono hq) hca rfl)) ?_)
          all_goals (refine at2 35 rfl rfl rfl (fun w' hq => pv_move rfl) ?_)
          all_goals (refine at2 36 rfl rfl rfl (fun w' hq => pv_sleft (tStr rfl) rfl rfl hk) ?_)
          all_goals (refine at2 37 rfl rfl rfl (fun w' hq => pv_cat rfl rfl hcat) ?_)
          all_goals (refine at2 38 rfl rfl rfl (fun w' hq => pv_sneqD rfl rfl) ?_)
          all_goals (refine at0 39 rfl (fun w' hq => pv_pick_f rfl (by first | assumption | exact decide_eq_false (by omega) | exact dec_notF (by omega)) rfl) ?_)
          all_goals (refine aw_done (by kernel_rfl) ?_; replace hw := hS; clear hS hNP)
          repeat' (first | (refine lw_pure rfl (pv_move rfl) ?_) | (refine lw_pure rfl (pv_assign rfl) ?_) | (refine is_cw ?_; first | (refine cw_region ?_) | (refine cw_false rfl (by first | assumption | exact decide_eq_false (by omega) | exact dec_notF (by omega)) ?_) | (refine cw_skip ?_)) | (refine is_qw ?_; first | (with_reducible refine qw_then ?_) | (with_reducible refine qw_in ?_)) | (refine lw_nil ?_) | ((refine is_bin ?_; first | (refine lw_pure rfl (pv_inc rfl rfl (by omega)) ?_))))
          exact qw_round (i + 1, t2) (by repeat' (first | exact trivial | refine ⟨rfl, ?_⟩)) ⟨by show i + 1 ≤ _; omega, ht2, ht3, hw⟩ (by show d.fs.length - (i + 1) < d.fs.length - i; omega)
      · repeat' (first | (refine lw_pure rfl (pv_move rfl) ?_) | (refine lw_pure rfl (pv_assign rfl) ?_) | (refine is_cw ?_; first | (refine cw_seq ?_) | (refine cw_region ?_) | (refine cw_false rfl (by first | assumption | exact decide_eq_false (by omega) | exact dec_notF (by omega)) ?_) | (refine cw_exit ?_) | (refine cw_ret ?_)) | (refine is_qw ?_; first | (with_reducible refine qw_then ?_) | (with_reducible refine qw_in_hit ?_) | (with_reducible refine qw_then_exit ?_)) | (refine lw_nil ?_) | ((refine is_bin ?_; first | (refine lw_pure rfl (pv_lss rfl rfl) ?_))) | ((refine is_bi ?_; first | (refine lw_pure rfl (pv_lenl (tS rfl) rfl) ?_))))
        exact qw_ret1 rfl rfl ⟨rfl, grow_trans hw1 hw⟩
end Go.Proofs.YtncicecmhibpcaaDoor
namespace Go.Proofs.YtncicecmhibpcaaDoor
open Go.ChangeShapes Go.WideShapes Go.ChangeAt Go.RowKit

set_option maxRecDepth 100000 in
theorem diskFirm_lifted (os : Os) (started : os.Started) (H : Type) (enc : TypeId × Value → H) :
    ReturnsInHanded {} Tryd.checked os 3 .any (fun w args => (Rows.diskFirmSpec.pre enc Tryd.prog Tryd.f3 [] false w args ∧ laidMetH Tryd.prog Rows.diskFirmRow.laid w) ∧ sizedMet enc Tryd.prog Tryd.f3 (OpenSpec.ofChange Rows.diskFirmSpec) false w args)
      (Rows.diskFirmSpec.post enc Tryd.prog Tryd.f3 false true false false) := by
  refine returnsInHanded_of_change_and (C := Tryd.checked) (X := fun w _ => laidMetH Tryd.prog Rows.diskFirmRow.laid w) (fun _ _ _ hh h => h.of_heap hh) seatOwn started (by kernel_rfl) Tryd.func3
    (ChangeSpec.witness_shaped (enc := enc) (C := Tryd.checked) (os := os) (X := fun w _ => laidMetH Tryd.prog Rows.diskFirmRow.laid w) false (World.laidAll Tryd.prog os seatLaid) #[.slice none 0 0, .slice none 0 0] 8 (World.laidAll_os _ _ _) (World.shaped_of_ZipB (by kernel_rfl) (by kernel_rfl)) (by kernel_rfl) (by kernel_rfl) (by kernel_rfl) (door_met os _)) ?_
  intro W base args ds gs before hval0 hW _ _ hL _
  have hval : ∀ (j : Nat) t v, Tryd.f3.params[j]? = some t → args[j]? = some v → Value.okWide Tryd.prog W .any base t v := hval0
  have hW' := hW
  obtain ⟨p, q, hA0, hV, hpq, hfz, hnd⟩ := hW
  have hA : DataW.TrodAll enc Tryd.prog W 0 (fun _ => true) true Tryd.f3.params.toList args.toList ds p := hA0
  rw [Tryd.params3] at hA hval
  obtain ⟨args⟩ := args
  have hA1 : DataW.TrodAll enc Tryd.prog W 0 (fun _ => true) true _ args ds p := hA
  clear hA
  obtain ⟨v0, vs0, d0, ds0, p0, q0, hv0, hd0, hp0, h0, hr0⟩ := trodAll_cons hA1
  obtain ⟨v1, vs1, d1, ds1, p1, q1, hv1, hd1, hp1, h1, hr1⟩ := trodAll_cons hr0
  obtain ⟨hvn, hdn, hpn⟩ := trodAll_nil hr1
  subst hvn hdn hpn
  subst hv1 hd1 hp1
  subst hv0 hd0 hp0
  obtain ⟨rfl, rfl⟩ := trodVars_none hV
  obtain ⟨xxa, xxc, xx, rfl, xxs, xxb⟩ := ops_open (hval 0 _ v0 rfl rfl) h0
  obtain ⟨kka, kkc, kk, kke, kks, -⟩ := ints_open (hval 1 _ v1 rfl rfl) h1; have kkl := keep_lt (hval 1 _ v1 rfl rfl) kke; subst kke
  clear hL
  subst hpq
  refine (firmlaw_c rfl rfl xxs kks kkl xxb).mono fun e W' ⟨he, hw⟩ => ?_
  subst he
  have hB := below_trodAll hw (by decide +kernel) hA1
  rw [← Tryd.params3] at hB
  exact ⟨_, rfl, _, _, _, [], _, [], hW', trodAll_mk1 (shut_bool Tryd.underlying4 true), hB, rfl, hw.frame _, fun h => by cases h⟩
theorem diskFirm_holds : Rows.DiskFirmSaid :=
  OpenClaim.holds_of_wide 3 Tryd.f3 rfl rfl rfl rfl rfl rfl rfl ⟨rfl, rfl, rfl, rfl, rfl⟩ rfl rfl rfl rfl rfl (by kernel_rfl) Tryd.func3 (by kernel_rfl)
    (of_decide_eq_true (by kernel_rfl)) (by unfold Func.isWrapper; first | (rw [if_pos (by decide +kernel)]; kernel_rfl) | (rw [if_neg (by decide +kernel)]; exact ⟨rfl, rfl⟩))
    (fun os started H enc _ => diskFirm_lifted os started H enc)
theorem diskFirm_card : Rows.DiskFirmCardSaid :=
  Claim7.holds_tied_plain_at .later [] [.data, .pinned] true (true, "79b72f06149c7553d9b585f3288860acabfcbb772ee7816aa2474633bacae2cd") true
    diskFirm_holds (fun _ h => by cases h) (by kernel_rfl) (fun _ h => by cases h) diskFirm_row_tie rfl ⟨rfl, rfl⟩ (by kernel_rfl) rfl
    (fun f fn hf hfn => by
      obtain rfl : f = 3 := Option.some.inj ((show Tryd.prog.funcNamed Rows.diskFirmRow.func = some 3 by kernel_rfl).symm.trans hf) |>.symm
      obtain rfl : fn = Tryd.f3 := (Option.some.inj (Tryd.func3.symm.trans hfn)).symm
      exact ⟨by kernel_rfl, fun j t ht => by
        have hall : (Tryd.f3.params.toList.all fun u => !Tryd.prog.wantsStandIn u) = true := by kernel_rfl
        have hm : t ∈ Tryd.f3.params.toList := Array.mem_toList_iff.2 (Array.mem_of_getElem? ht)
        exact (show Tryd.prog.wantsStandIn t = false by simpa using List.all_eq_true.1 hall t hm)⟩)
    (by kernel_rfl)
#print axioms diskFirm_card
end Go.Proofs.YtncicecmhibpcaaDoor
