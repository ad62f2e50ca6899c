/-
  Part 4 of the texts of: DiskRuns: its row and its card: whatever the input: true; the input reads as it did. Conditions: what the row prints (the table of functions reads as the program's text lays it).
-/
import Derived.Test.YtncicecmhibpcaaGreatDoorZA3
namespace Go.Proofs.YtncicecmhibpcaaGreatDoor
open Go.RowKit Go.PlainAid

section
variable {w : World} {N B : Nat} {d d' : Dsk} {n t b : ByteArray} {k q : Int}
theorem create_is (h : DkW w N B d) (hn : n.size ≤ 9223372036854775807) (hr : createD d n = (k, d')) : Calls Tryz.prog 15 #[.pointer (some ⟨N, 0, none⟩), .string n] w fun e w' => e = .returned (.int .i64 k) ∧ DkW w' N B d' ∧ Gw N B w w' := by
  have := create_c h hn; rw [hr] at this; exact this
theorem append_is (h : DkW w N B d) (hn : n.size ≤ 9223372036854775807) (hr : appendD d n b = (k, d')) : Calls Tryz.prog 16 #[.pointer (some ⟨N, 0, none⟩), .string n, .string b] w fun e w' => e = .returned (.int .i64 k) ∧ DkW w' N B d' ∧ Gw N B w w' := by
  have := append_c (b := b) h hn; rw [hr] at this; exact this
theorem sync_is (h : DkW w N B d) (hn : n.size ≤ 9223372036854775807) (hr : syncD d n = (k, d')) : Calls Tryz.prog 17 #[.pointer (some ⟨N, 0, none⟩), .string n] w fun e w' => e = .returned (.int .i64 k) ∧ DkW w' N B d' ∧ Gw N B w w' := by
  have := sync_c h hn; rw [hr] at this; exact this
theorem trim_is (h : DkW w N B d) (hn : n.size ≤ 9223372036854775807) (hr : trimD d n q = (k, d')) : Calls Tryz.prog 24 #[.pointer (some ⟨N, 0, none⟩), .string n, .int .i64 q] w fun e w' => e = .returned (.int .i64 k) ∧ DkW w' N B d' ∧ Gw N B w w' := by
  have := dtrim_c h hn q; rw [hr] at this; exact this
theorem rename_is (h : DkW w N B d) (hn : n.size ≤ 9223372036854775807) (ht : t.size ≤ 9223372036854775807) (hr : renameD d n t = (k, d')) : Calls Tryz.prog 23 #[.pointer (some ⟨N, 0, none⟩), .string n, .string t] w fun e w' => e = .returned (.int .i64 k) ∧ DkW w' N B d' ∧ Gw N B w w' := by
  have := rename_c h hn ht; rw [hr] at this; exact this
theorem cut_is (h : DkW w N B d) (hm : q ≤ 9223372036854775807) (hr : cutD d q = (k, d')) : Calls Tryz.prog 20 #[.pointer (some ⟨N, 0, none⟩), .int .i64 q] w fun e w' => e = .returned (.int .i64 k) ∧ DkW w' N B d' ∧ Gw N B w w' := by
  have := cut_c h hm; rw [hr] at this; exact this
theorem crash_is {keep : List Int} {kn kc : Nat} {ka : Option Addr} (h : DkW w N B d) (hkl : keep.length = kn) (HK : SlR encI 1 w ka kc keep) (hka : ∀ x, ka = some x → x.block ≠ B) (hr : crashD d keep = d') : Calls Tryz.prog 19 #[.pointer (some ⟨N, 0, none⟩), .slice ka kn kc] w fun e w' => e = .returned (.int .i64 0) ∧ DkW w' N B d' ∧ Gw N B w w' := by
  have := crash_c h hkl HK hka; rw [hr] at this; exact this
theorem one_is {p r : ByteArray} {c : Bool} (h : DkW w N B d) (hr : decide (d.fs = [⟨n, p, r⟩]) = c) : Calls Tryz.prog 18 #[.pointer (some ⟨N, 0, none⟩), .string n, .string p, .string r] w fun e w' => e = .returned (.bool c) ∧ Below w.heap.size w w' := by
  have := one_c h n p r; rw [hr] at this; exact this
theorem up_is {c : Bool} (h : DkW w N B d) (hr : (!d.dark) = c) : Calls Tryz.prog 21 #[.pointer (some ⟨N, 0, none⟩)] w fun e w' => e = .returned (.bool c) ∧ Below w.heap.size w w' := by
  have := up_c h; rw [hr] at this; exact this
theorem read_is {s : ByteArray} (h : DkW w N B d) (hn : n.size ≤ 9223372036854775807) (hr : readD d n = (s, k)) : Calls Tryz.prog 22 #[.pointer (some ⟨N, 0, none⟩), .string n] w fun e w' => e = .returned (.tuple #[.string s, .int .i64 k]) ∧ Below w.heap.size w w' := by
  have := read_c h hn; rw [hr] at this; exact this
end
section
variable {k nb : Nat} {P : Program} {n : Nat} {l : Fr} {w : World} {Q : Exit → Act → World → Prop} {ops : Array Oper} {os : List Oper} {d : Nat} {ty : TypeId} {pos : String} {af : Array Edge} {S T : TypeId}
theorem lw_bsN (E : ElemT P S T k nb) {m : Nat} {ps : List (Nat × Operand)} {vs cs : List Value} (hd : Nat.blt d n = true) (hps : ps.map (·.1) = List.range m) (hvs : evs l (ps.map (·.2)) = some vs) (hp : 0 < m) (hs : m * k ≤ 16777216) (hcs : (vs.flatMap fun v => v.cells.toList) = cs) (h1 : ∀ v ∈ vs, v.cells.size = k)
    (h : ∀ N w', w.heap.size ≤ N → PT w' N T cs → Below w.heap.size w w' → LW P n ops Q os ((d, .slice (some ⟨N, 0, none⟩) m m) :: l) w') :
    LW P n ops Q (⟨some d, .buildSlice S m ps.toArray, ty, pos, af, none⟩ :: os) l w :=
  lw_bs E hd hps hvs hp hs hcs h1 fun w' hp hb _ => h _ w' (Nat.le_refl _) hp hb
end
def sa : ByteArray := ⟨#[97]⟩
def sb : ByteArray := ⟨#[98]⟩
def sx : ByteArray := ⟨#[120]⟩
def syz : ByteArray := ⟨#[121, 122]⟩
def s17 : ByteArray := ⟨#[49, 50, 51, 52, 53, 54, 55]⟩
def sab : ByteArray := ⟨#[97, 47, 98]⟩
def dA0 : Dsk := ⟨[], 9, -1, false⟩
def dA1 : Dsk := ⟨[⟨sa, emptyB, emptyB⟩], 9, -1, false⟩
def dA2 : Dsk := ⟨[⟨sa, emptyB, sx⟩], 9, -1, false⟩
def dA3 : Dsk := ⟨[⟨sa, sx, emptyB⟩], 9, -1, false⟩
def dA4 : Dsk := ⟨[⟨sa, sx, syz⟩], 9, -1, false⟩
def dA5 : Dsk := ⟨[⟨sa, sx, syz⟩, ⟨sb, emptyB, emptyB⟩], 9, -1, false⟩
def dA6 : Dsk := ⟨[⟨sb, sx, syz⟩], 9, -1, false⟩
def dA7 : Dsk := ⟨[⟨sb, emptyB, emptyB⟩], 9, -1, false⟩
def dC1 : Dsk := ⟨[], 9, 1, false⟩
def dC2 : Dsk := ⟨[⟨sa, emptyB, emptyB⟩], 9, 0, false⟩
def dC3 : Dsk := ⟨[⟨sa, emptyB, sx⟩], 9, 0, true⟩
def dC4 : Dsk := ⟨[⟨sa, sx, emptyB⟩], 9, -1, false⟩
theorem rA1 : createD dA0 sa = (0, dA1) := by decide +kernel
theorem rA2 : appendD dA1 sa sx = (0, dA2) := by decide +kernel
theorem rA3 : syncD dA2 sa = (0, dA3) := by decide +kernel
theorem rA4 : appendD dA3 sa syz = (0, dA4) := by decide +kernel
theorem rA44 : appendD dA4 sa s17 = (44, dA4) := by decide +kernel
theorem rA5 : createD dA4 sb = (0, dA5) := by decide +kernel
theorem rA6 : renameD dA5 sa sb = (0, dA6) := by decide +kernel
theorem rA7 : trimD dA6 sb 0 = (0, dA7) := by decide +kernel
theorem rA8 : createD dA7 sab = (4, dA7) := by decide +kernel
theorem rC1 : cutD dA0 1 = (0, dC1) := by decide +kernel
theorem rC2 : createD dC1 sa = (0, dC2) := by decide +kernel
theorem rC3 : appendD dC2 sa sx = (45, dC3) := by decide +kernel
theorem rC4 : crashD dC3 [1] = dC4 := by decide +kernel
theorem rCr : readD dC3 sa = (emptyB, 45) := by decide +kernel
def wantsL : List ByteArray := [⟨#[120]⟩, ⟨#[120, 121]⟩, ⟨#[120, 121, 122]⟩, ⟨#[120]⟩]
theorem rW0 : ∀ k : Fin 4, (crashD dA4 [((k.val : Nat) : Int)]).fs = [⟨sa, wantsL.getD k.val emptyB, emptyB⟩] := by decide +kernel
theorem rW {k : Nat} (h : k < 4) {s : ByteArray} (hs : wantsL[k]? = some s) : decide ((crashD dA4 [(k : Int)]).fs = [⟨sa, s, emptyB⟩]) = true := by
  have := rW0 ⟨k, h⟩
  dsimp only at this
  rw [this, List.getD_eq_getElem?_getD, hs]
  simp
theorem elemXn : ElemT Tryz.prog 34 3 1 8 := elem_of Tryz.underlying34 (by kernel_rfl) (by omega)
set_option maxRecDepth 20000 in
set_option maxHeartbeats 1000000 in
theorem awake_c (w : World) : Calls Tryz.prog 5 #[] w fun e w' => e = .returned (.bool true) ∧ Below w.heap.size w w' := by
  have hw := Below.refl w.heap.size w
  refine fn_enter 129 Tryz.func5 rfl rfl rfl ?_
  repeat' (first | (refine lw_pure rfl (pv_assign rfl) ?_) | (refine is_cw ?_; first | (refine cw_seq ?_) | (refine cw_region ?_)) | (refine is_qw ?_; first | (with_reducible refine qw_then ?_)) | (refine lw_nil ?_))
  refine lw_call (f := 14) (by kernel_rfl) rfl rfl (small_c (cap := 9) (by omega) (by omega) _) ?_; rintro e w1 ⟨⟨N, B, rfl, hN, hB, hD0⟩, hb⟩; refine ⟨_, rfl, ?_⟩
  replace hN := Nat.le_trans hw.size hN
  replace hB := Nat.le_trans hw.size hB
  replace hw := grow_trans hw hb
  clear hb
  have hD : DkW w1 N B dA0 := hD0
  clear hD0
  repeat' (first | (refine lw_pure rfl (pv_move rfl) ?_) | (refine lw_pure rfl (pv_assign rfl) ?_) | (refine is_cw ?_; first | (refine cw_seq ?_) | (refine cw_region ?_)) | (refine is_qw ?_; first | (with_reducible refine qw_then ?_)) | (refine lw_nil ?_) | (refine is_guarded ?_; first | (refine lw_on rfl rfl rfl ?_)) | ((refine is_bin ?_; first | (refine lw_pure rfl (pv_pnil tpD rfl rfl) ?_))))
  refine lw_call (f := 15) (by kernel_rfl) rfl rfl (create_is (n := sa) hD (by decide) rA1) ?_; clear hD; rintro e w1 ⟨rfl, hD, hG⟩; refine ⟨_, rfl, ?_⟩; replace hw := hG.below hw hN hB; clear hG
  repeat' (first | (refine lw_pure rfl (pv_move rfl) ?_) | (refine is_guarded ?_; first | (refine lw_on rfl rfl rfl ?_)) | ((refine is_bin ?_; first | (refine lw_pure rfl (pv_neq rfl rfl) ?_))) | (refine lw_pure rfl (pv_pick_f rfl rfl rfl) ?_))
  refine lw_call (f := 16) (by kernel_rfl) rfl rfl (append_is (n := sa) (b := sx) hD (by decide) rA2) ?_; clear hD; rintro e w1 ⟨rfl, hD, hG⟩; refine ⟨_, rfl, ?_⟩; replace hw := hG.below hw hN hB; clear hG
  repeat' (first | (refine lw_pure rfl (pv_move rfl) ?_) | (refine is_guarded ?_; first | (refine lw_on rfl rfl rfl ?_)) | ((refine is_bin ?_; first | (refine lw_pure rfl (pv_neq rfl rfl) ?_))) | (refine lw_pure rfl (pv_pick_f rfl rfl rfl) ?_))
  refine lw_call (f := 17) (by kernel_rfl) rfl rfl (sync_is (n := sa) hD (by decide) rA3) ?_; clear hD; rintro e w1 ⟨rfl, hD, hG⟩; refine ⟨_, rfl, ?_⟩; replace hw := hG.below hw hN hB; clear hG
  repeat' (first | (refine lw_pure rfl (pv_move rfl) ?_) | (refine is_guarded ?_; first | (refine lw_on rfl rfl rfl ?_)) | ((refine is_bin ?_; first | (refine lw_pure rfl (pv_neq rfl rfl) ?_))) | (refine lw_pure rfl (pv_pick_f rfl rfl rfl) ?_))
  refine lw_call (f := 16) (by kernel_rfl) rfl rfl (append_is (n := sa) (b := syz) hD (by decide) rA4) ?_; clear hD; rintro e w1 ⟨rfl, hD, hG⟩; refine ⟨_, rfl, ?_⟩; replace hw := hG.below hw hN hB; clear hG
  repeat' (first | (refine lw_pure rfl (pv_move rfl) ?_) | (refine is_guarded ?_; first | (refine lw_on rfl rfl rfl ?_)) | ((refine is_bin ?_; first | (refine lw_pure rfl (pv_neq rfl rfl) ?_))) | (refine lw_pure rfl (pv_pick_f rfl rfl rfl) ?_))
  refine lw_call (f := 16) (by kernel_rfl) rfl rfl (append_is (n := sa) (b := s17) hD (by decide) rA44) ?_; clear hD; rintro e w1 ⟨rfl, hD, hG⟩; refine ⟨_, rfl, ?_⟩; replace hw := hG.below hw hN hB; clear hG
  repeat' (first | (refine lw_pure rfl (pv_move rfl) ?_) | (refine is_guarded ?_; first | (refine lw_on rfl rfl rfl ?_)) | ((refine is_bin ?_; first | (refine lw_pure rfl (pv_neq rfl rfl) ?_))) | (refine lw_pure rfl (pv_pick_f rfl rfl rfl) ?_))
  refine lw_call (f := 18) (by kernel_rfl) rfl rfl (one_is (n := sa) (p := sx) (r := syz) (c := true) hD (by decide +kernel)) ?_; rintro e w1 ⟨rfl, hb⟩; refine ⟨_, rfl, ?_⟩; replace hD := hD.mono hb; replace hw := grow_trans hw hb; clear hb
  repeat' (first | (refine is_cw ?_; first | (refine cw_seq ?_) | (refine cw_region ?_) | (refine cw_false rfl rfl ?_) | (refine cw_skip ?_)) | (refine is_qw ?_; first | (with_reducible refine qw_then ?_)) | (refine lw_nil ?_) | (refine is_guarded ?_; first | (refine lw_on rfl rfl rfl ?_)) | ((refine is_un ?_; first | (refine lw_pure rfl (pv_not rfl) ?_))) | (refine lw_pure rfl (pv_pick_f rfl rfl rfl) ?_))
  refine lw_bsN (vs := [.string ⟨#[120]⟩, .string ⟨#[120, 121]⟩, .string ⟨#[120, 121, 122]⟩, .string ⟨#[120]⟩]) (cs := wantsL.flatMap encT) elemXs rfl rfl rfl (by omega) (by omega) rfl (by intro v hv; simp at hv; rcases hv with rfl | rfl | rfl | rfl <;> rfl) ?_; intro N3 w3 hN3 HB hb
  have hl4 : wantsL.length = 4 := rfl
  have HW : SlR encT 1 w3 (some ⟨N3, 0, none⟩) 4 wantsL := HB.slR (xs := wantsL) encT_len rfl (by omega)
  replace hD := hD.mono hb
  replace hw := grow_trans hw hb
  clear hb
  repeat' (first | (refine lw_pure rfl (pv_move rfl) ?_) | (refine is_cw ?_; first | (refine cw_block ?_)) | (refine is_qw ?_; first | (with_reducible refine qw_then ?_)) | (refine lw_nil ?_) | ((refine is_bi ?_; first | (refine lw_pure rfl (pv_lenl (tS rfl) rfl) ?_))))
  refine cw_loop (σ := Nat) (fun k => [(1, .pointer (some ⟨N, 0, none⟩)), (41, .slice (some ⟨N3, 0, none⟩) 4 4), (42, .int .i64 4), (43, .int .i64 (k : Nat))]) (fun k wr => k ≤ 4 ∧ Below w.heap.size w wr ∧ DkW wr N B dA4 ∧ SlR encT 1 wr (some ⟨N3, 0, none⟩) 4 wantsL) (fun k => 4 - k) 0 (by repeat' (first | exact trivial | refine ⟨rfl, ?_⟩)) ⟨Nat.zero_le _, hw, hD, HW⟩ ?_
  clear hw hD HW HB
  rintro k wr ⟨hk, hw, hD, HW⟩
  by_cases hlt : k < 4
  · have hxk : wantsL[k]? = some wantsL[k] := List.getElem?_eq_getElem (by rw [hl4]; exact hlt)
    generalize wantsL[k] = s at hxk
    have hw0 := hw
    have hDl := hD.lt
    clear hw
    have hw := Below.refl wr.heap.size wr
    repeat' (first | (refine lw_pure rfl (pv_move rfl) ?_) | (refine lw_pure rfl (pv_assign rfl) ?_) | (refine is_cw ?_; first | (refine cw_seq ?_) | (refine cw_region ?_) | (refine cw_true rfl (by first | assumption | exact decide_eq_true (by omega) | exact dec_notT (by omega)) ?_) | (refine cw_skip ?_) | (refine cw_block ?_)) | (refine is_qw ?_; first | (with_reducible refine qw_then ?_)) | (refine lw_nil ?_) | ((refine is_bin ?_; first | (refine lw_pure rfl (pv_lss rfl rfl) ?_))) | ((refine is_load ?_; first | (refine lw_pure rfl (pv_load (t1 rfl) rfl (by first | exact SlR.ld (HW.mono hw) hxk rfl | exact SlR.ld1 (HW.mono hw) hxk rfl)) ?_))) | ((refine is_ia ?_; first | (refine lw_pure rfl (pv_ian (tS rfl) rfl rfl (by omega)) ?_))))
    refine lw_call (f := 8) (by kernel_rfl) rfl rfl (copy_c (hD.mono hw)) ?_; rintro e w4 ⟨⟨N4, B4, rfl, hN4, hB4, hD4⟩, hb⟩; refine ⟨_, rfl, ?_⟩
    replace hN4 := Nat.le_trans hw.size hN4
    replace hB4 := Nat.le_trans hw.size hB4
    replace hw := grow_trans hw hb
    clear hb
    repeat' (first | (refine lw_pure rfl (pv_move rfl) ?_) | (refine lw_pure rfl (pv_assign rfl) ?_) | (refine is_cw ?_; first | (refine cw_seq ?_) | (refine cw_region ?_)) | (refine is_qw ?_; first | (with_reducible refine qw_then ?_)) | (refine lw_nil ?_))
    refine lw_bsN (vs := [.int .i64 (k : Nat)]) (cs := [.int .i64 (k : Nat)]) elemXn rfl rfl rfl (by omega) (by omega) rfl (by intro v hv; simp at hv; subst hv; rfl) ?_; intro N5 w5 hN5 H5 hb
    have HK : SlR encI 1 w5 (some ⟨N5, 0, none⟩) 1 [((k : Nat) : Int)] := H5.slR (xs := [((k : Nat) : Int)]) encI_len rfl (by omega)
    have hl2 := hD4.lt
    replace hD4 := hD4.mono hb
    replace hw := grow_trans hw hb
    clear hb
    refine lw_call (f := 19) (by kernel_rfl) rfl rfl (crash_c hD4 (keep := [((k : Nat) : Int)]) rfl HK (fun x hx => by injection hx with hx; subst hx; show N5 ≠ B4; omega)) ?_; clear hD4; rintro e w6 ⟨rfl, hD4, hG⟩; refine ⟨_, rfl, ?_⟩
    have hD6 := (hD.mono hw).gw hG ⟨by omega, by omega⟩ ⟨by omega, by omega⟩
    have HW6 := (HW.mono hw).gw hG (fun x hx => by injection hx with hx; subst hx; have := (HW.ofSome _ rfl (by omega)).2.1; exact ⟨by show N3 ≠ N4; dsimp only at this; omega, by show N3 ≠ B4; dsimp only at this; omega⟩)
    replace hw := hG.below hw hN4 hB4
    clear hG
    repeat' (first | (refine lw_pure rfl (pv_move rfl) ?_) | (refine is_guarded ?_; first | (refine lw_on rfl rfl rfl ?_)) | ((refine is_bin ?_; first | (refine lw_pure rfl (pv_neq rfl rfl) ?_))))
    refine lw_call (f := 18) (by kernel_rfl) rfl rfl (one_is (n := sa) (p := s) (r := emptyB) (c := true) hD4 (rW hlt hxk)) ?_; rintro e w7 ⟨rfl, hb⟩; refine ⟨_, rfl, ?_⟩
    replace hw := grow_trans hw hb
    repeat' (first | (refine lw_pure rfl (pv_move rfl) ?_) | (refine is_cw ?_; first | (refine cw_region ?_) | (refine cw_false rfl rfl ?_) | (refine cw_skip ?_)) | (refine is_qw ?_; first | (with_reducible refine qw_then ?_) | (with_reducible refine qw_in ?_)) | (refine lw_nil ?_) | (refine is_guarded ?_; first | (refine lw_on rfl rfl rfl ?_)) | ((refine is_bin ?_; first | (refine lw_pure rfl (pv_inc rfl rfl (by omega)) ?_))) | ((refine is_un ?_; first | (refine lw_pure rfl (pv_not rfl) ?_))) | (refine lw_pure rfl (pv_pick_f rfl rfl rfl) ?_))
    exact qw_round (k + 1) (by repeat' (first | exact trivial | refine ⟨rfl, ?_⟩)) ⟨by omega, grow_trans hw0 hw, hD6.mono hb, HW6.mono hb⟩ (by omega)
  · have hk4 : k = 4 := by omega
    subst hk4
    clear HW hlt hk
    repeat' (first | (refine is_cw ?_; first | (refine cw_seq ?_) | (refine cw_region ?_) | (refine cw_false rfl rfl ?_) | (refine cw_exit ?_)) | (refine is_qw ?_; first | (with_reducible refine qw_then ?_) | (with_reducible refine qw_in_hit ?_) | (with_reducible refine qw_then_exit ?_)) | (refine lw_nil ?_) | ((refine is_bin ?_; first | (refine lw_pure rfl (pv_lss rfl rfl) ?_))))
    have hDk := hD
    clear hD
    refine lw_call (f := 14) (by kernel_rfl) rfl rfl (small_c (cap := 9) (by omega) (by omega) _) ?_; rintro e w5 ⟨⟨N5, B5, rfl, hN5, hB5, hD0⟩, hb⟩; refine ⟨_, rfl, ?_⟩
    have hDl := hDk.lt
    replace hDk := (hDk.mono hb)
    have hc1 : N ≠ N5 ∧ N ≠ B5 := ⟨by omega, by omega⟩
    have hc2 : B ≠ N5 ∧ B ≠ B5 := ⟨by omega, by omega⟩
    replace hN5 := Nat.le_trans hw.size hN5
    replace hB5 := Nat.le_trans hw.size hB5
    replace hw := grow_trans hw hb
    clear hb
    have hD : DkW w5 N5 B5 dA0 := hD0
    clear hD0
    repeat' (first | (refine lw_pure rfl (pv_move rfl) ?_) | (refine lw_pure rfl (pv_assign rfl) ?_) | (refine is_cw ?_; first | (refine cw_seq ?_) | (refine cw_region ?_)) | (refine is_qw ?_; first | (with_reducible refine qw_then ?_)) | (refine lw_nil ?_))
    refine lw_call (f := 20) (by kernel_rfl) rfl rfl (cut_is hD (by omega) rC1) ?_; clear hD; rintro e w1 ⟨rfl, hD, hG⟩; refine ⟨_, rfl, ?_⟩; replace hDk := hDk.gw hG hc1 hc2; replace hw := hG.below hw hN5 hB5; clear hG
    repeat' (first | (refine lw_pure rfl (pv_move rfl) ?_) | (refine is_guarded ?_; first | (refine lw_on rfl rfl rfl ?_)) | ((refine is_bin ?_; first | (refine lw_pure rfl (pv_neq rfl rfl) ?_))))
    refine lw_call (f := 15) (by kernel_rfl) rfl rfl (create_is (n := sa) hD (by decide) rC2) ?_; clear hD; rintro e w1 ⟨rfl, hD, hG⟩; refine ⟨_, rfl, ?_⟩; replace hDk := hDk.gw hG hc1 hc2; replace hw := hG.below hw hN5 hB5; clear hG
    repeat' (first | (refine lw_pure rfl (pv_move rfl) ?_) | (refine is_guarded ?_; first | (refine lw_on rfl rfl rfl ?_)) | ((refine is_bin ?_; first | (refine lw_pure rfl (pv_neq rfl rfl) ?_))) | (refine lw_pure rfl (pv_pick_f rfl rfl rfl) ?_))
    refine lw_call (f := 16) (by kernel_rfl) rfl rfl (append_is (n := sa) (b := sx) hD (by decide) rC3) ?_; clear hD; rintro e w1 ⟨rfl, hD, hG⟩; refine ⟨_, rfl, ?_⟩; replace hDk := hDk.gw hG hc1 hc2; replace hw := hG.below hw hN5 hB5; clear hG
    repeat' (first | (refine lw_pure rfl (pv_move rfl) ?_) | (refine is_guarded ?_; first | (refine lw_on rfl rfl rfl ?_)) | ((refine is_bin ?_; first | (refine lw_pure rfl (pv_neq rfl rfl) ?_))) | (refine lw_pure rfl (pv_pick_f rfl rfl rfl) ?_))
    refine lw_call (f := 21) (by kernel_rfl) rfl rfl (up_is (c := false) hD rfl) ?_; rintro e w1 ⟨rfl, hb⟩; refine ⟨_, rfl, ?_⟩; replace hD := hD.mono hb; replace hDk := hDk.mono hb; replace hw := grow_trans hw hb; clear hb
    repeat' (first | (refine lw_pure rfl (pv_move rfl) ?_) | (refine is_cw ?_; first | (refine cw_seq ?_) | (refine cw_region ?_) | (refine cw_false rfl rfl ?_) | (refine cw_skip ?_)) | (refine is_qw ?_; first | (with_reducible refine qw_then ?_)) | (refine lw_nil ?_) | (refine lw_pure rfl (pv_pick_f rfl rfl rfl) ?_))
    refine lw_call (f := 22) (by kernel_rfl) rfl rfl (read_is (n := sa) hD (by decide) rCr) ?_; rintro e w1 ⟨rfl, hb⟩; refine ⟨_, rfl, ?_⟩; replace hD := hD.mono hb; replace hDk := hDk.mono hb; replace hw := grow_trans hw hb; clear hb
    repeat' (first | (refine lw_pure rfl (pv_move rfl) ?_) | (refine lw_pure rfl (pv_assign rfl) ?_) | (refine is_cw ?_; first | (refine cw_seq ?_) | (refine cw_region ?_)) | (refine is_qw ?_; first | (with_reducible refine qw_then ?_)) | (refine lw_nil ?_) | (refine is_guarded ?_; first | (refine lw_on rfl rfl rfl ?_)) | ((refine is_bin ?_; first | (refine lw_pure rfl (pv_neq rfl rfl) ?_))) | (refine lw_pure rfl (pv_extract rfl rfl) ?_))
    refine lw_bsN (vs := [.int .i64 1]) (cs := [.int .i64 1]) elemXn rfl rfl rfl (by omega) (by omega) rfl (by intro v hv; simp at hv; subst hv; rfl) ?_; intro N6 w6 hN6 H6 hb
    have HK : SlR encI 1 w6 (some ⟨N6, 0, none⟩) 1 [(1 : Int)] := H6.slR (xs := [(1 : Int)]) encI_len rfl (by omega)
    have hl2 := hD.lt
    replace hD := hD.mono hb
    replace hDk := hDk.mono hb
    replace hw := grow_trans hw hb
    clear hb
    repeat' (first | (refine is_guarded ?_; first | (refine lw_on rfl rfl rfl ?_)))
    refine lw_call (f := 19) (by kernel_rfl) rfl rfl (crash_is hD (keep := [(1 : Int)]) rfl HK (fun x hx => by injection hx with hx; subst hx; show N6 ≠ B5; omega) rC4) ?_; clear hD; rintro e w1 ⟨rfl, hD, hG⟩; refine ⟨_, rfl, ?_⟩; replace hDk := hDk.gw hG hc1 hc2; replace hw := hG.below hw hN5 hB5; clear hG
    repeat' (first | (refine lw_pure rfl (pv_move rfl) ?_) | (refine is_guarded ?_; first | (refine lw_on rfl rfl rfl ?_)) | ((refine is_bin ?_; first | (refine lw_pure rfl (pv_neq rfl rfl) ?_))) | (refine lw_pure rfl (pv_pick_f rfl rfl rfl) ?_))
    refine lw_call (f := 18) (by kernel_rfl) rfl rfl (one_is (n := sa) (p := sx) (r := emptyB) (c := true) hD (by decide +kernel)) ?_; rintro e w1 ⟨rfl, hb⟩; refine ⟨_, rfl, ?_⟩; replace hD := hD.mono hb; replace hDk := hDk.mono hb; replace hw := grow_trans hw hb; clear hb
    repeat' (first | (refine lw_pure rfl (pv_move rfl) ?_) | (refine is_guarded ?_; first | (refine lw_on rfl rfl rfl ?_)) | ((refine is_un ?_; first | (refine lw_pure rfl (pv_not rfl) ?_))) | (refine lw_pure rfl (pv_pick_f rfl rfl rfl) ?_))
    refine lw_call (f := 21) (by kernel_rfl) rfl rfl (up_is (c := true) hD rfl) ?_; rintro e w1 ⟨rfl, hb⟩; refine ⟨_, rfl, ?_⟩; replace hD := hD.mono hb; replace hDk := hDk.mono hb; replace hw := grow_trans hw hb; clear hb
    repeat' (first | (refine lw_pure rfl (pv_move rfl) ?_) | (refine is_cw ?_; first | (refine cw_seq ?_) | (refine cw_region ?_) | (refine cw_false rfl rfl ?_) | (refine cw_skip ?_)) | (refine is_qw ?_; first | (with_reducible refine qw_then ?_)) | (refine lw_nil ?_) | (refine is_guarded ?_; first | (refine lw_on rfl rfl rfl ?_)) | ((refine is_un ?_; first | (refine lw_pure rfl (pv_not rfl) ?_))) | (refine lw_pure rfl (pv_pick_f rfl rfl rfl) ?_))
    clear hD
    have hD := hDk
    clear hDk
    refine lw_call (f := 15) (by kernel_rfl) rfl rfl (create_is (n := sb) hD (by decide) rA5) ?_; clear hD; rintro e w1 ⟨rfl, hD, hG⟩; refine ⟨_, rfl, ?_⟩; replace hw := hG.below hw hN hB; clear hG
    repeat' (first | (refine lw_pure rfl (pv_move rfl) ?_) | (refine is_guarded ?_; first | (refine lw_on rfl rfl rfl ?_)) | ((refine is_bin ?_; first | (refine lw_pure rfl (pv_eql rfl rfl) ?_))))
    refine lw_call (f := 23) (by kernel_rfl) rfl rfl (rename_is (n := sa) (t := sb) hD (by decide) (by decide) rA6) ?_; clear hD; rintro e w1 ⟨rfl, hD, hG⟩; refine ⟨_, rfl, ?_⟩; replace hw := hG.below hw hN hB; clear hG
    repeat' (first | (refine lw_pure rfl (pv_move rfl) ?_) | (refine is_guarded ?_; first | (refine lw_on rfl rfl rfl ?_)) | ((refine is_bin ?_; first | (refine lw_pure rfl (pv_eql rfl rfl) ?_))) | (refine lw_pure rfl (pv_pick_t rfl rfl rfl) ?_))
    refine lw_call (f := 18) (by kernel_rfl) rfl rfl (one_is (n := sb) (p := sx) (r := syz) (c := true) hD (by decide +kernel)) ?_; rintro e w1 ⟨rfl, hb⟩; refine ⟨_, rfl, ?_⟩; replace hD := hD.mono hb; replace hw := grow_trans hw hb; clear hb
    repeat' (first | (refine lw_pure rfl (pv_move rfl) ?_) | (refine is_guarded ?_; first | (refine lw_on rfl rfl rfl ?_)) | (refine lw_pure rfl (pv_pick_t rfl rfl rfl) ?_))
    refine lw_call (f := 24) (by kernel_rfl) rfl rfl (trim_is (n := sb) hD (by decide) rA7) ?_; clear hD; rintro e w1 ⟨rfl, hD, hG⟩; refine ⟨_, rfl, ?_⟩; replace hw := hG.below hw hN hB; clear hG
    repeat' (first | (refine lw_pure rfl (pv_move rfl) ?_) | (refine is_guarded ?_; first | (refine lw_on rfl rfl rfl ?_)) | ((refine is_bin ?_; first | (refine lw_pure rfl (pv_eql rfl rfl) ?_))) | (refine lw_pure rfl (pv_pick_t rfl rfl rfl) ?_))
    refine lw_call (f := 18) (by kernel_rfl) rfl rfl (one_is (n := sb) (p := emptyB) (r := emptyB) (c := true) hD (by decide +kernel)) ?_; rintro e w1 ⟨rfl, hb⟩; refine ⟨_, rfl, ?_⟩; replace hD := hD.mono hb; replace hw := grow_trans hw hb; clear hb
    repeat' (first | (refine lw_pure rfl (pv_move rfl) ?_) | (refine is_guarded ?_; first | (refine lw_on rfl rfl rfl ?_)) | (refine lw_pure rfl (pv_pick_t rfl rfl rfl) ?_))
    refine lw_call (f := 15) (by kernel_rfl) rfl rfl (create_is (n := sab) hD (by decide) rA8) ?_; clear hD; rintro e w1 ⟨rfl, hD, hG⟩; refine ⟨_, rfl, ?_⟩; replace hw := hG.below hw hN hB; clear hG
    repeat' (first | (refine lw_pure rfl (pv_assign rfl) ?_) | (refine is_cw ?_; first | (refine cw_ret ?_)) | (refine is_qw ?_; first | (with_reducible refine qw_then ?_)) | (refine lw_nil ?_) | (refine is_guarded ?_; first | (refine lw_on rfl rfl rfl ?_)) | ((refine is_bin ?_; first | (refine lw_pure rfl (pv_eql rfl rfl) ?_))) | (refine lw_pure rfl (pv_pick_t rfl rfl rfl) ?_))
    exact qw_ret1 rfl rfl ⟨rfl, hw⟩

theorem is_seqr {P : Program} {n : Nat} {l : Fr} {w : World} {Q : Exit → Act → World → Prop} (i : Nat) {ops : Array Oper} {d : Bool} {y : Code} (h : CW P n (.seq (.region i ops d) y) Q l w) : CW P n (.seq (.region i ops d) y) Q l w := h
theorem free0 {cap : Int} (h : 0 ≤ cap) (h2 : cap ≤ 9223372036854775807) : Free ⟨[], cap, -1, false⟩ := ⟨⟨List.Pairwise.nil, fun f hf => (by cases hf), fun f hf => (by cases hf), (by simp), (by simpa [usedF] using h), h2, (by show (-1 : Int) ≤ -1; omega), (by show (-1 : Int) ≤ 9223372036854775807; omega)⟩, rfl, rfl⟩
theorem free_is {d : Dsk} (h : Free d) {c : Int} (hc : d.cap = c) : (⟨d.fs, c, -1, false⟩ : Dsk) = d := by
  rw [dsk_ext]; exact ⟨rfl, hc.symm, h.left.symm, h.up.symm⟩
theorem same_is {w : World} {N1 B1 N2 B2 : Nat} {a b : Dsk} {c : Bool} (h1 : DkW w N1 B1 a) (h2 : DkW w N2 B2 b) (hr : decide (a = b) = c) : Calls Tryz.prog 12 #[.pointer (some ⟨N1, 0, none⟩), .pointer (some ⟨N2, 0, none⟩)] w fun e w' => e = .returned (.bool c) ∧ Below w.heap.size w w' := by
  have := same_c h1 h2; rw [hr] at this; exact this
theorem load_is {w : World} {cap : Int} {l : List Fil} {n ca : Nat} {a : Option Addr} (hO : SlR encF 3 w a ca l) (hn : l.length = n) (hcap : cap ≤ 9223372036854775807) (hs : ∀ f ∈ l, nameF f.name = true ∧ szF f ≤ 1048576) (hr : loadD cap l = (0, ⟨l, cap, -1, false⟩)) : Calls Tryz.prog 25 #[.int .i64 cap, .slice a n ca] w fun e w' => (∃ N B, e = .returned (.tuple #[.pointer (some ⟨N, 0, none⟩), .int .i64 0]) ∧ w.heap.size ≤ N ∧ w.heap.size ≤ B ∧ DkW w' N B ⟨l, cap, -1, false⟩) ∧ Below w.heap.size w w' := by
  refine (load_c hn hcap (fun f hf => ?_) hO).mono ?_
  · obtain ⟨h1, h2⟩ := hs f hf
    unfold nameF at h1
    simp only [Bool.and_eq_true, decide_eq_true_eq] at h1
    unfold szF at h2
    omega
  · rintro e w' ⟨hL, hb⟩
    rcases hL with ⟨h1, _⟩ | ⟨_, h2⟩
    · rw [hr] at h1; exact absurd rfl h1
    · exact ⟨h2, hb⟩

section
variable {P : Program} {n : Nat} {l : Fr} {w : World} {d : Option Nat} {ty : TypeId} {pos : String} {af : Array Edge} {g : Option (Nat × Bool)} {t t' : TypeId} {x y : Operand}
theorem pv_predn {i : Nat} (hx : ev l x = some (.int .i64 ((i + 1 : Nat) : Int))) (hy : ev l y = some (.int .i64 1)) (h : i < 9223372036854775807) : Pv P n l ⟨d, .binOp .sub t x y t', ty, pos, af, g⟩ (.int .i64 (i : Nat)) w := by
  have e : ((i + 1 : Nat) : Int) - 1 = (i : Int) := by omega
  have := pv_sub (P := P) (n := n) (w := w) (d := d) (ty := ty) (pos := pos) (af := af) (g := g) (t := t) (t' := t') hx hy (by omega)
  rwa [e] at this
end
theorem usedT {l : List Fil} {k : Nat} {f : Fil} (h : l[k]? = some f) : usedF (l.take (k + 1)) = usedF (l.take k) + szF f := by
  rw [List.take_add_one, h, usedF_append]
  show _ + usedF [f] = _
  rw [usedF_cons]
  rfl
theorem usedT_le (l : List Fil) (k : Nat) : usedF (l.take k) ≤ usedF l := by
  have : usedF l = usedF (l.take k) + usedF (l.drop k) := by rw [← usedF_append, List.take_append_drop]
  omega
set_option maxRecDepth 20000 in
set_option maxHeartbeats 8000000 in
theorem rname_c {s : ByteArray} (hs : s.size ≤ 9223372036854775807) (w : World) : Calls Tryz.prog 26 #[.string s] w fun e w' => e = .returned (.bool (nameF s)) ∧ Below w.heap.size w w' := by
  have hw := Below.refl w.heap.size w
  refine fn_enter 57 Tryz.func26 rfl rfl rfl ?_
  repeat' (first | (refine lw_pure rfl (pv_assign rfl) ?_) | (refine is_cw ?_; first | (refine cw_seq ?_) | (refine cw_region ?_) | (refine cw_block ?_)) | (refine is_qw ?_; first | (with_reducible refine qw_then ?_)) | (refine lw_nil ?_))
  refine cw_loop (σ := Nat) (fun k => [(0, .string s), (3, .int .i64 (k : Nat))]) (fun k wr => k ≤ s.size ∧ Below w.heap.size w wr ∧ ∀ b ∈ (bytesI s).take k, letB b = true) (fun k => s.size - k) 0 (by repeat' (first | exact trivial | refine ⟨rfl, ?_⟩)) ⟨Nat.zero_le _, hw, fun b hb => by simp at hb⟩ ?_
  clear hw
  rintro k wr ⟨hk, hw, hgd⟩
  by_cases hlt : k < s.size
  · have hbb := bytesI_bd s _ (bt_mem hlt)
    by_cases hq : letB (bt s k) = true
    · have hgd2 : ∀ b ∈ (bytesI s).take (k + 1), letB b = true := fun b hb => by
        rw [bytesI_take s hlt] at hb
        rcases List.mem_append.1 hb with h1 | h1
        · exact hgd b h1
        · rw [List.mem_singleton] at h1; rw [h1]; exact hq
      have hq2 := of_decide_eq_true hq
      rcases hq2 with ⟨h1, h2⟩ | ⟨h1, h2⟩ | ⟨h1, h2⟩ | h1 | h1 | h1
      all_goals
        repeat' (first | (refine lw_pure rfl (pv_move rfl) ?_) | (refine lw_pure rfl (pv_assign rfl) ?_) | (refine is_cw ?_; first | (refine cw_seq ?_) | (refine cw_region ?_) | (refine cw_false rfl rfl ?_) | (refine cw_true rfl (by first | assumption | exact decide_eq_true (by omega) | exact dec_notT (by omega)) ?_) | (refine cw_false rfl (by first | assumption | exact decide_eq_false (by omega) | exact dec_notF (by omega)) ?_) | (refine cw_skip ?_) | (refine cw_block ?_)) | (refine is_qw ?_; first | (with_reducible refine qw_then ?_) | (with_reducible refine qw_in ?_)) | (refine lw_nil ?_) | (refine is_guarded ?_; first | (refine lw_not rfl rfl rfl rfl ?_) | (refine lw_not_u rfl rfl rfl ?_) | (refine lw_on rfl rfl rfl ?_) | (refine lw_on rfl rfl (by first | assumption | exact decide_eq_true (by omega) | exact decide_eq_false (by omega) | exact dec_notT (by omega) | exact dec_notF (by omega)) ?_) | (refine lw_not rfl rfl rfl (by first | assumption | exact decide_eq_true (by omega) | exact decide_eq_false (by omega) | exact dec_notT (by omega) | exact dec_notF (by omega)) ?_)) | ((refine is_bin ?_; first | (refine lw_pure rfl (pv_lss rfl rfl) ?_) | (refine lw_pure rfl (pv_eql rfl rfl) ?_) | (refine lw_pure rfl (pv_leq rfl rfl) ?_) | (refine lw_pure rfl (pv_geq rfl rfl) ?_) | (refine lw_pure rfl (pv_inc rfl rfl (by omega)) ?_))) | ((refine is_un ?_; first | (refine lw_pure rfl (pv_not rfl) ?_))) | ((refine is_bi ?_; first | (refine lw_pure rfl (pv_lens (tStr rfl) rfl) ?_))) | (refine lw_pure rfl (pv_sidx (tStr rfl) rfl rfl (by omega)) ?_) | (refine lw_pure rfl (pv_pick_t rfl rfl rfl) ?_) | (refine lw_pure rfl (pv_pick_f rfl rfl rfl) ?_) | (refine lw_pure rfl (pv_pick_t rfl (by first | assumption | exact decide_eq_true (by omega) | exact dec_notT (by omega)) rfl) ?_) | (refine lw_pure rfl (pv_pick_f rfl (by first | assumption | exact decide_eq_false (by omega) | exact dec_notF (by omega)) rfl) ?_))
        exact qw_round (k + 1) (by repeat' (first | exact trivial | refine ⟨rfl, ?_⟩)) ⟨by show k + 1 ≤ _; omega, hw, hgd2⟩ (by show s.size - (k + 1) < s.size - k; omega)
    · have e : nameF s = false := by
        unfold nameF
        rw [Bool.and_eq_false_iff]
        refine Or.inr ?_
        rw [List.all_eq_false]
        exact ⟨_, bt_mem hlt, hq⟩
      have hq2 : ¬ ((97 ≤ bt s k ∧ bt s k ≤ 122) ∨ (65 ≤ bt s k ∧ bt s k ≤ 90) ∨ (48 ≤ bt s k ∧ bt s k ≤ 57) ∨ bt s k = 45 ∨ bt s k = 95 ∨ bt s k = 46) := fun h => hq (decide_eq_true h)
      rw [e]
      repeat' (first | (refine lw_pure rfl (pv_move rfl) ?_) | (refine lw_pure rfl (pv_assign rfl) ?_) | (refine is_cw ?_; first | (refine cw_seq ?_) | (refine cw_region ?_) | (refine cw_true rfl (by first | assumption | exact decide_eq_true (by omega) | exact dec_notT (by omega)) ?_) | (refine cw_skip ?_) | (refine cw_block ?_) | (refine cw_ret ?_)) | (refine is_qw ?_; first | (with_reducible refine qw_then ?_) | (with_reducible refine qw_then_ret ?_) | (with_reducible refine qw_in_ret ?_)) | (refine lw_nil ?_) | (refine is_guarded ?_; first | (refine lw_on rfl rfl rfl ?_) | (refine lw_on rfl rfl (by first | assumption | exact decide_eq_true (by omega) | exact decide_eq_false (by omega) | exact dec_notT (by omega) | exact dec_notF (by omega)) ?_) | (refine lw_not rfl rfl rfl (by first | assumption | exact decide_eq_true (by omega) | exact decide_eq_false (by omega) | exact dec_notT (by omega) | exact dec_notF (by omega)) ?_) | (refine lw_gs_t rfl rfl rfl (fun hc => ?_) (fun hc => ?_) <;> (first | replace hc := of_decide_eq_true hc | replace hc := of_decide_eq_false hc | replace hc := dec_nT hc | replace hc := dec_nF hc | skip) <;> (try (exfalso; omega)))) | ((refine is_bin ?_; first | (refine lw_pure rfl (pv_lss rfl rfl) ?_) | (refine lw_pure rfl (pv_eql rfl rfl) ?_) | (refine lw_pure rfl (pv_leq rfl rfl) ?_) | (refine lw_pure rfl (pv_geq rfl rfl) ?_))) | ((refine is_un ?_; first | (refine lw_pure rfl (pv_not rfl) ?_))) | ((refine is_bi ?_; first | (refine lw_pure rfl (pv_lens (tStr rfl) rfl) ?_))) | (refine lw_pure rfl (pv_sidx (tStr rfl) rfl rfl (by omega)) ?_) | (refine lw_pure rfl (pv_pick_f rfl rfl rfl) ?_) | (refine lw_pure rfl (pv_pick_t rfl (by first | assumption | exact decide_eq_true (by omega) | exact dec_notT (by omega)) rfl) ?_) | (refine lw_pure rfl (pv_pick_f rfl (by first | assumption | exact decide_eq_false (by omega) | exact dec_notF (by omega)) rfl) ?_))
      all_goals exact qw_ret1 rfl rfl ⟨rfl, hw⟩
  · have hkl : k = s.size := by omega
    subst hkl
    have ha : (bytesI s).all letB = true := by
      rw [← bytesI_len, List.take_length] at hgd
      exact List.all_eq_true.2 hgd
    by_cases h1 : 1 ≤ s.size ∧ s.size ≤ 24
    · have e : nameF s = true := by unfold nameF; rw [ha, decide_eq_true h1]; rfl
      obtain ⟨h2, h3⟩ := h1
      rw [e]
      repeat' (first | (refine lw_pure rfl (pv_move rfl) ?_) | (refine lw_pure rfl (pv_assign rfl) ?_) | (refine is_cw ?_; first | (refine cw_seq ?_) | (refine cw_region ?_) | (refine cw_false rfl (by first | assumption | exact decide_eq_false (by omega) | exact dec_notF (by omega)) ?_) | (refine cw_exit ?_) | (refine cw_ret ?_)) | (refine is_qw ?_; first | (with_reducible refine qw_then ?_) | (with_reducible refine qw_in_hit ?_) | (with_reducible refine qw_then_exit ?_)) | (refine lw_nil ?_) | (refine is_guarded ?_; first | (refine lw_on rfl rfl (by first | assumption | exact decide_eq_true (by omega) | exact decide_eq_false (by omega) | exact dec_notT (by omega) | exact dec_notF (by omega)) ?_)) | ((refine is_bin ?_; first | (refine lw_pure rfl (pv_lss rfl rfl) ?_) | (refine lw_pure rfl (pv_leq rfl rfl) ?_) | (refine lw_pure rfl (pv_gtr rfl rfl) ?_))) | ((refine is_bi ?_; first | (refine lw_pure rfl (pv_lens (tStr rfl) rfl) ?_))) | (refine lw_pure rfl (pv_pick_t rfl (by first | assumption | exact decide_eq_true (by omega) | exact dec_notT (by omega)) rfl) ?_))
      exact qw_ret1 rfl rfl ⟨by rw [decide_eq_true (show (s.size : Int) ≤ 24 by omega)], hw⟩
    · have e : nameF s = false := by unfold nameF; rw [decide_eq_false h1, Bool.false_and]
      rw [e]
      by_cases h2 : 0 < s.size
      · repeat' (first | (refine lw_pure rfl (pv_move rfl) ?_) | (refine lw_pure rfl (pv_assign rfl) ?_) | (refine is_cw ?_; first | (refine cw_seq ?_) | (refine cw_region ?_) | (refine cw_false rfl (by first | assumption | exact decide_eq_false (by omega) | exact dec_notF (by omega)) ?_) | (refine cw_exit ?_) | (refine cw_ret ?_)) | (refine is_qw ?_; first | (with_reducible refine qw_then ?_) | (with_reducible refine qw_in_hit ?_) | (with_reducible refine qw_then_exit ?_)) | (refine lw_nil ?_) | (refine is_guarded ?_; first | (refine lw_on rfl rfl (by first | assumption | exact decide_eq_true (by omega) | exact decide_eq_false (by omega) | exact dec_notT (by omega) | exact dec_notF (by omega)) ?_)) | ((refine is_bin ?_; first | (refine lw_pure rfl (pv_lss rfl rfl) ?_) | (refine lw_pure rfl (pv_leq rfl rfl) ?_) | (refine lw_pure rfl (pv_gtr rfl rfl) ?_))) | ((refine is_bi ?_; first | (refine lw_pure rfl (pv_lens (tStr rfl) rfl) ?_))) | (refine lw_pure rfl (pv_pick_t rfl (by first | assumption | exact decide_eq_true (by omega) | exact dec_notT (by omega)) rfl) ?_))
        exact qw_ret1 rfl rfl ⟨by rw [decide_eq_false (show ¬ (s.size : Int) ≤ 24 by omega)], hw⟩
      · repeat' (first | (refine lw_pure rfl (pv_move rfl) ?_) | (refine lw_pure rfl (pv_assign rfl) ?_) | (refine is_cw ?_; first | (refine cw_seq ?_) | (refine cw_region ?_) | (refine cw_false rfl (by first | assumption | exact decide_eq_false (by omega) | exact dec_notF (by omega)) ?_) | (refine cw_exit ?_) | (refine cw_ret ?_)) | (refine is_qw ?_; first | (with_reducible refine qw_then ?_) | (with_reducible refine qw_in_hit ?_) | (with_reducible refine qw_then_exit ?_)) | (refine lw_nil ?_) | (refine is_guarded ?_; first | (refine lw_not rfl rfl rfl (by first | assumption | exact decide_eq_true (by omega) | exact decide_eq_false (by omega) | exact dec_notT (by omega) | exact dec_notF (by omega)) ?_)) | ((refine is_bin ?_; first | (refine lw_pure rfl (pv_lss rfl rfl) ?_) | (refine lw_pure rfl (pv_gtr rfl rfl) ?_))) | ((refine is_bi ?_; first | (refine lw_pure rfl (pv_lens (tStr rfl) rfl) ?_))) | (refine lw_pure rfl (pv_pick_f rfl (by first | assumption | exact decide_eq_false (by omega) | exact dec_notF (by omega)) rfl) ?_))
        exact qw_ret1 rfl rfl ⟨rfl, hw⟩
theorem rname_is {s : ByteArray} {b : Bool} (hs : s.size ≤ 9223372036854775807) (hb : nameF s = b) (w : World) : Calls Tryz.prog 26 #[.string s] w fun e w' => e = .returned (.bool b) ∧ Below w.heap.size w w' := by
  have := rname_c hs w
  rwa [hb] at this
set_option maxRecDepth 20000 in
theorem rused_c {w : World} {base N : Nat} {v : Value} {d : Dsk} (h : RkW w base N v d) : Calls Tryz.prog 39 #[.pointer (some ⟨N, 0, none⟩)] w fun e w' => e = .returned (.int .i64 (usedF d.fs : Nat)) ∧ Below w.heap.size w w' := by
  obtain ⟨a, c, rfl, HS, -⟩ := Own.slR encF_len h.own
  have H := h.obj
  have hus := h.ok.used
  have hcp := h.ok.cap
  have hmx := HS.max
  have hle := HS.le
  have hw := Below.refl w.heap.size w
  refine fn_enter 36 Tryz.func39 rfl rfl rfl ?_
  repeat' (first | (refine lw_pure rfl (pv_assign rfl) ?_) | (refine is_cw ?_; first | (refine cw_seq ?_) | (refine cw_region ?_) | (refine cw_block ?_)) | (refine is_qw ?_; first | (with_reducible refine qw_then ?_)) | (refine lw_nil ?_))
  refine cw_loop (σ := Nat × Nat) (fun s => [(0, .pointer (some ⟨N, 0, none⟩)), (3, .int .i64 (s.2 : Nat)), (4, .int .i64 (s.1 : Nat))]) (fun s wr => s.1 ≤ d.fs.length ∧ s.2 = usedF (d.fs.take s.1) ∧ Below w.heap.size w wr) (fun s => d.fs.length - s.1) (0, 0) (by repeat' (first | exact trivial | refine ⟨rfl, ?_⟩)) ⟨Nat.zero_le _, rfl, hw⟩ ?_
  clear hw
  rintro ⟨k, n⟩ wr ⟨hk, hn, hw⟩
  replace hk : k ≤ d.fs.length := hk
  replace hn : n = usedF (d.fs.take k) := hn
  change CW Tryz.prog _ _ _ [(0, .pointer (some ⟨N, 0, none⟩)), (3, .int .i64 (n : Nat)), (4, .int .i64 (k : Nat))] wr
  by_cases hlt : k < d.fs.length
  · have hxk : d.fs[k]? = some d.fs[k] := List.getElem?_eq_getElem hlt
    generalize d.fs[k] = f at hxk
    have hut := usedT hxk
    have hul := usedT_le d.fs (k + 1)
    have hsf : szF f = f.firm.size + f.pend.size := rfl
    obtain ⟨ab, ao, rfl, -, -⟩ := HS.at (by intro h; rw [h] at hlt; simp at hlt)
    repeat' (first | (refine lw_pure rfl (pv_move rfl) ?_) | (refine is_cw ?_; first | (refine cw_seq ?_) | (refine cw_region ?_) | (refine cw_true rfl (by first | assumption | exact decide_eq_true (by omega) | exact dec_notT (by omega)) ?_) | (refine cw_skip ?_) | (refine cw_block ?_)) | (refine is_qw ?_; first | (with_reducible refine qw_then ?_)) | (refine lw_nil ?_) | ((refine is_bin ?_; first | (refine lw_pure rfl (pv_lss rfl rfl) ?_))) | ((refine is_load ?_; first | (refine lw_pure rfl (pv_load (t1 rfl) rfl (by first | exact PT.ld0 (H.mono hw) rfl | exact PT.ld (H.mono hw) rfl)) ?_))) | ((refine is_fa ?_; first | (refine lw_pure rfl (pv_fa (tF rfl) rfl) ?_))) | ((refine is_bi ?_; first | (refine lw_pure rfl (pv_lenl (tS rfl) rfl) ?_))) | (refine lw_pure rfl (pv_nilp rfl) ?_))
    refine cw_drawn (fun w' => Below w.heap.size w w') (by kernel_rfl) (by repeat (first | exact NoPanic.body | with_reducible refine NoPanic.then ?_ | with_reducible refine NoPanic.inBlock ?_)) (fun hNP => ?_)
    have hS := hw.drew
    all_goals (refine at0 0 rfl (fun w' hq => pv_move rfl) ?_)
    all_goals (refine at0 1 rfl (fun w' hq => pv_move rfl) ?_)
    all_goals (refine at0 2 rfl (fun w' hq => pv_nilp rfl) ?_)
    all_goals (refine at0 3 rfl (fun w' hq => pv_fa (tF rfl) rfl) ?_)
    all_goals (refine at0 4 rfl (fun w' hq => pv_load (t1 rfl) rfl (by first | exact PT.ld0 (H.mono hq) rfl | exact PT.ld (H.mono hq) rfl | exact SlR.ld (HS.mono hq) hxk rfl | exact SlR.ld1 (HS.mono hq) hxk rfl)) ?_)
    all_goals (refine at0 5 rfl (fun w' hq => pv_move rfl) ?_)
    all_goals (refine at0 6 rfl (fun w' hq => pv_ian (tS rfl) rfl rfl (by omega)) ?_)
    all_goals (refine at0 7 rfl (fun w' hq => pv_fa (tF rfl) rfl) ?_)
    all_goals (refine at0 8 rfl (fun w' hq => pv_load (t1 rfl) rfl (by first | exact PT.ld0 (H.mono hq) rfl | exact PT.ld (H.mono hq) rfl | exact SlR.ld (HS.mono hq) hxk rfl | exact SlR.ld1 (HS.mono hq) hxk rfl)) ?_)
    all_goals (refine at0 9 rfl (fun w' hq => pv_lens (tStr rfl) rfl) ?_)
    all_goals (refine at0 10 rfl (fun w' hq => pv_add rfl rfl (by omega)) ?_)
    all_goals (refine at0 11 rfl (fun w' hq => pv_move rfl) ?_)
    all_goals (refine at0 12 rfl (fun w' hq => pv_nilp rfl) ?_)
    all_goals (refine at0 13 rfl (fun w' hq => pv_fa (tF rfl) rfl) ?_)
    all_goals (refine at0 14 rfl (fun w' hq => pv_load (t1 rfl) rfl (by first | exact PT.ld0 (H.mono hq) rfl | exact PT.ld (H.mono hq) rfl | exact SlR.ld (HS.mono hq) hxk rfl | exact SlR.ld1 (HS.mono hq) hxk rfl)) ?_)
    all_goals (refine at0 15 rfl (fun w' hq => pv_move rfl) ?_)
    all_goals (refine at0 16 rfl (fun w' hq => pv_ian (tS rfl) rfl rfl (by omega)) ?_)
    all_goals (refine at0 17 rfl (fun w' hq => pv_fa (tF rfl) rfl) ?_)
    all_goals (refine at0 18 rfl (fun w' hq => pv_load (t1 rfl) rfl (by first | exact PT.ld0 (H.mono hq) rfl | exact PT.ld (H.mono hq) rfl | exact SlR.ld (HS.mono hq) hxk rfl | exact SlR.ld1 (HS.mono hq) hxk rfl)) ?_)
    all_goals (refine at0 19 rfl (fun w' hq => pv_lens (tStr rfl) rfl) ?_)
    all_goals (refine at0 20 rfl (fun w' hq => pv_add rfl rfl (by omega)) ?_)
    all_goals (refine at0 21 rfl (fun w' hq => pv_assign rfl) ?_)
    all_goals (refine aw_done (by kernel_rfl) ?_; replace hw := hS; clear hS hNP)
    repeat' (first | (refine lw_pure rfl (pv_move rfl) ?_) | (refine lw_pure rfl (pv_assign rfl) ?_) | (refine is_cw ?_; first | (refine cw_region ?_)) | (refine is_qw ?_; first | (with_reducible refine qw_then ?_) | (with_reducible refine qw_in ?_)) | (refine lw_nil ?_) | ((refine is_bin ?_; first | (refine lw_pure rfl (pv_inc rfl rfl (by omega)) ?_))))
    exact qw_round (k + 1, n + f.firm.size + f.pend.size) (by repeat' (first | exact trivial | refine ⟨rfl, ?_⟩)) ⟨by show k + 1 ≤ _; omega, by show n + f.firm.size + f.pend.size = usedF (d.fs.take (k + 1)); omega, hw⟩ (by show d.fs.length - (k + 1) < d.fs.length - k; omega)
  · have hkl : k = d.fs.length := by omega
    subst hkl
    rw [List.take_length] at hn
    subst hn
    repeat' (first | (refine lw_pure rfl (pv_move rfl) ?_) | (refine lw_pure rfl (pv_assign rfl) ?_) | (refine is_cw ?_; first | (refine cw_seq ?_) | (refine cw_region ?_) | (refine cw_false rfl (by first | assumption | exact decide_eq_false (by omega) | exact dec_notF (by omega)) ?_) | (refine cw_exit ?_) | (refine cw_ret ?_)) | (refine is_qw ?_; first | (with_reducible refine qw_then ?_) | (with_reducible refine qw_in_hit ?_) | (with_reducible refine qw_then_exit ?_)) | (refine lw_nil ?_) | ((refine is_bin ?_; first | (refine lw_pure rfl (pv_lss rfl rfl) ?_))) | ((refine is_load ?_; first | (refine lw_pure rfl (pv_load (t1 rfl) rfl (by first | exact PT.ld0 (H.mono hw) rfl | exact PT.ld (H.mono hw) rfl)) ?_))) | ((refine is_fa ?_; first | (refine lw_pure rfl (pv_fa (tF rfl) rfl) ?_))) | ((refine is_bi ?_; first | (refine lw_pure rfl (pv_lenl (tS rfl) rfl) ?_))) | (refine lw_pure rfl (pv_nilp rfl) ?_))
    exact qw_ret1 rfl rfl ⟨rfl, hw⟩
set_option maxRecDepth 20000 in
theorem rsame_c {w : World} {b1 b2 N1 N2 : Nat} {v1 v2 : Value} {a b : Dsk} (h1 : RkW w b1 N1 v1 a) (h2 : RkW w b2 N2 v2 b) : Calls Tryz.prog 13 #[.pointer (some ⟨N1, 0, none⟩), .pointer (some ⟨N2, 0, none⟩)] w fun e w' => e = .returned (.bool (decide (a = b))) ∧ Below w.heap.size w w' := by
  obtain ⟨a1, c1, rfl, HA, -⟩ := Own.slR encF_len h1.own
  obtain ⟨a2, c2, rfl, HB, -⟩ := Own.slR encF_len h2.own
  have H1 := h1.obj
  have H2 := h2.obj
  have hw := Below.refl w.heap.size w
  refine fn_enter 47 Tryz.func13 rfl rfl rfl ?_
  repeat' (first | (refine lw_pure rfl (pv_assign rfl) ?_) | (refine is_cw ?_; first | (refine cw_seq ?_) | (refine cw_region ?_)) | (refine is_qw ?_; first | (with_reducible refine qw_then ?_)) | (refine lw_nil ?_))
  by_cases hc : a.cap = b.cap
  · by_cases hl : a.left = b.left
    · cases hd : (a.dark == b.dark) with
      | true =>
        have hd2 : a.dark = b.dark := by simpa using hd
        have e : decide (a = b) = decide (a.fs = b.fs) := by rw [decide_eq_decide, dsk_ext]; exact ⟨fun h => h.1, fun h => ⟨h, hc, hl, hd2⟩⟩
        rw [e]
        refine cw_drawn (fun w' => Below w.heap.size w w') (by kernel_rfl) (by repeat (first | exact NoPanic.body | with_reducible refine NoPanic.then ?_ | with_reducible refine NoPanic.inBlock ?_)) (fun hNP => ?_)
        have hS := hw.drew
        all_goals (refine at0 0 rfl (fun w' hq => pv_move rfl) ?_)
        all_goals (refine at0 1 rfl (fun w' hq => pv_nilp rfl) ?_)
        all_goals (refine at0 2 rfl (fun w' hq => pv_fa (tF rfl) rfl) ?_)
        all_goals (refine at0 3 rfl (fun w' hq => pv_load (t1 rfl) rfl (by first | exact PT.ld0 (H1.mono hq) rfl | exact PT.ld (H1.mono hq) rfl | exact PT.ld0 (H2.mono hq) rfl | exact PT.ld (H2.mono hq) rfl)) ?_)
        all_goals (refine at0 4 rfl (fun w' hq => pv_move rfl) ?_)
        all_goals (refine at0 5 rfl (fun w' hq => pv_nilp rfl) ?_)
        all_goals (refine at0 6 rfl (fun w' hq => pv_fa (tF rfl) rfl) ?_)
        all_goals (refine at0 7 rfl (fun w' hq => pv_load (t1 rfl) rfl (by first | exact PT.ld0 (H1.mono hq) rfl | exact PT.ld (H1.mono hq) rfl | exact PT.ld0 (H2.mono hq) rfl | exact PT.ld (H2.mono hq) rfl)) ?_)
        all_goals (refine at0 8 rfl (fun w' hq => pv_eql rfl rfl) ?_)
        all_goals (refine at0 9 rfl (fun w' hq => pv_move rfl) ?_)
        all_goals (refine at2 10 rfl rfl rfl (fun w' hq => pv_move rfl) ?_)
        all_goals (refine at2 11 rfl rfl rfl (fun w' hq => pv_nilp rfl) ?_)
        all_goals (refine at2 12 rfl rfl rfl (fun w' hq => pv_fa (tF rfl) rfl) ?_)
        all_goals (refine at2 13 rfl rfl rfl (fun w' hq => pv_load (t1 rfl) rfl (by first | exact PT.ld0 (H1.mono hq) rfl | exact PT.ld (H1.mono hq) rfl | exact PT.ld0 (H2.mono hq) rfl | exact PT.ld (H2.mono hq) rfl)) ?_)
        all_goals (refine at2 14 rfl rfl rfl (fun w' hq => pv_move rfl) ?_)
        all_goals (refine at2 15 rfl rfl rfl (fun w' hq => pv_nilp rfl) ?_)
        all_goals (refine at2 16 rfl rfl rfl (fun w' hq => pv_fa (tF rfl) rfl) ?_)
        all_goals (refine at2 17 rfl rfl rfl (fun w' hq => pv_load (t1 rfl) rfl (by first | exact PT.ld0 (H1.mono hq) rfl | exact PT.ld (H1.mono hq) rfl | exact PT.ld0 (H2.mono hq) rfl | exact PT.ld (H2.mono hq) rfl)) ?_)
        all_goals (refine at2 18 rfl rfl rfl (fun w' hq => pv_eql rfl rfl) ?_)
        all_goals (refine at0 19 rfl (fun w' hq => pv_pick_t rfl (by first | assumption | exact decide_eq_true (by omega) | exact dec_notT (by omega)) rfl) ?_)
        all_goals (refine at0 20 rfl (fun w' hq => pv_move rfl) ?_)
        all_goals (refine at2 21 rfl rfl rfl (fun w' hq => pv_move rfl) ?_)
        all_goals (refine at2 22 rfl rfl rfl (fun w' hq => pv_nilp rfl) ?_)
        all_goals (refine at2 23 rfl rfl rfl (fun w' hq => pv_fa (tF rfl) rfl) ?_)
        all_goals (refine at2 24 rfl rfl rfl (fun w' hq => pv_load (t1 rfl) rfl (by first | exact PT.ld0 (H1.mono hq) rfl | exact PT.ld (H1.mono hq) rfl | exact PT.ld0 (H2.mono hq) rfl | exact PT.ld (H2.mono hq) rfl)) ?_)
        all_goals (refine at2 25 rfl rfl rfl (fun w' hq => pv_move rfl) ?_)
        all_goals (refine at2 26 rfl rfl rfl (fun w' hq => pv_nilp rfl) ?_)
        all_goals (refine at2 27 rfl rfl rfl (fun w' hq => pv_fa (tF rfl) rfl) ?_)
        all_goals (refine at2 28 rfl rfl rfl (fun w' hq => pv_load (t1 rfl) rfl (by first | exact PT.ld0 (H1.mono hq) rfl | exact PT.ld (H1.mono hq) rfl | exact PT.ld0 (H2.mono hq) rfl | exact PT.ld (H2.mono hq) rfl)) ?_)
        all_goals (refine at2 29 rfl rfl rfl (fun w' hq => pv_beql (tBo rfl) rfl rfl) ?_)
        all_goals (refine at0 30 rfl (fun w' hq => pv_pick_t rfl (by first | assumption | exact decide_eq_true (by omega) | exact dec_notT (by omega)) rfl) ?_)
        all_goals (refine at0 31 rfl (fun w' hq => pv_move rfl) ?_)
        all_goals (refine at2 32 rfl rfl rfl (fun w' hq => pv_move rfl) ?_)
        all_goals (refine at2 33 rfl rfl rfl (fun w' hq => pv_nilp rfl) ?_)
        all_goals (refine at2 34 rfl rfl rfl (fun w' hq => pv_fa (tF rfl) rfl) ?_)
        all_goals (refine at2 35 rfl rfl rfl (fun w' hq => pv_load (t1 rfl) rfl (by first | exact PT.ld0 (H1.mono hq) rfl | exact PT.ld (H1.mono hq) rfl | exact PT.ld0 (H2.mono hq) rfl | exact PT.ld (H2.mono hq) rfl)) ?_)
        all_goals (refine at2 36 rfl rfl rfl (fun w' hq => pv_move rfl) ?_)
        all_goals (refine at2 37 rfl rfl rfl (fun w' hq => pv_nilp rfl) ?_)
        all_goals (refine at2 38 rfl rfl rfl (fun w' hq => pv_fa (tF rfl) rfl) ?_)
        all_goals (refine at2 39 rfl rfl rfl (fun w' hq => pv_load (t1 rfl) rfl (by first | exact PT.ld0 (H1.mono hq) rfl | exact PT.ld (H1.mono hq) rfl | exact PT.ld0 (H2.mono hq) rfl | exact PT.ld (H2.mono hq) rfl)) ?_)
        all_goals first | (refine an3 40 rfl rfl rfl ?_) | (refine an0 40 rfl rfl rfl ?_) | (refine aw_act_g 40 (by kernel_rfl) rfl rfl rfl (by first | rfl | assumption | exact decide_eq_true (by omega) | exact decide_eq_false (by omega) | exact dec_notT (by omega) | exact dec_notF (by omega)) rfl ?_; refine act_call (f := 44) (by kernel_rfl) rfl (rfiles_c rfl rfl (HA.mono hS) (HB.mono hS)) ?_; rintro e w1 ⟨rfl, hb⟩; refine ⟨_, rfl, grow_trans hS hb, fun hS => ?_⟩)
        all_goals (refine at0 41 rfl (fun w' hq => pv_pick_t rfl (by first | assumption | exact decide_eq_true (by omega) | exact dec_notT (by omega)) rfl) ?_)
        all_goals (refine at0 42 rfl (fun w' hq => pv_assign rfl) ?_)
        all_goals (refine aw_done (by kernel_rfl) ?_; replace hw := hS; clear hS hNP)
        repeat' (first | (refine is_cw ?_; first | (refine cw_ret ?_)) | (refine is_qw ?_; first | (with_reducible refine qw_then ?_)))
        exact qw_ret1 rfl rfl ⟨rfl, hw⟩
      | false =>
        have hne : ¬ a = b := fun e => by rw [e] at hd; simp at hd
        rw [decide_eq_false hne]
        refine cw_drawn (fun w' => Below w.heap.size w w') (by kernel_rfl) (by repeat (first | exact NoPanic.body | with_reducible refine NoPanic.then ?_ | with_reducible refine NoPanic.inBlock ?_)) (fun hNP => ?_)
        have hS := hw.drew
        all_goals (refine at0 0 rfl (fun w' hq => pv_move rfl) ?_)
        all_goals (refine at0 1 rfl (fun w' hq => pv_nilp rfl) ?_)
        all_goals (refine at0 2 rfl (fun w' hq => pv_fa (tF rfl) rfl) ?_)
        all_goals (refine at0 3 rfl (fun w' hq => pv_load (t1 rfl) rfl (by first | exact PT.ld0 (H1.mono hq) rfl | exact PT.ld (H1.mono hq) rfl | exact PT.ld0 (H2.mono hq) rfl | exact PT.ld (H2.mono hq) rfl)) ?_)
        all_goals (refine at0 4 rfl (fun w' hq => pv_move rfl) ?_)
        all_goals (refine at0 5 rfl (fun w' hq => pv_nilp rfl) ?_)
        all_goals (refine at0 6 rfl (fun w' hq => pv_fa (tF rfl) rfl) ?_)
        all_goals (refine at0 7 rfl (fun w' hq => pv_load (t1 rfl) rfl (by first | exact PT.ld0 (H1.mono hq) rfl | exact PT.ld (H1.mono hq) rfl | exact PT.ld0 (H2.mono hq) rfl | exact PT.ld (H2.mono hq) rfl)) ?_)
        all_goals (refine at0 8 rfl (fun w' hq => pv_eql rfl rfl) ?_)
        all_goals (refine at0 9 rfl (fun w' hq => pv_move rfl) ?_)
        all_goals (refine at2 10 rfl rfl rfl (fun w' hq => pv_move rfl) ?_)
        all_goals (refine at2 11 rfl rfl rfl (fun w' hq => pv_nilp rfl) ?_)
        all_goals (refine at2 12 rfl rfl rfl (fun w' hq => pv_fa (tF rfl) rfl) ?_)
        all_goals (refine at2 13 rfl rfl rfl (fun w' hq => pv_load (t1 rfl) rfl (by first | exact PT.ld0 (H1.mono hq) rfl | exact PT.ld (H1.mono hq) rfl | exact PT.ld0 (H2.mono hq) rfl | exact PT.ld (H2.mono hq) rfl)) ?_)
        all_goals (refine at2 14 rfl rfl rfl (fun w' hq => pv_move rfl) ?_)
        all_goals (refine at2 15 rfl rfl rfl (fun w' hq => pv_nilp rfl) ?_)
        all_goals (refine at2 16 rfl rfl rfl (fun w' hq => pv_fa (tF rfl) rfl) ?_)
        all_goals (refine at2 17 rfl rfl rfl (fun w' hq => pv_load (t1 rfl) rfl (by first | exact PT.ld0 (H1.mono hq) rfl | exact PT.ld (H1.mono hq) rfl | exact PT.ld0 (H2.mono hq) rfl | exact PT.ld (H2.mono hq) rfl)) ?_)
        all_goals (refine at2 18 rfl rfl rfl (fun w' hq => pv_eql rfl rfl) ?_)
        all_goals (refine at0 19 rfl (fun w' hq => pv_pick_t rfl (by first | assumption | exact decide_eq_true (by omega) | exact dec_notT (by omega)) rfl) ?_)
        all_goals (refine at0 20 rfl (fun w' hq => pv_move rfl) ?_)
        all_goals (refine at2 21 rfl rfl rfl (fun w' hq => pv_move rfl) ?_)
        all_goals (refine at2 22 rfl rfl rfl (fun w' hq => pv_nilp rfl) ?_)
        all_goals (refine at2 23 rfl rfl rfl (fun w' hq => pv_fa (tF rfl) rfl) ?_)
        all_goals (refine at2 24 rfl rfl rfl (fun w' hq => pv_load (t1 rfl) rfl (by first | exact PT.ld0 (H1.mono hq) rfl | exact PT.ld (H1.mono hq) rfl | exact PT.ld0 (H2.mono hq) rfl | exact PT.ld (H2.mono hq) rfl)) ?_)
        all_goals (refine at2 25 rfl rfl rfl (fun w' hq => pv_move rfl) ?_)
        all_goals (refine at2 26 rfl rfl rfl (fun w' hq => pv_nilp rfl) ?_)
        all_goals (refine at2 27 rfl rfl rfl (fun w' hq => pv_fa (tF rfl) rfl) ?_)
        all_goals (refine at2 28 rfl rfl rfl (fun w' hq => pv_load (t1 rfl) rfl (by first | exact PT.ld0 (H1.mono hq) rfl | exact PT.ld (H1.mono hq) rfl | exact PT.ld0 (H2.mono hq) rfl | exact PT.ld (H2.mono hq) rfl)) ?_)
        all_goals (refine at2 29 rfl rfl rfl (fun w' hq => pv_beql (tBo rfl) rfl rfl) ?_)
        all_goals (refine at0 30 rfl (fun w' hq => pv_pick_t rfl (by first | assumption | exact decide_eq_true (by omega) | exact dec_notT (by omega)) rfl) ?_)
        all_goals (refine at0 31 rfl (fun w' hq => pv_move rfl) ?_)
        all_goals (refine an2 32 rfl rfl rfl ?_)
        all_goals (refine an2 33 rfl rfl rfl ?_)
        all_goals (refine an2 34 rfl rfl rfl ?_)
        all_goals (refine an2 35 rfl rfl rfl ?_)
        all_goals (refine an2 36 rfl rfl rfl ?_)
        all_goals (refine an2 37 rfl rfl rfl ?_)
        all_goals (refine an2 38 rfl rfl rfl ?_)
        all_goals (refine an2 39 rfl rfl rfl ?_)
        all_goals first | (refine an3 40 rfl rfl rfl ?_) | (refine an0 40 rfl rfl rfl ?_) | (refine aw_act_g 40 (by kernel_rfl) rfl rfl rfl (by first | rfl | assumption | exact decide_eq_true (by omega) | exact decide_eq_false (by omega) | exact dec_notT (by omega) | exact dec_notF (by omega)) rfl ?_; refine act_call (f := 44) (by kernel_rfl) rfl (rfiles_c rfl rfl (HA.mono hS) (HB.mono hS)) ?_; rintro e w1 ⟨rfl, hb⟩; refine ⟨_, rfl, grow_trans hS hb, fun hS => ?_⟩)
        all_goals (refine at0 41 rfl (fun w' hq => pv_pick_f rfl (by first | assumption | exact decide_eq_false (by omega) | exact dec_notF (by omega)) rfl) ?_)
        all_goals (refine at0 42 rfl (fun w' hq => pv_assign rfl) ?_)
        all_goals (refine aw_done (by kernel_rfl) ?_; replace hw := hS; clear hS hNP)
        repeat' (first | (refine is_cw ?_; first | (refine cw_ret ?_)) | (refine is_qw ?_; first | (with_reducible refine qw_then ?_)))
        exact qw_ret1 rfl rfl ⟨rfl, hw⟩
    · have hne : ¬ a = b := fun e => hl (by rw [e])
      rw [decide_eq_false hne]
      refine cw_drawn (fun w' => Below w.heap.size w w') (by kernel_rfl) (by repeat (first | exact NoPanic.body | with_reducible refine NoPanic.then ?_ | with_reducible refine NoPanic.inBlock ?_)) (fun hNP => ?_)
      have hS := hw.drew
      all_goals (refine at0 0 rfl (fun w' hq => pv_move rfl) ?_)
      all_goals (refine at0 1 rfl (fun w' hq => pv_nilp rfl) ?_)
      all_goals (refine at0 2 rfl (fun w' hq => pv_fa (tF rfl) rfl) ?_)
      all_goals (refine at0 3 rfl (fun w' hq => pv_load (t1 rfl) rfl (by first | exact PT.ld0 (H1.mono hq) rfl | exact PT.ld (H1.mono hq) rfl | exact PT.ld0 (H2.mono hq) rfl | exact PT.ld (H2.mono hq) rfl)) ?_)
      all_goals (refine at0 4 rfl (fun w' hq => pv_move rfl) ?_)
      all_goals (refine at0 5 rfl (fun w' hq => pv_nilp rfl) ?_)
      all_goals (refine at0 6 rfl (fun w' hq => pv_fa (tF rfl) rfl) ?_)
      all_goals (refine at0 7 rfl (fun w' hq => pv_load (t1 rfl) rfl (by first | exact PT.ld0 (H1.mono hq) rfl | exact PT.ld (H1.mono hq) rfl | exact PT.ld0 (H2.mono hq) rfl | exact PT.ld (H2.mono hq) rfl)) ?_)
      all_goals (refine at0 8 rfl (fun w' hq => pv_eql rfl rfl) ?_)
      all_goals (refine at0 9 rfl (fun w' hq => pv_move rfl) ?_)
      all_goals (refine at2 10 rfl rfl rfl (fun w' hq => pv_move rfl) ?_)
      all_goals (refine at2 11 rfl rfl rfl (fun w' hq => pv_nilp rfl) ?_)
      all_goals (refine at2 12 rfl rfl rfl (fun w' hq => pv_fa (tF rfl) rfl) ?_)
      all_goals (refine at2 13 rfl rfl rfl (fun w' hq => pv_load (t1 rfl) rfl (by first | exact PT.ld0 (H1.mono hq) rfl | exact PT.ld (H1.mono hq) rfl | exact PT.ld0 (H2.mono hq) rfl | exact PT.ld (H2.mono hq) rfl)) ?_)
      all_goals (refine at2 14 rfl rfl rfl (fun w' hq => pv_move rfl) ?_)
      all_goals (refine at2 15 rfl rfl rfl (fun w' hq => pv_nilp rfl) ?_)
      all_goals (refine at2 16 rfl rfl rfl (fun w' hq => pv_fa (tF rfl) rfl) ?_)
      all_goals (refine at2 17 rfl rfl rfl (fun w' hq => pv_load (t1 rfl) rfl (by first | exact PT.ld0 (H1.mono hq) rfl | exact PT.ld (H1.mono hq) rfl | exact PT.ld0 (H2.mono hq) rfl | exact PT.ld (H2.mono hq) rfl)) ?_)
      all_goals (refine at2 18 rfl rfl rfl (fun w' hq => pv_eql rfl rfl) ?_)
      all_goals (refine at0 19 rfl (fun w' hq => pv_pick_t rfl (by first | assumption | exact decide_eq_true (by omega) | exact dec_notT (by omega)) rfl) ?_)
      all_goals (refine at0 20 rfl (fun w' hq => pv_move rfl) ?_)
      all_goals (refine an2 21 rfl rfl rfl ?_)
      all_goals (refine an2 22 rfl rfl rfl ?_)
      all_goals (refine an2 23 rfl rfl rfl ?_)
      all_goals (refine an2 24 rfl rfl rfl ?_)
      all_goals (refine an2 25 rfl rfl rfl ?_)
      all_goals (refine an2 26 rfl rfl rfl ?_)
      all_goals (refine an2 27 rfl rfl rfl ?_)
      all_goals (refine an2 28 rfl rfl rfl ?_)
      all_goals (refine an2 29 rfl rfl rfl ?_)
      all_goals (refine at0 30 rfl (fun w' hq => pv_pick_f rfl (by first | assumption | exact decide_eq_false (by omega) | exact dec_notF (by omega)) rfl) ?_)
      all_goals (refine at0 31 rfl (fun w' hq => pv_move rfl) ?_)
      all_goals (refine an1 32 rfl rfl rfl rfl ?_)
      all_goals (refine an1 33 rfl rfl rfl rfl ?_)
      all_goals (refine an1 34 rfl rfl rfl rfl ?_)
      all_goals (refine an1 35 rfl rfl rfl rfl ?_)
      all_goals (refine an1 36 rfl rfl rfl rfl ?_)
      all_goals (refine an1 37 rfl rfl rfl rfl ?_)
      all_goals (refine an1 38 rfl rfl rfl rfl ?_)
      all_goals (refine an1 39 rfl rfl rfl rfl ?_)
      all_goals first | (refine an3 40 rfl rfl rfl ?_) | (refine an0 40 rfl rfl rfl ?_) | (refine aw_act_g 40 (by kernel_rfl) rfl rfl rfl (by first | rfl | assumption | exact decide_eq_true (by omega) | exact decide_eq_false (by omega) | exact dec_notT (by omega) | exact dec_notF (by omega)) rfl ?_; refine act_call (f := 44) (by kernel_rfl) rfl (rfiles_c rfl rfl (HA.mono hS) (HB.mono hS)) ?_; rintro e w1 ⟨rfl, hb⟩; refine ⟨_, rfl, grow_trans hS hb, fun hS => ?_⟩)
      all_goals (refine at0 41 rfl (fun w' hq => pv_pick_f rfl rfl rfl) ?_)
      all_goals (refine at0 42 rfl (fun w' hq => pv_assign rfl) ?_)
      all_goals (refine aw_done (by kernel_rfl) ?_; replace hw := hS; clear hS hNP)
      repeat' (first | (refine is_cw ?_; first | (refine cw_ret ?_)) | (refine is_qw ?_; first | (with_reducible refine qw_then ?_)))
      exact qw_ret1 rfl rfl ⟨rfl, hw⟩
  · have hne : ¬ a = b := fun e => hc (by rw [e])
    rw [decide_eq_false hne]
    refine cw_drawn (fun w' => Below w.heap.size w w') (by kernel_rfl) (by repeat (first | exact NoPanic.body | with_reducible refine NoPanic.then ?_ | with_reducible refine NoPanic.inBlock ?_)) (fun hNP => ?_)
    have hS := hw.drew
    all_goals (refine at0 0 rfl (fun w' hq => pv_move rfl) ?_)
    all_goals (refine at0 1 rfl (fun w' hq => pv_nilp rfl) ?_)
    all_goals (refine at0 2 rfl (fun w' hq => pv_fa (tF rfl) rfl) ?_)
    all_goals (refine at0 3 rfl (fun w' hq => pv_load (t1 rfl) rfl (by first | exact PT.ld0 (H1.mono hq) rfl | exact PT.ld (H1.mono hq) rfl | exact PT.ld0 (H2.mono hq) rfl | exact PT.ld (H2.mono hq) rfl)) ?_)
    all_goals (refine at0 4 rfl (fun w' hq => pv_move rfl) ?_)
    all_goals (refine at0 5 rfl (fun w' hq => pv_nilp rfl) ?_)
    all_goals (refine at0 6 rfl (fun w' hq => pv_fa (tF rfl) rfl) ?_)
    all_goals (refine at0 7 rfl (fun w' hq => pv_load (t1 rfl) rfl (by first | exact PT.ld0 (H1.mono hq) rfl | exact PT.ld (H1.mono hq) rfl | exact PT.ld0 (H2.mono hq) rfl | exact PT.ld (H2.mono hq) rfl)) ?_)
    all_goals (refine at0 8 rfl (fun w' hq => pv_eql rfl rfl) ?_)
    all_goals (refine at0 9 rfl (fun w' hq => pv_move rfl) ?_)
    all_goals (refine an2 10 rfl rfl rfl ?_)
    all_goals (refine an2 11 rfl rfl rfl ?_)
    all_goals (refine an2 12 rfl rfl rfl ?_)
    all_goals (refine an2 13 rfl rfl rfl ?_)
    all_goals (refine an2 14 rfl rfl rfl ?_)
    all_goals (refine an2 15 rfl rfl rfl ?_)
    all_goals (refine an2 16 rfl rfl rfl ?_)
    all_goals (refine an2 17 rfl rfl rfl ?_)
    all_goals (refine an2 18 rfl rfl rfl ?_)
    all_goals (refine at0 19 rfl (fun w' hq => pv_pick_f rfl (by first | assumption | exact decide_eq_false (by omega) | exact dec_notF (by omega)) rfl) ?_)
    all_goals (refine at0 20 rfl (fun w' hq => pv_move rfl) ?_)
    all_goals (refine an1 21 rfl rfl rfl rfl ?_)
    all_goals (refine an1 22 rfl rfl rfl rfl ?_)
    all_goals (refine an1 23 rfl rfl rfl rfl ?_)
    all_goals (refine an1 24 rfl rfl rfl rfl ?_)
    all_goals (refine an1 25 rfl rfl rfl rfl ?_)
    all_goals (refine an1 26 rfl rfl rfl rfl ?_)
    all_goals (refine an1 27 rfl rfl rfl rfl ?_)
    all_goals (refine an1 28 rfl rfl rfl rfl ?_)
    all_goals (refine an1 29 rfl rfl rfl rfl ?_)
    all_goals (refine at0 30 rfl (fun w' hq => pv_pick_f rfl rfl rfl) ?_)
    all_goals (refine at0 31 rfl (fun w' hq => pv_move rfl) ?_)
    all_goals (refine an1 32 rfl rfl rfl rfl ?_)
    all_goals (refine an1 33 rfl rfl rfl rfl ?_)
    all_goals (refine an1 34 rfl rfl rfl rfl ?_)
    all_goals (refine an1 35 rfl rfl rfl rfl ?_)
    all_goals (refine an1 36 rfl rfl rfl rfl ?_)
    all_goals (refine an1 37 rfl rfl rfl rfl ?_)
    all_goals (refine an1 38 rfl rfl rfl rfl ?_)
    all_goals (refine an1 39 rfl rfl rfl rfl ?_)
    all_goals first | (refine an3 40 rfl rfl rfl ?_) | (refine an0 40 rfl rfl rfl ?_) | (refine aw_act_g 40 (by kernel_rfl) rfl rfl rfl (by first | rfl | assumption | exact decide_eq_true (by omega) | exact decide_eq_false (by omega) | exact dec_notT (by omega) | exact dec_notF (by omega)) rfl ?_; refine act_call (f := 44) (by kernel_rfl) rfl (rfiles_c rfl rfl (HA.mono hS) (HB.mono hS)) ?_; rintro e w1 ⟨rfl, hb⟩; refine ⟨_, rfl, grow_trans hS hb, fun hS => ?_⟩)
    all_goals (refine at0 41 rfl (fun w' hq => pv_pick_f rfl rfl rfl) ?_)
    all_goals (refine at0 42 rfl (fun w' hq => pv_assign rfl) ?_)
    all_goals (refine aw_done (by kernel_rfl) ?_; replace hw := hS; clear hS hNP)
    repeat' (first | (refine is_cw ?_; first | (refine cw_ret ?_)) | (refine is_qw ?_; first | (with_reducible refine qw_then ?_)))
    exact qw_ret1 rfl rfl ⟨rfl, hw⟩
def RLoaded (w w' : World) (cap : Int) (l : List Fil) (e : Ending) : Prop := ((loadD cap l).1 ≠ 0 ∧ e = .returned (.tuple #[.pointer none, .int .i64 (loadD cap l).1])) ∨ ((loadD cap l).1 = 0 ∧ ∃ N v, e = .returned (.tuple #[.pointer (some ⟨N, 0, none⟩), .int .i64 0]) ∧ w.heap.size ≤ N ∧ RkW w' w.heap.size N v ⟨l, cap, -1, false⟩)
set_option maxRecDepth 20000 in
set_option maxHeartbeats 2000000 in
theorem rload_c {l : List Fil} {cap : Int} {n : Nat} {a : Option Addr} {ca : Nat} {w : World} (hn : l.length = n) (hcap : cap ≤ 9223372036854775807) (hsz : ∀ f ∈ l, f.name.size ≤ 4611686018427387903 ∧ f.firm.size ≤ 4611686018427387903 ∧ f.pend.size ≤ 4611686018427387903) (HS : SlR encF 3 w a ca l) : Calls Tryz.prog 7 #[.int .i64 cap, .slice a n ca] w fun e w' => RLoaded w w' cap l e ∧ Below w.heap.size w w' := by
  subst hn
  have hle := HS.le
  have hmx := HS.max
  have hw := Below.refl w.heap.size w
  refine fn_enter 76 Tryz.func7 rfl rfl rfl ?_
  by_cases hc : cap < 0
  · have e1 : (loadD cap l).1 = 1 := by unfold loadD; rw [if_pos hc]
    repeat' (first | (refine lw_pure rfl (pv_move rfl) ?_) | (refine lw_pure rfl (pv_assign rfl) ?_) | (refine is_cw ?_; first | (refine cw_seq ?_) | (refine cw_region ?_) | (refine cw_true rfl (by first | assumption | exact decide_eq_true (by omega) | exact dec_notT (by omega)) ?_) | (refine cw_ret ?_)) | (refine is_qw ?_; first | (with_reducible refine qw_then ?_) | (with_reducible refine qw_then_ret ?_)) | (refine lw_nil ?_) | ((refine is_bin ?_; first | (refine lw_pure rfl (pv_lss rfl rfl) ?_))))
    exact qw_ret2 rfl rfl rfl ⟨Or.inl ⟨by rw [e1]; decide, by rw [e1]⟩, hw⟩
  · repeat' (first | (refine lw_pure rfl (pv_move rfl) ?_) | (refine lw_pure rfl (pv_assign rfl) ?_) | (refine is_cw ?_; first | (refine cw_seq ?_) | (refine cw_region ?_) | (refine cw_false rfl (by first | assumption | exact decide_eq_false (by omega) | exact dec_notF (by omega)) ?_) | (refine cw_skip ?_) | (refine cw_block ?_)) | (refine is_qw ?_; first | (with_reducible refine qw_then ?_)) | (refine lw_nil ?_) | ((refine is_bin ?_; first | (refine lw_pure rfl (pv_lss rfl rfl) ?_))))
    refine cw_loop (σ := Nat × ByteArray × Nat) (fun s => [(0, .int .i64 cap), (1, .slice a l.length ca), (6, .int .i64 (s.2.2 : Nat)), (7, .int .i64 (s.1 : Nat))]) (fun s wr => s.1 ≤ l.length ∧ Below w.heap.size w wr ∧ Good l s.1 s.2.1 ∧ s.2.2 = usedF (l.take s.1)) (fun s => l.length - s.1) (0, emptyB, 0) (by repeat' (first | exact trivial | refine ⟨rfl, ?_⟩)) ⟨Nat.zero_le _, hw, ⟨List.Pairwise.nil, fun f hf => (by simp at hf), fun f hf => (by simp at hf), fun h => absurd h (Nat.lt_irrefl _), Or.inl ⟨rfl, rfl⟩⟩, rfl⟩ ?_
    clear hw
    rintro ⟨k, last, n⟩ wr ⟨hk, hw, hgd, hn⟩
    replace hk : k ≤ l.length := hk
    replace hgd : Good l k last := hgd
    replace hn : n = usedF (l.take k) := hn
    change CW Tryz.prog _ _ _ [(0, .int .i64 cap), (1, .slice a l.length ca), (6, .int .i64 (n : Nat)), (7, .int .i64 (k : Nat))] wr
    have hnb : n ≤ 64 * 1048576 := by
      by_cases h0 : 0 < k
      · have h1 := used_le hgd.sizes
        have h2 := hgd.cnt h0
        have h3 : (l.take k).length ≤ 64 := by rw [List.length_take]; omega
        have h4 : (l.take k).length * 1048576 ≤ 64 * 1048576 := Nat.mul_le_mul_right _ h3
        omega
      · have h1 : k = 0 := by omega
        subst h1
        rw [hn]
        exact Nat.zero_le _
    by_cases hlt : k < l.length
    · have hxk : l[k]? = some l[k] := List.getElem?_eq_getElem hlt
      generalize l[k] = f at hxk
      have hfm := List.mem_of_getElem? hxk
      obtain ⟨hz1, hz2, hz3⟩ := hsz f hfm
      have hzf : szF f = f.firm.size + f.pend.size := rfl
      have hut := usedT hxk
      have hnz : f.name.size ≤ 9223372036854775807 := by omega
      obtain ⟨ab, ao, rfl, -, -⟩ := HS.at (by intro h; rw [h] at hlt; simp at hlt)
      repeat' (first | (refine lw_pure rfl (pv_move rfl) ?_) | (refine is_cw ?_; first | (refine cw_seq ?_) | (refine cw_region ?_) | (refine cw_true rfl (by first | assumption | exact decide_eq_true (by omega) | exact dec_notT (by omega)) ?_) | (refine cw_skip ?_) | (refine cw_block ?_)) | (refine is_qw ?_; first | (with_reducible refine qw_then ?_)) | (refine lw_nil ?_) | ((refine is_bin ?_; first | (refine lw_pure rfl (pv_lss rfl rfl) ?_))) | ((refine is_bi ?_; first | (refine lw_pure rfl (pv_lenl (tS rfl) rfl) ?_))))
      refine cw_drawn (fun w' => Below w.heap.size w w') (by kernel_rfl) (by repeat (first | exact NoPanic.body | with_reducible refine NoPanic.then ?_ | with_reducible refine NoPanic.inBlock ?_)) (fun hNP => ?_)
      have hS := hw.drew
      all_goals (refine at0 0 rfl (fun w' hq => pv_move rfl) ?_)
      all_goals (refine at0 1 rfl (fun w' hq => pv_move rfl) ?_)
      all_goals (refine at0 2 rfl (fun w' hq => pv_ian (tS rfl) rfl rfl (by omega)) ?_)
      all_goals (refine at0 3 rfl (fun w' hq => pv_fa (tF rfl) rfl) ?_)
      all_goals (refine at0 4 rfl (fun w' hq => pv_load (t1 rfl) rfl (by first | exact SlR.ld (HS.mono hq) hxk rfl | exact SlR.ld1 (HS.mono hq) hxk rfl)) ?_)
      all_goals (refine at0 5 rfl (fun w' hq => pv_lens (tStr rfl) rfl) ?_)
      all_goals (refine at0 6 rfl (fun w' hq => pv_move rfl) ?_)
      all_goals (refine at0 7 rfl (fun w' hq => pv_move rfl) ?_)
      all_goals (refine at0 8 rfl (fun w' hq => pv_ian (tS rfl) rfl rfl (by omega)) ?_)
      all_goals (refine at0 9 rfl (fun w' hq => pv_fa (tF rfl) rfl) ?_)
      all_goals (refine at0 10 rfl (fun w' hq => pv_load (t1 rfl) rfl (by first | exact SlR.ld (HS.mono hq) hxk rfl | exact SlR.ld1 (HS.mono hq) hxk rfl)) ?_)
      all_goals (refine at0 11 rfl (fun w' hq => pv_lens (tStr rfl) rfl) ?_)
      all_goals (refine at0 12 rfl (fun w' hq => pv_add rfl rfl (by omega)) ?_)
      all_goals (refine at0 13 rfl (fun w' hq => pv_assign rfl) ?_)
      all_goals (refine aw_done (by kernel_rfl) ?_; replace hw := hS; clear hS hNP)
      repeat' (first | (refine is_cw ?_; first | (refine cw_seq ?_)) | (refine is_qw ?_; first | (with_reducible refine qw_then ?_)))
      cases hq : nameF f.name with
      | false =>
        have e4 : (loadD cap l).1 = 4 := by unfold loadD; rw [if_neg hc, if_pos (badF_name hfm hq)]
        refine cw_drawn (fun w' => Below w.heap.size w w') (by kernel_rfl) (by repeat (first | exact NoPanic.body | with_reducible refine NoPanic.then ?_ | with_reducible refine NoPanic.inBlock ?_)) (fun hNP => ?_)
        have hS := hw.drew
        all_goals (refine at0 0 rfl (fun w' hq => pv_move rfl) ?_)
        all_goals (refine at0 1 rfl (fun w' hq => pv_move rfl) ?_)
        all_goals (refine at0 2 rfl (fun w' hq => pv_ian (tS rfl) rfl rfl (by omega)) ?_)
        all_goals (refine at0 3 rfl (fun w' hq => pv_fa (tF rfl) rfl) ?_)
        all_goals (refine at0 4 rfl (fun w' hq => pv_load (t1 rfl) rfl (by first | exact SlR.ld (HS.mono hq) hxk rfl | exact SlR.ld1 (HS.mono hq) hxk rfl)) ?_)
        all_goals (refine aw_act 5 (by kernel_rfl) rfl rfl rfl ?_; refine act_call (f := 26) (by kernel_rfl) rfl (rname_is hnz hq _) ?_; rintro e w1 ⟨rfl, hb⟩; refine ⟨_, rfl, grow_trans hS hb, fun hS => ?_⟩)
        all_goals (refine at0 6 rfl (fun w' hq => pv_not rfl) ?_)
        all_goals (refine at0 7 rfl (fun w' hq => pv_move rfl) ?_)
        all_goals (refine an1 8 rfl rfl rfl rfl ?_)
        all_goals (refine an1 9 rfl rfl rfl rfl ?_)
        all_goals (refine an1 10 rfl rfl rfl rfl ?_)
        all_goals (refine an0 11 rfl rfl rfl ?_)
        all_goals (refine an0 12 rfl rfl rfl ?_)
        all_goals (refine an0 13 rfl rfl rfl ?_)
        all_goals (refine an0 14 rfl rfl rfl ?_)
        all_goals (refine an0 15 rfl rfl rfl ?_)
        all_goals (refine an0 16 rfl rfl rfl ?_)
        all_goals (refine an0 17 rfl rfl rfl ?_)
        all_goals (refine an0 18 rfl rfl rfl ?_)
        all_goals (refine an0 19 rfl rfl rfl ?_)
        all_goals (refine an0 20 rfl rfl rfl ?_)
        all_goals (refine an0 21 rfl rfl rfl ?_)
        all_goals (refine an0 22 rfl rfl rfl ?_)
        all_goals (refine an1 23 rfl rfl rfl rfl ?_)
        all_goals (refine at0 24 rfl (fun w' hq => pv_pick_t rfl rfl rfl) ?_)
        all_goals (refine at0 25 rfl (fun w' hq => pv_move rfl) ?_)
        all_goals (refine an1 26 rfl rfl rfl rfl ?_)
        all_goals (refine an1 27 rfl rfl rfl rfl ?_)
        all_goals (refine at0 28 rfl (fun w' hq => pv_pick_t rfl rfl rfl) ?_)
        all_goals (refine at0 29 rfl (fun w' hq => pv_move rfl) ?_)
        all_goals (refine an1 30 rfl rfl rfl rfl ?_)
        all_goals (refine an1 31 rfl rfl rfl rfl ?_)
        all_goals (refine an1 32 rfl rfl rfl rfl ?_)
        all_goals (refine at0 33 rfl (fun w' hq => pv_pick_t rfl rfl rfl) ?_)
        all_goals (refine aw_done (by kernel_rfl) ?_; replace hw := hS; clear hS hNP)
        repeat' (first | (refine lw_pure rfl (pv_assign rfl) ?_) | (refine is_cw ?_; first | (refine cw_seq ?_) | (refine cw_region ?_) | (refine cw_true rfl rfl ?_) | (refine cw_ret ?_)) | (refine is_qw ?_; first | (with_reducible refine qw_then ?_) | (with_reducible refine qw_then_ret ?_) | (with_reducible refine qw_in_ret ?_)) | (refine lw_nil ?_))
        exact qw_ret2 rfl rfl rfl ⟨Or.inl ⟨by rw [e4]; decide, by rw [e4]⟩, hw⟩
      | true =>
        rcases hgd.last with ⟨hk0, hl0⟩ | ⟨i, g, hki, hgi, hl0⟩
        · have hk0' : k = 0 := hk0
          have hlast : ltN last f.name := by rw [hl0]; exact nameF_ne hq
          by_cases hs : 1048576 < szF f
          · have e4 : (loadD cap l).1 = 4 := by unfold loadD; rw [if_neg hc, if_pos (badF_size hfm hs)]
            refine cw_drawn (fun w' => Below w.heap.size w w') (by kernel_rfl) (by repeat (first | exact NoPanic.body | with_reducible refine NoPanic.then ?_ | with_reducible refine NoPanic.inBlock ?_)) (fun hNP => ?_)
            have hS := hw.drew
            all_goals (refine at0 0 rfl (fun w' hq => pv_move rfl) ?_)
            all_goals (refine at0 1 rfl (fun w' hq => pv_move rfl) ?_)
            all_goals (refine at0 2 rfl (fun w' hq => pv_ian (tS rfl) rfl rfl (by omega)) ?_)
            all_goals (refine at0 3 rfl (fun w' hq => pv_fa (tF rfl) rfl) ?_)
            all_goals (refine at0 4 rfl (fun w' hq => pv_load (t1 rfl) rfl (by first | exact SlR.ld (HS.mono hq) hxk rfl | exact SlR.ld1 (HS.mono hq) hxk rfl)) ?_)
            all_goals (refine aw_act 5 (by kernel_rfl) rfl rfl rfl ?_; refine act_call (f := 26) (by kernel_rfl) rfl (rname_is hnz hq _) ?_; rintro e w1 ⟨rfl, hb⟩; refine ⟨_, rfl, grow_trans hS hb, fun hS => ?_⟩)
            all_goals (refine at0 6 rfl (fun w' hq => pv_not rfl) ?_)
            all_goals (refine at0 7 rfl (fun w' hq => pv_move rfl) ?_)
            all_goals (refine at1 8 rfl rfl rfl rfl (fun w' hq => pv_move rfl) ?_)
            all_goals (refine at1 9 rfl rfl rfl rfl (fun w' hq => pv_gtr rfl rfl) ?_)
            all_goals (refine at1 10 rfl rfl rfl rfl (fun w' hq => pv_move rfl) ?_)
            all_goals (refine an2 11 rfl rfl rfl ?_)
            all_goals (refine an2 12 rfl rfl rfl ?_)
            all_goals (refine an2 13 rfl rfl rfl ?_)
            all_goals (refine an2 14 rfl rfl rfl ?_)
            all_goals (refine an2 15 rfl rfl rfl ?_)
            all_goals (refine an2 16 rfl rfl rfl ?_)
            all_goals (refine an2 17 rfl rfl rfl ?_)
            all_goals (refine an2 18 rfl rfl rfl ?_)
            all_goals (refine an2 19 rfl rfl rfl ?_)
            all_goals (refine an2 20 rfl rfl rfl ?_)
            all_goals (refine an2 21 rfl rfl rfl ?_)
            all_goals (refine an2 22 rfl rfl rfl ?_)
            all_goals (refine at1 23 rfl rfl rfl rfl (fun w' hq => pv_pick_f rfl (by first | assumption | exact decide_eq_false (by omega) | exact dec_notF (by omega)) rfl) ?_)
            all_goals (refine at0 24 rfl (fun w' hq => pv_pick_f rfl rfl rfl) ?_)
            all_goals (refine at0 25 rfl (fun w' hq => pv_move rfl) ?_)
            all_goals (refine at1 26 rfl rfl rfl rfl (fun w' hq => pv_move rfl) ?_)
            all_goals (refine at1 27 rfl rfl rfl rfl (fun w' hq => pv_gtr rfl rfl) ?_)
            all_goals (refine at0 28 rfl (fun w' hq => pv_pick_f rfl rfl rfl) ?_)
            all_goals (refine at0 29 rfl (fun w' hq => pv_move rfl) ?_)
            all_goals (refine an2 30 rfl rfl rfl ?_)
            all_goals (refine an2 31 rfl rfl rfl ?_)
            all_goals (refine an2 32 rfl rfl rfl ?_)
            all_goals (refine at0 33 rfl (fun w' hq => pv_pick_t rfl (by first | assumption | exact decide_eq_true (by omega) | exact dec_notT (by omega)) rfl) ?_)
            all_goals (refine aw_done (by kernel_rfl) ?_; replace hw := hS; clear hS hNP)
            repeat' (first | (refine lw_pure rfl (pv_assign rfl) ?_) | (refine is_cw ?_; first | (refine cw_seq ?_) | (refine cw_region ?_) | (refine cw_true rfl rfl ?_) | (refine cw_ret ?_)) | (refine is_qw ?_; first | (with_reducible refine qw_then ?_) | (with_reducible refine qw_then_ret ?_) | (with_reducible refine qw_in_ret ?_)) | (refine lw_nil ?_))
            exact qw_ret2 rfl rfl rfl ⟨Or.inl ⟨by rw [e4]; decide, by rw [e4]⟩, hw⟩
          · by_cases h64 : 64 < l.length
            · have e4 : (loadD cap l).1 = 4 := by unfold loadD; rw [if_neg hc, if_pos (badF_len h64)]
              refine cw_drawn (fun w' => Below w.heap.size w w') (by kernel_rfl) (by repeat (first | exact NoPanic.body | with_reducible refine NoPanic.then ?_ | with_reducible refine NoPanic.inBlock ?_)) (fun hNP => ?_)
              have hS := hw.drew
              all_goals (refine at0 0 rfl (fun w' hq => pv_move rfl) ?_)
              all_goals (refine at0 1 rfl (fun w' hq => pv_move rfl) ?_)
              all_goals (refine at0 2 rfl (fun w' hq => pv_ian (tS rfl) rfl rfl (by omega)) ?_)
              all_goals (refine at0 3 rfl (fun w' hq => pv_fa (tF rfl) rfl) ?_)
              all_goals (refine at0 4 rfl (fun w' hq => pv_load (t1 rfl) rfl (by first | exact SlR.ld (HS.mono hq) hxk rfl | exact SlR.ld1 (HS.mono hq) hxk rfl)) ?_)
              all_goals (refine aw_act 5 (by kernel_rfl) rfl rfl rfl ?_; refine act_call (f := 26) (by kernel_rfl) rfl (rname_is hnz hq _) ?_; rintro e w1 ⟨rfl, hb⟩; refine ⟨_, rfl, grow_trans hS hb, fun hS => ?_⟩)
              all_goals (refine at0 6 rfl (fun w' hq => pv_not rfl) ?_)
              all_goals (refine at0 7 rfl (fun w' hq => pv_move rfl) ?_)
              all_goals (refine at1 8 rfl rfl rfl rfl (fun w' hq => pv_move rfl) ?_)
              all_goals (refine at1 9 rfl rfl rfl rfl (fun w' hq => pv_gtr rfl rfl) ?_)
              all_goals (refine at1 10 rfl rfl rfl rfl (fun w' hq => pv_move rfl) ?_)
              all_goals (refine an2 11 rfl rfl rfl ?_)
              all_goals (refine an2 12 rfl rfl rfl ?_)
              all_goals (refine an2 13 rfl rfl rfl ?_)
              all_goals (refine an2 14 rfl rfl rfl ?_)
              all_goals (refine an2 15 rfl rfl rfl ?_)
              all_goals (refine an2 16 rfl rfl rfl ?_)
              all_goals (refine an2 17 rfl rfl rfl ?_)
              all_goals (refine an2 18 rfl rfl rfl ?_)
              all_goals (refine an2 19 rfl rfl rfl ?_)
              all_goals (refine an2 20 rfl rfl rfl ?_)
              all_goals (refine an2 21 rfl rfl rfl ?_)
              all_goals (refine an2 22 rfl rfl rfl ?_)
              all_goals (refine at1 23 rfl rfl rfl rfl (fun w' hq => pv_pick_f rfl (by first | assumption | exact decide_eq_false (by omega) | exact dec_notF (by omega)) rfl) ?_)
              all_goals (refine at0 24 rfl (fun w' hq => pv_pick_f rfl rfl rfl) ?_)
              all_goals (refine at0 25 rfl (fun w' hq => pv_move rfl) ?_)
              all_goals (refine at1 26 rfl rfl rfl rfl (fun w' hq => pv_move rfl) ?_)
              all_goals (refine at1 27 rfl rfl rfl rfl (fun w' hq => pv_gtr rfl rfl) ?_)
              all_goals (refine at0 28 rfl (fun w' hq => pv_pick_f rfl rfl rfl) ?_)
              all_goals (refine at0 29 rfl (fun w' hq => pv_move rfl) ?_)
              all_goals (refine at2 30 rfl rfl rfl (fun w' hq => pv_move rfl) ?_)
              all_goals (refine at2 31 rfl rfl rfl (fun w' hq => pv_lenl (tS rfl) rfl) ?_)
              all_goals (refine at2 32 rfl rfl rfl (fun w' hq => pv_gtr rfl rfl) ?_)
              all_goals (refine at0 33 rfl (fun w' hq => pv_pick_f rfl (by first | assumption | exact decide_eq_false (by omega) | exact dec_notF (by omega)) rfl) ?_)
              all_goals (refine aw_done (by kernel_rfl) ?_; replace hw := hS; clear hS hNP)
              repeat' (first | (refine lw_pure rfl (pv_assign rfl) ?_) | (refine is_cw ?_; first | (refine cw_seq ?_) | (refine cw_region ?_) | (refine cw_true rfl (by first | assumption | exact decide_eq_true (by omega) | exact dec_notT (by omega)) ?_) | (refine cw_ret ?_)) | (refine is_qw ?_; first | (with_reducible refine qw_then ?_) | (with_reducible refine qw_then_ret ?_) | (with_reducible refine qw_in_ret ?_)) | (refine lw_nil ?_))
              exact qw_ret2 rfl rfl rfl ⟨Or.inl ⟨by rw [e4]; decide, by rw [e4]⟩, hw⟩
            · skip
              refine cw_drawn (fun w' => Below w.heap.size w w') (by kernel_rfl) (by repeat (first | exact NoPanic.body | with_reducible refine NoPanic.then ?_ | with_reducible refine NoPanic.inBlock ?_)) (fun hNP => ?_)
              have hS := hw.drew
              all_goals (refine at0 0 rfl (fun w' hq => pv_move rfl) ?_)
              all_goals (refine at0 1 rfl (fun w' hq => pv_move rfl) ?_)
              all_goals (refine at0 2 rfl (fun w' hq => pv_ian (tS rfl) rfl rfl (by omega)) ?_)
              all_goals (refine at0 3 rfl (fun w' hq => pv_fa (tF rfl) rfl) ?_)
              all_goals (refine at0 4 rfl (fun w' hq => pv_load (t1 rfl) rfl (by first | exact SlR.ld (HS.mono hq) hxk rfl | exact SlR.ld1 (HS.mono hq) hxk rfl)) ?_)
              all_goals (refine aw_act 5 (by kernel_rfl) rfl rfl rfl ?_; refine act_call (f := 26) (by kernel_rfl) rfl (rname_is hnz hq _) ?_; rintro e w1 ⟨rfl, hb⟩; refine ⟨_, rfl, grow_trans hS hb, fun hS => ?_⟩)
              all_goals (refine at0 6 rfl (fun w' hq => pv_not rfl) ?_)
              all_goals (refine at0 7 rfl (fun w' hq => pv_move rfl) ?_)
              all_goals (refine at1 8 rfl rfl rfl rfl (fun w' hq => pv_move rfl) ?_)
              all_goals (refine at1 9 rfl rfl rfl rfl (fun w' hq => pv_gtr rfl rfl) ?_)
              all_goals (refine at1 10 rfl rfl rfl rfl (fun w' hq => pv_move rfl) ?_)
              all_goals (refine an2 11 rfl rfl rfl ?_)
              all_goals (refine an2 12 rfl rfl rfl ?_)
              all_goals (refine an2 13 rfl rfl rfl ?_)
              all_goals (refine an2 14 rfl rfl rfl ?_)
              all_goals (refine an2 15 rfl rfl rfl ?_)
              all_goals (refine an2 16 rfl rfl rfl ?_)
              all_goals (refine an2 17 rfl rfl rfl ?_)
              all_goals (refine an2 18 rfl rfl rfl ?_)
              all_goals (refine an2 19 rfl rfl rfl ?_)
              all_goals (refine an2 20 rfl rfl rfl ?_)
              all_goals (refine an2 21 rfl rfl rfl ?_)
              all_goals (refine an2 22 rfl rfl rfl ?_)
              all_goals (refine at1 23 rfl rfl rfl rfl (fun w' hq => pv_pick_f rfl (by first | assumption | exact decide_eq_false (by omega) | exact dec_notF (by omega)) rfl) ?_)
              all_goals (refine at0 24 rfl (fun w' hq => pv_pick_f rfl rfl rfl) ?_)
              all_goals (refine at0 25 rfl (fun w' hq => pv_move rfl) ?_)
              all_goals (refine at1 26 rfl rfl rfl rfl (fun w' hq => pv_move rfl) ?_)
              all_goals (refine at1 27 rfl rfl rfl rfl (fun w' hq => pv_gtr rfl rfl) ?_)
              all_goals (refine at0 28 rfl (fun w' hq => pv_pick_f rfl rfl rfl) ?_)
              all_goals (refine at0 29 rfl (fun w' hq => pv_move rfl) ?_)
              all_goals (refine at2 30 rfl rfl rfl (fun w' hq => pv_move rfl) ?_)
              all_goals (refine at2 31 rfl rfl rfl (fun w' hq => pv_lenl (tS rfl) rfl) ?_)
              all_goals (refine at2 32 rfl rfl rfl (fun w' hq => pv_gtr rfl rfl) ?_)
              all_goals (refine at0 33 rfl (fun w' hq => pv_pick_f rfl (by first | assumption | exact decide_eq_false (by omega) | exact dec_notF (by omega)) rfl) ?_)
              all_goals (refine aw_done (by kernel_rfl) ?_; replace hw := hS; clear hS hNP)
              have hgd2 := (hgd.step hxk hq hlast (by omega) (by omega)).1
              repeat' (first | (refine lw_pure rfl (pv_move rfl) ?_) | (refine lw_pure rfl (pv_assign rfl) ?_) | (refine is_cw ?_; first | (refine cw_region ?_) | (refine cw_false rfl (by first | assumption | exact decide_eq_false (by omega) | exact dec_notF (by omega)) ?_) | (refine cw_skip ?_)) | (refine is_qw ?_; first | (with_reducible refine qw_then ?_) | (with_reducible refine qw_in ?_)) | (refine lw_nil ?_) | ((refine is_bin ?_; first | (refine lw_pure rfl (pv_inc rfl rfl (by omega)) ?_) | (refine lw_pure rfl (pv_add rfl rfl (by omega)) ?_))))
              exact qw_round (k + 1, f.name, n + (f.firm.size + f.pend.size)) (by repeat' (first | exact trivial | refine ⟨rfl, ?_⟩)) ⟨by show k + 1 ≤ _; omega, hw, hgd2, by show n + (f.firm.size + f.pend.size) = usedF (l.take (k + 1)); omega⟩ (by show l.length - (k + 1) < l.length - k; omega)
        · subst hki
          by_cases hlast : ltN last f.name
          · have hE : decide (¬ ltN g.name f.name) = false := decide_eq_false (fun h => h (hl0 ▸ hlast))
            by_cases hs : 1048576 < szF f
            · have e4 : (loadD cap l).1 = 4 := by unfold loadD; rw [if_neg hc, if_pos (badF_size hfm hs)]
              refine cw_drawn (fun w' => Below w.heap.size w w') (by kernel_rfl) (by repeat (first | exact NoPanic.body | with_reducible refine NoPanic.then ?_ | with_reducible refine NoPanic.inBlock ?_)) (fun hNP => ?_)
              have hS := hw.drew
              all_goals (refine at0 0 rfl (fun w' hq => pv_move rfl) ?_)
              all_goals (refine at0 1 rfl (fun w' hq => pv_move rfl) ?_)
              all_goals (refine at0 2 rfl (fun w' hq => pv_ian (tS rfl) rfl rfl (by omega)) ?_)
              all_goals (refine at0 3 rfl (fun w' hq => pv_fa (tF rfl) rfl) ?_)
              all_goals (refine at0 4 rfl (fun w' hq => pv_load (t1 rfl) rfl (by first | exact SlR.ld (HS.mono hq) hxk rfl | exact SlR.ld1 (HS.mono hq) hxk rfl | exact SlR.ld (HS.mono hq) hgi rfl | exact SlR.ld1 (HS.mono hq) hgi rfl)) ?_)
              all_goals (refine aw_act 5 (by kernel_rfl) rfl rfl rfl ?_; refine act_call (f := 26) (by kernel_rfl) rfl (rname_is hnz hq _) ?_; rintro e w1 ⟨rfl, hb⟩; refine ⟨_, rfl, grow_trans hS hb, fun hS => ?_⟩)
              all_goals (refine at0 6 rfl (fun w' hq => pv_not rfl) ?_)
              all_goals (refine at0 7 rfl (fun w' hq => pv_move rfl) ?_)
              all_goals (refine at1 8 rfl rfl rfl rfl (fun w' hq => pv_move rfl) ?_)
              all_goals (refine at1 9 rfl rfl rfl rfl (fun w' hq => pv_gtr rfl rfl) ?_)
              all_goals (refine at1 10 rfl rfl rfl rfl (fun w' hq => pv_move rfl) ?_)
              all_goals (refine at2 11 rfl rfl rfl (fun w' hq => pv_move rfl) ?_)
              all_goals (refine at2 12 rfl rfl rfl (fun w' hq => pv_move rfl) ?_)
              all_goals (refine at2 13 rfl rfl rfl (fun w' hq => pv_ian (tS rfl) rfl rfl (by omega)) ?_)
              all_goals (refine at2 14 rfl rfl rfl (fun w' hq => pv_fa (tF rfl) rfl) ?_)
              all_goals (refine at2 15 rfl rfl rfl (fun w' hq => pv_load (t1 rfl) rfl (by first | exact SlR.ld (HS.mono hq) hxk rfl | exact SlR.ld1 (HS.mono hq) hxk rfl | exact SlR.ld (HS.mono hq) hgi rfl | exact SlR.ld1 (HS.mono hq) hgi rfl)) ?_)
              all_goals (refine at2 16 rfl rfl rfl (fun w' hq => pv_move rfl) ?_)
              all_goals (refine at2 17 rfl rfl rfl (fun w' hq => pv_move rfl) ?_)
              all_goals (refine at2 18 rfl rfl rfl (fun w' hq => pv_predn rfl rfl (by omega)) ?_)
              all_goals (refine at2 19 rfl rfl rfl (fun w' hq => pv_ian (tS rfl) rfl rfl (by omega)) ?_)
              all_goals (refine at2 20 rfl rfl rfl (fun w' hq => pv_fa (tF rfl) rfl) ?_)
              all_goals (refine at2 21 rfl rfl rfl (fun w' hq => pv_load (t1 rfl) rfl (by first | exact SlR.ld (HS.mono hq) hxk rfl | exact SlR.ld1 (HS.mono hq) hxk rfl | exact SlR.ld (HS.mono hq) hgi rfl | exact SlR.ld1 (HS.mono hq) hgi rfl)) ?_)
              all_goals (refine at2 22 rfl rfl rfl (fun w' hq => pv_sleq rfl rfl) ?_)
              all_goals (refine at1 23 rfl rfl rfl rfl (fun w' hq => pv_pick_t rfl (by first | assumption | exact decide_eq_true (by omega) | exact dec_notT (by omega)) rfl) ?_)
              all_goals (refine at0 24 rfl (fun w' hq => pv_pick_f rfl rfl rfl) ?_)
              all_goals (refine at0 25 rfl (fun w' hq => pv_move rfl) ?_)
              all_goals (refine at2 26 rfl rfl rfl (fun w' hq => pv_move rfl) ?_)
              all_goals (refine at2 27 rfl rfl rfl (fun w' hq => pv_gtr rfl rfl) ?_)
              all_goals (refine at0 28 rfl (fun w' hq => pv_pick_f rfl (by first | assumption | exact decide_eq_false (by omega) | exact dec_notF (by omega)) rfl) ?_)
              all_goals (refine at0 29 rfl (fun w' hq => pv_move rfl) ?_)
              all_goals (refine an2 30 rfl rfl rfl ?_)
              all_goals (refine an2 31 rfl rfl rfl ?_)
              all_goals (refine an2 32 rfl rfl rfl ?_)
              all_goals (refine at0 33 rfl (fun w' hq => pv_pick_t rfl (by first | assumption | exact decide_eq_true (by omega) | exact dec_notT (by omega)) rfl) ?_)
              all_goals (refine aw_done (by kernel_rfl) ?_; replace hw := hS; clear hS hNP)
              repeat' (first | (refine lw_pure rfl (pv_assign rfl) ?_) | (refine is_cw ?_; first | (refine cw_seq ?_) | (refine cw_region ?_) | (refine cw_true rfl rfl ?_) | (refine cw_ret ?_)) | (refine is_qw ?_; first | (with_reducible refine qw_then ?_) | (with_reducible refine qw_then_ret ?_) | (with_reducible refine qw_in_ret ?_)) | (refine lw_nil ?_))
              exact qw_ret2 rfl rfl rfl ⟨Or.inl ⟨by rw [e4]; decide, by rw [e4]⟩, hw⟩
            · by_cases h64 : 64 < l.length
              · have e4 : (loadD cap l).1 = 4 := by unfold loadD; rw [if_neg hc, if_pos (badF_len h64)]
                refine cw_drawn (fun w' => Below w.heap.size w w') (by kernel_rfl) (by repeat (first | exact NoPanic.body | with_reducible refine NoPanic.then ?_ | with_reducible refine NoPanic.inBlock ?_)) (fun hNP => ?_)
                have hS := hw.drew
                all_goals (refine at0 0 rfl (fun w' hq => pv_move rfl) ?_)
                all_goals (refine at0 1 rfl (fun w' hq => pv_move rfl) ?_)
                all_goals (refine at0 2 rfl (fun w' hq => pv_ian (tS rfl) rfl rfl (by omega)) ?_)
                all_goals (refine at0 3 rfl (fun w' hq => pv_fa (tF rfl) rfl) ?_)
                all_goals (refine at0 4 rfl (fun w' hq => pv_load (t1 rfl) rfl (by first | exact SlR.ld (HS.mono hq) hxk rfl | exact SlR.ld1 (HS.mono hq) hxk rfl | exact SlR.ld (HS.mono hq) hgi rfl | exact SlR.ld1 (HS.mono hq) hgi rfl)) ?_)
                all_goals (refine aw_act 5 (by kernel_rfl) rfl rfl rfl ?_; refine act_call (f := 26) (by kernel_rfl) rfl (rname_is hnz hq _) ?_; rintro e w1 ⟨rfl, hb⟩; refine ⟨_, rfl, grow_trans hS hb, fun hS => ?_⟩)
                all_goals (refine at0 6 rfl (fun w' hq => pv_not rfl) ?_)
                all_goals (refine at0 7 rfl (fun w' hq => pv_move rfl) ?_)
                all_goals (refine at1 8 rfl rfl rfl rfl (fun w' hq => pv_move rfl) ?_)
                all_goals (refine at1 9 rfl rfl rfl rfl (fun w' hq => pv_gtr rfl rfl) ?_)
                all_goals (refine at1 10 rfl rfl rfl rfl (fun w' hq => pv_move rfl) ?_)
                all_goals (refine at2 11 rfl rfl rfl (fun w' hq => pv_move rfl) ?_)
                all_goals (refine at2 12 rfl rfl rfl (fun w' hq => pv_move rfl) ?_)
                all_goals (refine at2 13 rfl rfl rfl (fun w' hq => pv_ian (tS rfl) rfl rfl (by omega)) ?_)
                all_goals (refine at2 14 rfl rfl rfl (fun w' hq => pv_fa (tF rfl) rfl) ?_)
                all_goals (refine at2 15 rfl rfl rfl (fun w' hq => pv_load (t1 rfl) rfl (by first | exact SlR.ld (HS.mono hq) hxk rfl | exact SlR.ld1 (HS.mono hq) hxk rfl | exact SlR.ld (HS.mono hq) hgi rfl | exact SlR.ld1 (HS.mono hq) hgi rfl)) ?_)
                all_goals (refine at2 16 rfl rfl rfl (fun w' hq => pv_move rfl) ?_)
                all_goals (refine at2 17 rfl rfl rfl (fun w' hq => pv_move rfl) ?_)
                all_goals (refine at2 18 rfl rfl rfl (fun w' hq => pv_predn rfl rfl (by omega)) ?_)
                all_goals (refine at2 19 rfl rfl rfl (fun w' hq => pv_ian (tS rfl) rfl rfl (by omega)) ?_)
                all_goals (refine at2 20 rfl rfl rfl (fun w' hq => pv_fa (tF rfl) rfl) ?_)
                all_goals (refine at2 21 rfl rfl rfl (fun w' hq => pv_load (t1 rfl) rfl (by first | exact SlR.ld (HS.mono hq) hxk rfl | exact SlR.ld1 (HS.mono hq) hxk rfl | exact SlR.ld (HS.mono hq) hgi rfl | exact SlR.ld1 (HS.mono hq) hgi rfl)) ?_)
                all_goals (refine at2 22 rfl rfl rfl (fun w' hq => pv_sleq rfl rfl) ?_)
                all_goals (refine at1 23 rfl rfl rfl rfl (fun w' hq => pv_pick_t rfl (by first | assumption | exact decide_eq_true (by omega) | exact dec_notT (by omega)) rfl) ?_)
                all_goals (refine at0 24 rfl (fun w' hq => pv_pick_f rfl rfl rfl) ?_)
                all_goals (refine at0 25 rfl (fun w' hq => pv_move rfl) ?_)
                all_goals (refine at2 26 rfl rfl rfl (fun w' hq => pv_move rfl) ?_)
                all_goals (refine at2 27 rfl rfl rfl (fun w' hq => pv_gtr rfl rfl) ?_)
                all_goals (refine at0 28 rfl (fun w' hq => pv_pick_f rfl (by first | assumption | exact decide_eq_false (by omega) | exact dec_notF (by omega)) rfl) ?_)
                all_goals (refine at0 29 rfl (fun w' hq => pv_move rfl) ?_)
                all_goals (refine at2 30 rfl rfl rfl (fun w' hq => pv_move rfl) ?_)
                all_goals (refine at2 31 rfl rfl rfl (fun w' hq => pv_lenl (tS rfl) rfl) ?_)
                all_goals (refine at2 32 rfl rfl rfl (fun w' hq => pv_gtr rfl rfl) ?_)
                all_goals (refine at0 33 rfl (fun w' hq => pv_pick_f rfl (by first | assumption | exact decide_eq_false (by omega) | exact dec_notF (by omega)) rfl) ?_)
                all_goals (refine aw_done (by kernel_rfl) ?_; replace hw := hS; clear hS hNP)
                repeat' (first | (refine lw_pure rfl (pv_assign rfl) ?_) | (refine is_cw ?_; first | (refine cw_seq ?_) | (refine cw_region ?_) | (refine cw_true rfl (by first | assumption | exact decide_eq_true (by omega) | exact dec_notT (by omega)) ?_) | (refine cw_ret ?_)) | (refine is_qw ?_; first | (with_reducible refine qw_then ?_) | (with_reducible refine qw_then_ret ?_) | (with_reducible refine qw_in_ret ?_)) | (refine lw_nil ?_))
                exact qw_ret2 rfl rfl rfl ⟨Or.inl ⟨by rw [e4]; decide, by rw [e4]⟩, hw⟩
              · skip
                refine cw_drawn (fun w' => Below w.heap.size w w') (by kernel_rfl) (by repeat (first | exact NoPanic.body | with_reducible refine NoPanic.then ?_ | with_reducible refine NoPanic.inBlock ?_)) (fun hNP => ?_)
                have hS := hw.drew
                all_goals (refine at0 0 rfl (fun w' hq => pv_move rfl) ?_)
                all_goals (refine at0 1 rfl (fun w' hq => pv_move rfl) ?_)
                all_goals (refine at0 2 rfl (fun w' hq => pv_ian (tS rfl) rfl rfl (by omega)) ?_)
                all_goals (refine at0 3 rfl (fun w' hq => pv_fa (tF rfl) rfl) ?_)
                all_goals (refine at0 4 rfl (fun w' hq => pv_load (t1 rfl) rfl (by first | exact SlR.ld (HS.mono hq) hxk rfl | exact SlR.ld1 (HS.mono hq) hxk rfl | exact SlR.ld (HS.mono hq) hgi rfl | exact SlR.ld1 (HS.mono hq) hgi rfl)) ?_)
                all_goals (refine aw_act 5 (by kernel_rfl) rfl rfl rfl ?_; refine act_call (f := 26) (by kernel_rfl) rfl (rname_is hnz hq _) ?_; rintro e w1 ⟨rfl, hb⟩; refine ⟨_, rfl, grow_trans hS hb, fun hS => ?_⟩)
                all_goals (refine at0 6 rfl (fun w' hq => pv_not rfl) ?_)
                all_goals (refine at0 7 rfl (fun w' hq => pv_move rfl) ?_)
                all_goals (refine at1 8 rfl rfl rfl rfl (fun w' hq => pv_move rfl) ?_)
                all_goals (refine at1 9 rfl rfl rfl rfl (fun w' hq => pv_gtr rfl rfl) ?_)
                all_goals (refine at1 10 rfl rfl rfl rfl (fun w' hq => pv_move rfl) ?_)
                all_goals (refine at2 11 rfl rfl rfl (fun w' hq => pv_move rfl) ?_)
                all_goals (refine at2 12 rfl rfl rfl (fun w' hq => pv_move rfl) ?_)
                all_goals (refine at2 13 rfl rfl rfl (fun w' hq => pv_ian (tS rfl) rfl rfl (by omega)) ?_)
                all_goals (refine at2 14 rfl rfl rfl (fun w' hq => pv_fa (tF rfl) rfl) ?_)
                all_goals (refine at2 15 rfl rfl rfl (fun w' hq => pv_load (t1 rfl) rfl (by first | exact SlR.ld (HS.mono hq) hxk rfl | exact SlR.ld1 (HS.mono hq) hxk rfl | exact SlR.ld (HS.mono hq) hgi rfl | exact SlR.ld1 (HS.mono hq) hgi rfl)) ?_)
                all_goals (refine at2 16 rfl rfl rfl (fun w' hq => pv_move rfl) ?_)
                all_goals (refine at2 17 rfl rfl rfl (fun w' hq => pv_move rfl) ?_)
                all_goals (refine at2 18 rfl rfl rfl (fun w' hq => pv_predn rfl rfl (by omega)) ?_)
                all_goals (refine at2 19 rfl rfl rfl (fun w' hq => pv_ian (tS rfl) rfl rfl (by omega)) ?_)
                all_goals (refine at2 20 rfl rfl rfl (fun w' hq => pv_fa (tF rfl) rfl) ?_)
                all_goals (refine at2 21 rfl rfl rfl (fun w' hq => pv_load (t1 rfl) rfl (by first | exact SlR.ld (HS.mono hq) hxk rfl | exact SlR.ld1 (HS.mono hq) hxk rfl | exact SlR.ld (HS.mono hq) hgi rfl | exact SlR.ld1 (HS.mono hq) hgi rfl)) ?_)
                all_goals (refine at2 22 rfl rfl rfl (fun w' hq => pv_sleq rfl rfl) ?_)
                all_goals (refine at1 23 rfl rfl rfl rfl (fun w' hq => pv_pick_t rfl (by first | assumption | exact decide_eq_true (by omega) | exact dec_notT (by omega)) rfl) ?_)
                all_goals (refine at0 24 rfl (fun w' hq => pv_pick_f rfl rfl rfl) ?_)
                all_goals (refine at0 25 rfl (fun w' hq => pv_move rfl) ?_)
                all_goals (refine at2 26 rfl rfl rfl (fun w' hq => pv_move rfl) ?_)
                all_goals (refine at2 27 rfl rfl rfl (fun w' hq => pv_gtr rfl rfl) ?_)
                all_goals (refine at0 28 rfl (fun w' hq => pv_pick_f rfl (by first | assumption | exact decide_eq_false (by omega) | exact dec_notF (by omega)) rfl) ?_)
                all_goals (refine at0 29 rfl (fun w' hq => pv_move rfl) ?_)
                all_goals (refine at2 30 rfl rfl rfl (fun w' hq => pv_move rfl) ?_)
                all_goals (refine at2 31 rfl rfl rfl (fun w' hq => pv_lenl (tS rfl) rfl) ?_)
                all_goals (refine at2 32 rfl rfl rfl (fun w' hq => pv_gtr rfl rfl) ?_)
                all_goals (refine at0 33 rfl (fun w' hq => pv_pick_f rfl (by first | assumption | exact decide_eq_false (by omega) | exact dec_notF (by omega)) rfl) ?_)
                all_goals (refine aw_done (by kernel_rfl) ?_; replace hw := hS; clear hS hNP)
                have hgd2 := (hgd.step hxk hq hlast (by omega) (by omega)).1
                repeat' (first | (refine lw_pure rfl (pv_move rfl) ?_) | (refine lw_pure rfl (pv_assign rfl) ?_) | (refine is_cw ?_; first | (refine cw_region ?_) | (refine cw_false rfl (by first | assumption | exact decide_eq_false (by omega) | exact dec_notF (by omega)) ?_) | (refine cw_skip ?_)) | (refine is_qw ?_; first | (with_reducible refine qw_then ?_) | (with_reducible refine qw_in ?_)) | (refine lw_nil ?_) | ((refine is_bin ?_; first | (refine lw_pure rfl (pv_inc rfl rfl (by omega)) ?_) | (refine lw_pure rfl (pv_add rfl rfl (by omega)) ?_))))
                exact qw_round (i + 1 + 1, f.name, n + (f.firm.size + f.pend.size)) (by repeat' (first | exact trivial | refine ⟨rfl, ?_⟩)) ⟨by show i + 1 + 1 ≤ _; omega, hw, hgd2, by show n + (f.firm.size + f.pend.size) = usedF (l.take (i + 1 + 1)); omega⟩ (by show l.length - (i + 1 + 1) < l.length - (i + 1); omega)
          · have hE : decide (¬ ltN g.name f.name) = true := decide_eq_true (fun h => hlast (hl0 ▸ h))
            have e4 : (loadD cap l).1 = 4 := by unfold loadD; rw [if_neg hc, if_pos (badF_srt (hgd.bad hxk hq hlast))]
            refine cw_drawn (fun w' => Below w.heap.size w w') (by kernel_rfl) (by repeat (first | exact NoPanic.body | with_reducible refine NoPanic.then ?_ | with_reducible refine NoPanic.inBlock ?_)) (fun hNP => ?_)
            have hS := hw.drew
            all_goals (refine at0 0 rfl (fun w' hq => pv_move rfl) ?_)
            all_goals (refine at0 1 rfl (fun w' hq => pv_move rfl) ?_)
            all_goals (refine at0 2 rfl (fun w' hq => pv_ian (tS rfl) rfl rfl (by omega)) ?_)
            all_goals (refine at0 3 rfl (fun w' hq => pv_fa (tF rfl) rfl) ?_)
            all_goals (refine at0 4 rfl (fun w' hq => pv_load (t1 rfl) rfl (by first | exact SlR.ld (HS.mono hq) hxk rfl | exact SlR.ld1 (HS.mono hq) hxk rfl | exact SlR.ld (HS.mono hq) hgi rfl | exact SlR.ld1 (HS.mono hq) hgi rfl)) ?_)
            all_goals (refine aw_act 5 (by kernel_rfl) rfl rfl rfl ?_; refine act_call (f := 26) (by kernel_rfl) rfl (rname_is hnz hq _) ?_; rintro e w1 ⟨rfl, hb⟩; refine ⟨_, rfl, grow_trans hS hb, fun hS => ?_⟩)
            all_goals (refine at0 6 rfl (fun w' hq => pv_not rfl) ?_)
            all_goals (refine at0 7 rfl (fun w' hq => pv_move rfl) ?_)
            all_goals (refine at1 8 rfl rfl rfl rfl (fun w' hq => pv_move rfl) ?_)
            all_goals (refine at1 9 rfl rfl rfl rfl (fun w' hq => pv_gtr rfl rfl) ?_)
            all_goals (refine at1 10 rfl rfl rfl rfl (fun w' hq => pv_move rfl) ?_)
            all_goals (refine at2 11 rfl rfl rfl (fun w' hq => pv_move rfl) ?_)
            all_goals (refine at2 12 rfl rfl rfl (fun w' hq => pv_move rfl) ?_)
            all_goals (refine at2 13 rfl rfl rfl (fun w' hq => pv_ian (tS rfl) rfl rfl (by omega)) ?_)
            all_goals (refine at2 14 rfl rfl rfl (fun w' hq => pv_fa (tF rfl) rfl) ?_)
            all_goals (refine at2 15 rfl rfl rfl (fun w' hq => pv_load (t1 rfl) rfl (by first | exact SlR.ld (HS.mono hq) hxk rfl | exact SlR.ld1 (HS.mono hq) hxk rfl | exact SlR.ld (HS.mono hq) hgi rfl | exact SlR.ld1 (HS.mono hq) hgi rfl)) ?_)
            all_goals (refine at2 16 rfl rfl rfl (fun w' hq => pv_move rfl) ?_)
            all_goals (refine at2 17 rfl rfl rfl (fun w' hq => pv_move rfl) ?_)
            all_goals (refine at2 18 rfl rfl rfl (fun w' hq => pv_predn rfl rfl (by omega)) ?_)
            all_goals (refine at2 19 rfl rfl rfl (fun w' hq => pv_ian (tS rfl) rfl rfl (by omega)) ?_)
            all_goals (refine at2 20 rfl rfl rfl (fun w' hq => pv_fa (tF rfl) rfl) ?_)
            all_goals (refine at2 21 rfl rfl rfl (fun w' hq => pv_load (t1 rfl) rfl (by first | exact SlR.ld (HS.mono hq) hxk rfl | exact SlR.ld1 (HS.mono hq) hxk rfl | exact SlR.ld (HS.mono hq) hgi rfl | exact SlR.ld1 (HS.mono hq) hgi rfl)) ?_)
            all_goals (refine at2 22 rfl rfl rfl (fun w' hq => pv_sleq rfl rfl) ?_)
            all_goals (refine at1 23 rfl rfl rfl rfl (fun w' hq => pv_pick_t rfl (by first | assumption | exact decide_eq_true (by omega) | exact dec_notT (by omega)) rfl) ?_)
            all_goals (refine at0 24 rfl (fun w' hq => pv_pick_f rfl rfl rfl) ?_)
            all_goals (refine at0 25 rfl (fun w' hq => pv_move rfl) ?_)
            all_goals (refine an2 26 rfl rfl rfl ?_)
            all_goals (refine an2 27 rfl rfl rfl ?_)
            all_goals (refine at0 28 rfl (fun w' hq => pv_pick_t rfl (by first | assumption | exact decide_eq_true (by omega) | exact dec_notT (by omega)) rfl) ?_)
            all_goals (refine at0 29 rfl (fun w' hq => pv_move rfl) ?_)
            all_goals (refine an1 30 rfl rfl rfl rfl ?_)
            all_goals (refine an1 31 rfl rfl rfl rfl ?_)
            all_goals (refine an1 32 rfl rfl rfl rfl ?_)
            all_goals (refine at0 33 rfl (fun w' hq => pv_pick_t rfl rfl rfl) ?_)
            all_goals (refine aw_done (by kernel_rfl) ?_; replace hw := hS; clear hS hNP)
            repeat' (first | (refine lw_pure rfl (pv_assign rfl) ?_) | (refine is_cw ?_; first | (refine cw_seq ?_) | (refine cw_region ?_) | (refine cw_true rfl rfl ?_) | (refine cw_ret ?_)) | (refine is_qw ?_; first | (with_reducible refine qw_then ?_) | (with_reducible refine qw_then_ret ?_) | (with_reducible refine qw_in_ret ?_)) | (refine lw_nil ?_))
            exact qw_ret2 rfl rfl rfl ⟨Or.inl ⟨by rw [e4]; decide, by rw [e4]⟩, hw⟩
    · have hkl : k = l.length := by omega
      subst hkl
      have hok := hgd.ok
      have h1 := hgd.srt
      have h2 := hgd.names
      have h3 := hgd.sizes
      rw [List.take_length] at h1 h2 h3 hn
      have h64 : l.length ≤ 64 := by
        by_cases h0 : 0 < l.length
        · exact hgd.cnt h0
        · omega
      subst hn
      by_cases hu : cap < usedF l
      · have e4 : (loadD cap l).1 = 44 := by unfold loadD; rw [if_neg hc, hok, if_neg (by simp), if_pos hu]
        repeat' (first | (refine lw_pure rfl (pv_move rfl) ?_) | (refine lw_pure rfl (pv_assign rfl) ?_) | (refine is_cw ?_; first | (refine cw_seq ?_) | (refine cw_region ?_) | (refine cw_true rfl (by first | assumption | exact decide_eq_true (by omega) | exact dec_notT (by omega)) ?_) | (refine cw_false rfl (by first | assumption | exact decide_eq_false (by omega) | exact dec_notF (by omega)) ?_) | (refine cw_exit ?_) | (refine cw_ret ?_)) | (refine is_qw ?_; first | (with_reducible refine qw_then ?_) | (with_reducible refine qw_in_hit ?_) | (with_reducible refine qw_then_exit ?_) | (with_reducible refine qw_then_ret ?_)) | (refine lw_nil ?_) | ((refine is_bin ?_; first | (refine lw_pure rfl (pv_lss rfl rfl) ?_) | (refine lw_pure rfl (pv_gtr rfl rfl) ?_))) | ((refine is_bi ?_; first | (refine lw_pure rfl (pv_lenl (tS rfl) rfl) ?_))))
        exact qw_ret2 rfl rfl rfl ⟨Or.inl ⟨by rw [e4]; decide, by rw [e4]⟩, hw⟩
      · have e0 : (loadD cap l).1 = 0 := by unfold loadD; rw [if_neg hc, hok, if_neg (by simp), if_neg hu]
        repeat' (first | (refine lw_pure rfl (pv_move rfl) ?_) | (refine is_cw ?_; first | (refine cw_seq ?_) | (refine cw_region ?_) | (refine cw_false rfl (by first | assumption | exact decide_eq_false (by omega) | exact dec_notF (by omega)) ?_) | (refine cw_skip ?_) | (refine cw_exit ?_)) | (refine is_qw ?_; first | (with_reducible refine qw_then ?_) | (with_reducible refine qw_in_hit ?_) | (with_reducible refine qw_then_exit ?_)) | (refine lw_nil ?_) | ((refine is_bin ?_; first | (refine lw_pure rfl (pv_lss rfl rfl) ?_) | (refine lw_pure rfl (pv_gtr rfl rfl) ?_))) | ((refine is_bi ?_; first | (refine lw_pure rfl (pv_lenl (tS rfl) rfl) ?_))))
        refine lw_bs0 (enc := encF) elemF rfl ?_; intro wn hO hb hz
        have hB := grow_trans hw hb
        repeat' (first | (refine lw_pure rfl (pv_move rfl) ?_))
        refine lw_app elemF encF_len encF_one rfl rfl rfl hO (HS.mono hB) rfl (by omega) (by simp; omega) (by simp [maxLen]; omega) ?_; intro v2 w2 hO2 hg hb2
        have hs2 := hw.size
        replace hw := hB.trans (hb2.mono hw.size)
        have hO1 : Own encF 3 54 wr.heap.size w2 v2 l := by simpa using hO2
        have hO4 := hO1.weaken hs2
        obtain ⟨a2, c2, rfl, -, -⟩ := Own.slR encF_len hO1
        clear hO1 hO2 hO hg hb2 hB hb hz
        repeat' (first | (refine lw_pure rfl (pv_move rfl) ?_) | ((refine is_bd ?_; first | (refine lw_pure rfl (tyB_57 rfl rfl rfl) ?_))))
        refine lw_boxN rfl rfl (cs := [.slice a2 l.length c2, .int .i64 cap, .int .i64 (-1), .bool false]) rfl ?_; intro N w5 hN H hb
        have hO3 := hO4.mono hb
        replace hN := Nat.le_trans hw.size hN
        replace hw := grow_trans hw hb
        repeat' (first | (refine lw_pure rfl (pv_assign rfl) ?_) | (refine is_cw ?_; first | (refine cw_ret ?_)) | (refine is_qw ?_; first | (with_reducible refine qw_then ?_)) | (refine lw_nil ?_))
        exact qw_ret2 rfl rfl rfl ⟨Or.inr ⟨e0, N, .slice a2 l.length c2, rfl, hN, ⟨H, hO3, ⟨h1, h2, h3, h64, by show (usedF l : Int) ≤ cap; omega, hcap, by show (-1 : Int) ≤ -1; omega, by show (-1 : Int) ≤ _; omega⟩⟩⟩, hw⟩

theorem rfiles_is {xs ys : List Fil} {n m : Nat} {a b : Option Addr} {ca cb : Nat} {w : World} {c : Bool} (hn : xs.length = n) (hm : ys.length = m) (HS : SlR encF 3 w a ca xs) (HT : SlR encF 3 w b cb ys) (hr : decide (xs = ys) = c) : Calls Tryz.prog 44 #[.slice a n ca, .slice b m cb] w fun e w' => e = .returned (.bool c) ∧ Below w.heap.size w w' := by
  have := rfiles_c hn hm HS HT
  rwa [hr] at this
set_option maxRecDepth 20000 in
set_option maxHeartbeats 1000000 in
theorem like_c {w : World} {N B base M : Nat} {v : Value} {d : Dsk} (hD : DkW w N B d) (hR : RkW w base M v d) : Calls Tryz.prog 11 #[.pointer (some ⟨N, 0, none⟩), .pointer (some ⟨M, 0, none⟩)] w fun e w' => e = .returned (.bool true) ∧ Below w.heap.size w w' := by
  obtain ⟨ra, rc, rfl, HR, -⟩ := Own.slR encF_len hR.own
  have H := hR.obj
  have hw := Below.refl w.heap.size w
  refine fn_enter 53 Tryz.func11 rfl rfl rfl ?_
  repeat' (first | (refine lw_pure rfl (pv_move rfl) ?_) | (refine lw_pure rfl (pv_assign rfl) ?_) | (refine is_cw ?_; first | (refine cw_seq ?_) | (refine cw_region ?_)) | (refine is_qw ?_; first | (with_reducible refine qw_then ?_)) | (refine lw_nil ?_))
  refine lw_call (f := 43) (by kernel_rfl) rfl rfl (files_c hD) ?_; rintro e w2 ⟨⟨v2, rfl, hO⟩, hb⟩; refine ⟨_, rfl, ?_⟩
  obtain ⟨na, nc, hv2, HN, -⟩ := Own.slR encF_len hO
  subst hv2
  have hNm := HN.max
  have hNl := HN.le
  have hw0 := grow_trans hw hb
  have hD2 := hD.mono hw0
  have hR2 := hR.mono hw0
  have H2 := H.mono hw0
  have HR2 := HR.mono hw0
  clear hw hb
  have hw := Below.refl w2.heap.size w2
  repeat' (first | (refine lw_pure rfl (pv_assign rfl) ?_) | (refine is_cw ?_; first | (refine cw_seq ?_)) | (refine is_qw ?_; first | (with_reducible refine qw_then ?_)) | (refine lw_nil ?_))
  have hg1 : ((!d.dark) == (!d.dark)) = true := by simp
  refine cw_drawn (fun w' => Below w2.heap.size w2 w') (by kernel_rfl) (by repeat (first | exact NoPanic.body | with_reducible refine NoPanic.then ?_ | with_reducible refine NoPanic.inBlock ?_)) (fun hNP => ?_)
  have hS := hw.drew
  all_goals (refine at0 0 rfl (fun w' hq => pv_move rfl) ?_)
  all_goals (refine at0 1 rfl (fun w' hq => pv_move rfl) ?_)
  all_goals (refine at0 2 rfl (fun w' hq => pv_nilp rfl) ?_)
  all_goals (refine at0 3 rfl (fun w' hq => pv_fa (tF rfl) rfl) ?_)
  all_goals (refine at0 4 rfl (fun w' hq => pv_load (t1 rfl) rfl (by first | exact PT.ld0 (H2.mono hq) rfl | exact PT.ld (H2.mono hq) rfl)) ?_)
  all_goals (refine aw_act 5 (by kernel_rfl) rfl rfl rfl ?_; refine act_call (f := 44) (by kernel_rfl) rfl (rfiles_is (c := true) rfl rfl (HN.mono hS) (HR2.mono hS) (decide_eq_true rfl)) ?_; rintro e w1 ⟨rfl, hb⟩; refine ⟨_, rfl, grow_trans hS hb, fun hS => ?_⟩)
  all_goals (refine at0 6 rfl (fun w' hq => pv_move rfl) ?_)
  all_goals (refine at1 7 rfl rfl rfl rfl (fun w' hq => pv_move rfl) ?_)
  all_goals (refine at1 9 rfl rfl rfl rfl (fun w' hq => pv_move rfl) ?_)
  all_goals (refine at1 10 rfl rfl rfl rfl (fun w' hq => pv_nilp rfl) ?_)
  all_goals (refine at1 11 rfl rfl rfl rfl (fun w' hq => pv_fa (tF rfl) rfl) ?_)
  all_goals (refine at1 12 rfl rfl rfl rfl (fun w' hq => pv_load (t1 rfl) rfl (by first | exact PT.ld0 (H2.mono hq) rfl | exact PT.ld (H2.mono hq) rfl)) ?_)
  all_goals (refine at1 13 rfl rfl rfl rfl (fun w' hq => pv_not rfl) ?_)
  all_goals first | (refine an3 8 rfl rfl rfl ?_) | (refine an0 8 rfl rfl rfl ?_) | (refine aw_act_g 8 (by kernel_rfl) rfl rfl rfl (by first | rfl | assumption | exact decide_eq_true (by omega) | exact decide_eq_false (by omega) | exact dec_notT (by omega) | exact dec_notF (by omega)) rfl ?_; refine act_call (f := 21) (by kernel_rfl) rfl (up_c (hD2.mono hS)) ?_; rintro e w1 ⟨rfl, hb⟩; refine ⟨_, rfl, grow_trans hS hb, fun hS => ?_⟩)
  all_goals (refine at1 14 rfl rfl rfl rfl (fun w' hq => pv_beql (tBo rfl) rfl rfl) ?_)
  all_goals (refine at0 15 rfl (fun w' hq => pv_pick_t rfl rfl rfl) ?_)
  all_goals (refine at0 16 rfl (fun w' hq => pv_move rfl) ?_)
  all_goals (refine at2 17 rfl rfl rfl (fun w' hq => pv_move rfl) ?_)
  all_goals (refine at2 19 rfl rfl rfl (fun w' hq => pv_move rfl) ?_)
  all_goals first | (refine an3 18 rfl rfl rfl ?_) | (refine an0 18 rfl rfl rfl ?_) | (refine aw_act_g 18 (by kernel_rfl) rfl rfl rfl (by first | rfl | assumption | exact decide_eq_true (by omega) | exact decide_eq_false (by omega) | exact dec_notT (by omega) | exact dec_notF (by omega)) rfl ?_; refine act_call (f := 45) (by kernel_rfl) rfl (used_c (hD2.mono hS)) ?_; rintro e w1 ⟨rfl, hb⟩; refine ⟨_, rfl, grow_trans hS hb, fun hS => ?_⟩)
  all_goals first | (refine an3 20 rfl rfl rfl ?_) | (refine an0 20 rfl rfl rfl ?_) | (refine aw_act_g 20 (by kernel_rfl) rfl rfl rfl (by first | rfl | assumption | exact decide_eq_true (by omega) | exact decide_eq_false (by omega) | exact dec_notT (by omega) | exact dec_notF (by omega)) rfl ?_; refine act_call (f := 39) (by kernel_rfl) rfl (rused_c (hR2.mono hS)) ?_; rintro e w1 ⟨rfl, hb⟩; refine ⟨_, rfl, grow_trans hS hb, fun hS => ?_⟩)
  all_goals (refine at2 21 rfl rfl rfl (fun w' hq => pv_eql rfl rfl) ?_)
  all_goals (refine at0 22 rfl (fun w' hq => pv_pick_t rfl (by first | assumption | exact decide_eq_true (by omega) | exact dec_notT (by omega)) rfl) ?_)
  all_goals (refine at0 23 rfl (fun w' hq => pv_move rfl) ?_)
  all_goals (refine at2 24 rfl rfl rfl (fun w' hq => pv_move rfl) ?_)
  all_goals (refine at2 26 rfl rfl rfl (fun w' hq => pv_move rfl) ?_)
  all_goals (refine at2 27 rfl rfl rfl (fun w' hq => pv_nilp rfl) ?_)
  all_goals (refine at2 28 rfl rfl rfl (fun w' hq => pv_fa (tF rfl) rfl) ?_)
  all_goals (refine at2 29 rfl rfl rfl (fun w' hq => pv_load (t1 rfl) rfl (by first | exact PT.ld0 (H2.mono hq) rfl | exact PT.ld (H2.mono hq) rfl)) ?_)
  all_goals first | (refine an3 25 rfl rfl rfl ?_) | (refine an0 25 rfl rfl rfl ?_) | (refine aw_act_g 25 (by kernel_rfl) rfl rfl rfl (by first | rfl | assumption | exact decide_eq_true (by omega) | exact decide_eq_false (by omega) | exact dec_notT (by omega) | exact dec_notF (by omega)) rfl ?_; refine act_call (f := 46) (by kernel_rfl) rfl (cap_c (hD2.mono hS)) ?_; rintro e w1 ⟨rfl, hb⟩; refine ⟨_, rfl, grow_trans hS hb, fun hS => ?_⟩)
  all_goals (refine at2 30 rfl rfl rfl (fun w' hq => pv_eql rfl rfl) ?_)
  all_goals (refine at0 31 rfl (fun w' hq => pv_pick_t rfl (by first | assumption | exact decide_eq_true (by omega) | exact dec_notT (by omega)) rfl) ?_)
  all_goals (refine at0 32 rfl (fun w' hq => pv_assign rfl) ?_)
  all_goals (refine aw_done (by kernel_rfl) ?_; replace hw := hS; clear hS hNP)
  repeat' (first | (refine lw_pure rfl (pv_assign rfl) ?_) | (refine is_cw ?_; first | (refine cw_seq ?_) | (refine cw_region ?_) | (refine cw_block ?_)) | (refine is_qw ?_; first | (with_reducible refine qw_then ?_)) | (refine lw_nil ?_))
  have hO2 := hO.mono hw
  have hwA := grow_trans hw0 hw
  clear hw
  refine cw_loop (σ := Nat × List Fil) (fun s => [(5, .slice na d.fs.length nc), (6, .bool (decide (d.cap = d.cap))), (7, .int .i64 (s.1 : Nat))]) (fun s wr => s.1 ≤ d.fs.length ∧ s.2.length = d.fs.length ∧ Below w.heap.size w wr ∧ Own encF 3 54 w.heap.size wr (.slice na d.fs.length nc) s.2) (fun s => d.fs.length - s.1) (0, d.fs) (by repeat' (first | exact trivial | refine ⟨rfl, ?_⟩)) ⟨Nat.zero_le _, rfl, hwA, hO2⟩ ?_
  clear hwA hO2
  rintro ⟨i, ys⟩ wr ⟨hi, hl, hw, hO2⟩
  replace hi : i ≤ d.fs.length := hi
  replace hl : ys.length = d.fs.length := hl
  replace hO2 : Own encF 3 54 w.heap.size wr (.slice na d.fs.length nc) ys := hO2
  change CW Tryz.prog _ _ _ [(5, .slice na d.fs.length nc), (6, .bool (decide (d.cap = d.cap))), (7, .int .i64 (i : Nat))] wr
  by_cases hlt : i < d.fs.length
  · obtain ⟨f, hf⟩ : ∃ f, ys[i]? = some f := ⟨_, List.getElem?_eq_getElem (by omega)⟩
    obtain ⟨ya, yc, e, HY, hY⟩ := Own.slR encF_len hO2
    injection e with e1 e2 e3
    subst e1 e3
    obtain ⟨b, off, rfl, -, -⟩ := HY.at (by intro h; rw [h] at hl; simp at hl; omega)
    obtain ⟨hge, ho0⟩ := hY _ rfl
    replace ho0 : off = 0 := ho0
    subst ho0
    repeat' (first | (refine lw_pure rfl (pv_move rfl) ?_) | (refine is_cw ?_; first | (refine cw_seq ?_) | (refine cw_region ?_) | (refine cw_true rfl (by first | assumption | exact decide_eq_true (by omega) | exact dec_notT (by omega)) ?_) | (refine cw_skip ?_) | (refine cw_block ?_)) | (refine is_qw ?_; first | (with_reducible refine qw_then ?_)) | (refine lw_nil ?_) | ((refine is_bin ?_; first | (refine lw_pure rfl (pv_lss rfl rfl) ?_))) | ((refine is_fa ?_; first | (refine lw_pure rfl (pv_fa (tF rfl) rfl) ?_))) | ((refine is_ia ?_; first | (refine lw_pure rfl (pv_ian (tS rfl) rfl rfl (by omega)) ?_))) | ((refine is_bi ?_; first | (refine lw_pure rfl (pv_lenl (tS rfl) rfl) ?_))))
    rw [← hl] at hO2
    refine lw_storeF (i := i) (f := 1) (u := ⟨f.name, (⟨#[115, 112, 111, 105, 108, 116]⟩ : ByteArray), f.pend⟩) encF_len rfl rfl (by omega) rfl rfl hO2 hf rfl (by omega) ?_; intro w5 hO5 hg5 hz5
    replace hw := st_hw hw hg5 hge
    rw [hl] at hO5
    repeat' (first | (refine lw_pure rfl (pv_move rfl) ?_) | (refine lw_pure rfl (pv_assign rfl) ?_) | (refine is_cw ?_; first | (refine cw_region ?_)) | (refine is_qw ?_; first | (with_reducible refine qw_then ?_) | (with_reducible refine qw_in ?_)) | (refine lw_nil ?_) | ((refine is_bin ?_; first | (refine lw_pure rfl (pv_inc rfl rfl (by omega)) ?_))))
    exact qw_round (i + 1, ys.set i ⟨f.name, (⟨#[115, 112, 111, 105, 108, 116]⟩ : ByteArray), f.pend⟩) (by repeat' (first | exact trivial | refine ⟨rfl, ?_⟩)) ⟨by show i + 1 ≤ _; omega, by show (ys.set i _).length = _; rw [List.length_set]; exact hl, hw, hO5⟩ (by show d.fs.length - (i + 1) < d.fs.length - i; omega)
  · repeat' (first | (refine lw_pure rfl (pv_move rfl) ?_) | (refine lw_pure rfl (pv_assign rfl) ?_) | (refine is_cw ?_; first | (refine cw_seq ?_) | (refine cw_region ?_) | (refine cw_false rfl (by first | assumption | exact decide_eq_false (by omega) | exact dec_notF (by omega)) ?_) | (refine cw_exit ?_) | (refine cw_ret ?_)) | (refine is_qw ?_; first | (with_reducible refine qw_then ?_) | (with_reducible refine qw_in_hit ?_) | (with_reducible refine qw_then_exit ?_)) | (refine lw_nil ?_) | ((refine is_bin ?_; first | (refine lw_pure rfl (pv_lss rfl rfl) ?_))) | ((refine is_bi ?_; first | (refine lw_pure rfl (pv_lenl (tS rfl) rfl) ?_))))
    exact qw_ret1 rfl rfl ⟨by rw [decide_eq_true rfl], hw⟩

structure Gn (L : List Nat) (w w' : World) : Prop where
  os : w'.os = w.os
  tape : w'.tape = w.tape
  output : w'.output = w.output
  size : w.heap.size ≤ w'.heap.size
  block : ∀ k, k < w.heap.size → k ∉ L → w'.heap[k]? = w.heap[k]?
def vb (v : Value) : List Nat := match v.ownBlock with
  | some b => [b]
  | none => []
theorem vb_not {v : Value} {k : Nat} (h : v.ownBlock ≠ some k) : k ∉ vb v := by
  unfold vb
  cases hv : v.ownBlock with
  | none => simp
  | some b => rw [hv] at h; simp; exact fun e => h (by rw [e])
theorem vb_ne {v : Value} {k : Nat} (h : k ∉ vb v) : v.ownBlock ≠ some k := by
  intro e
  unfold vb at h
  rw [e] at h
  simp at h
section
variable {L L' : List Nat} {w w1 w2 w' : World}
theorem Gn.of_below (h : Below w.heap.size w w') : Gn L w w' := ⟨h.os, h.tape, h.output, h.size, fun k hk _ => h.block k hk⟩
theorem Gn.of_row {b : Nat} (h : w.grownBy w' (some b)) (hb : b ∈ L) : Gn L w w' := ⟨h.os, h.tape, h.output, h.size, fun k hk h1 => h.block k hk (fun e => by injection e with e; subst e; exact h1 hb)⟩
theorem Gn.of_gw {a b : Nat} (h : Gw a b w w') (ha : a ∈ L) (hb : b ∈ L) : Gn L w w' := ⟨h.os, h.tape, h.output, h.size, fun k hk h1 => h.block k hk (fun e => h1 (e ▸ ha)) (fun e => h1 (e ▸ hb))⟩
theorem Gn.trans (h : Gn L w w1) (k : Gn L w1 w2) : Gn L w w2 :=
  ⟨k.os.trans h.os, k.tape.trans h.tape, k.output.trans h.output, Nat.le_trans h.size k.size, fun q hq h1 => (k.block q (Nat.lt_of_lt_of_le hq h.size) h1).trans (h.block q hq h1)⟩
theorem Gn.transN (h : Gn L w w1) (k : Gn L' w1 w2) (hL : ∀ q ∈ L', q < w.heap.size → q ∈ L) : Gn L w w2 :=
  ⟨k.os.trans h.os, k.tape.trans h.tape, k.output.trans h.output, Nat.le_trans h.size k.size, fun q hq h1 => (k.block q (Nat.lt_of_lt_of_le hq h.size) (fun hm => h1 (hL q hm hq))).trans (h.block q hq h1)⟩
theorem Gn.wide (h : Gn L w w') (hL : ∀ q ∈ L, q ∈ L') : Gn L' w w' := ⟨h.os, h.tape, h.output, h.size, fun k hk h1 => h.block k hk (fun hm => h1 (hL k hm))⟩
theorem Gn.below (h : Gn L w w') {W : World} (hw : Below W.heap.size W w) (hL : ∀ q ∈ L, W.heap.size ≤ q) : Below W.heap.size W w' :=
  hw.trans ⟨h.os, h.tape, h.output, h.size, fun q hq => h.block q (Nat.lt_of_lt_of_le hq hw.size) (fun hm => by have := hL q hm; omega)⟩
theorem PT.gn {N : Nat} {T : TypeId} {cs : List Value} (h : PT w N T cs) (hg : Gn L w w') (h1 : N ∉ L) : PT w' N T cs := (hg.block N h.lt h1).trans h
theorem Own.gn {α : Type} {enc : α → List Value} {k : Nat} {T : TypeId} {base : Nat} {v : Value} {xs : List α} (h : Own enc k T base w v xs) (hg : Gn L w w') (h1 : ∀ b, v.ownBlock = some b → b ∉ L) : Own enc k T base w' v xs := by
  obtain ⟨h3, h4⟩ := h
  refine ⟨h3, ?_⟩
  rcases h4 with h4 | ⟨g, cap, cur, rfl, e2, hh, r⟩
  · exact Or.inl h4
  · exact Or.inr ⟨g, cap, cur, rfl, e2, (hg.block g (Array.getElem?_eq_some_iff.1 hh).1 (h1 g rfl)).trans hh, r⟩
theorem SlR.gn {α : Type} {enc : α → List Value} {k : Nat} {ad : Option Addr} {cap : Nat} {xs : List α} (h : SlR enc k w ad cap xs) (hg : Gn L w w') (h1 : 0 < cap → ∀ x, ad = some x → x.block ∉ L) : SlR enc k w' ad cap xs :=
  ⟨h.le, h.max, h.ofNone, fun x hx hc => let ⟨e1, e2, e3⟩ := h.ofSome x hx hc; ⟨e1, Nat.lt_of_lt_of_le e2 hg.size, fun j y hy i v hv => by
    have := e3 j y hy i v hv
    unfold World.cell? at this ⊢
    rwa [hg.block x.block e2 (h1 hc x hx)]⟩⟩
theorem MpB.gn {ν : Type} {eV : ν → Value} {B : Nat} {m : List (ByteArray × ν)} (h : MpB eV w B m) (hg : Gn L w w') (h1 : B ∉ L) : MpB eV w' B m := by
  obtain ⟨m', ⟨es, clk, hE, e⟩, e2⟩ := h
  exact ⟨m', ⟨es, clk, ⟨(hg.block B hE.lt' h1).trans hE.heap, hE.keys, hE.born, hE.lt⟩, e⟩, e2⟩
theorem DkW.gn {N B : Nat} {d : Dsk} (h : DkW w N B d) (hg : Gn L w w') (h1 : N ∉ L) (h2 : B ∉ L) : DkW w' N B d := by
  obtain ⟨m, h3, h4⟩ := h.mp
  exact ⟨h.obj.gn hg h1, ⟨m, h3.gn hg h2, h4⟩, h.ok⟩
theorem RkW.gn {base N : Nat} {v : Value} {d : Dsk} (h : RkW w base N v d) (hg : Gn L w w') (h1 : N ∉ L) (h2 : ∀ b, v.ownBlock = some b → b ∉ L) : RkW w' base N v d := ⟨h.obj.gn hg h1, h.own.gn hg h2, h.ok⟩
end
structure RkP (w : World) (base N : Nat) (v : Value) (d : Dsk) : Prop where
  obj : PT w N 57 [v, .int .i64 d.cap, .int .i64 d.left, .bool d.dark]
  own : Own encF 3 54 base w v d.fs
def NewV (w : World) (v v' : Value) : Prop := v' = v ∨ ∀ b, v'.ownBlock = some b → w.heap.size ≤ b
theorem NewV.refl (w : World) (v : Value) : NewV w v v := Or.inl rfl
theorem NewV.trans {w w1 : World} {v v1 v2 : Value} (h : NewV w v v1) (k : NewV w1 v1 v2) (hs : w.heap.size ≤ w1.heap.size) : NewV w v v2 := by
  rcases k with rfl | k
  · exact h
  · exact Or.inr fun b hb => Nat.le_trans hs (k b hb)
theorem NewV.vb {w : World} {v v' : Value} (h : NewV w v v') : ∀ q ∈ vb v', q < w.heap.size → q ∈ vb v := by
  intro q hq hl
  rcases h with rfl | h
  · exact hq
  · unfold Go.Proofs.YtncicecmhibpcaaGreatDoor.vb at hq
    cases hv : v'.ownBlock with
    | none => rw [hv] at hq; cases hq
    | some b => rw [hv] at hq; simp at hq; subst hq; exact absurd (h _ hv) (by omega)
def RkQ (w w' : World) (base N : Nat) (v : Value) (d' : Dsk) : Prop := (∃ v', RkW w' base N v' d' ∧ NewV w v v') ∧ Gn (N :: vb v) w w'
theorem RkQ.same {w w' : World} {base N : Nat} {v : Value} {d : Dsk} (h : RkW w base N v d) (hb : Below w.heap.size w w') : RkQ w w' base N v d := ⟨⟨v, h.mono hb, NewV.refl _ _⟩, Gn.of_below hb⟩
theorem RkQ.trans {w w1 w2 : World} {base N : Nat} {v v1 : Value} {d2 : Dsk} (hv : NewV w v v1) (hg : Gn (N :: vb v) w w1) (k : RkQ w1 w2 base N v1 d2) : RkQ w w2 base N v d2 := by
  obtain ⟨⟨v2, h1, h2⟩, h3⟩ := k
  refine ⟨⟨v2, h1, hv.trans h2 hg.size⟩, hg.transN h3 fun q hq hl => ?_⟩
  rcases List.mem_cons.1 hq with rfl | hq
  · exact List.mem_cons_self
  · exact List.mem_cons_of_mem _ (hv.vb q hq hl)
section
variable {n : Nat} {l : Fr} {P : Program} {w : World} {Q : Exit → Act → World → Prop} {ops : Array Oper} {U : World → Prop} {fuel : Nat} {listed : Array Bool} {f : Nat}
theorem fw_act2 (i j : Nat) {o p : Oper} (hr : Region.ready .any ops listed = [i, j]) (ho : ops[i]? = some o) (hp : ops[j]? = some p) (hg : guardOn ops l o.guard = true) (hg2 : guardOn ops l p.guard = true) (hd : inD o.dst n = true) (hd2 : inD p.dst n = true)
    (h : Act1 P n l o w fun v w' => U w' ∧ (U w' → FW P n ops Q f U fuel (listed.setIfInBounds i true) (putD o.dst v l) w'))
    (h2 : Act1 P n l p w fun v w' => U w' ∧ (U w' → FW P n ops Q f U fuel (listed.setIfInBounds j true) (putD p.dst v l) w')) : FW P n ops Q f U (fuel + 1) listed l w := ⟨fun a ha => by
  refine ⟨fun h0 => (by rw [hr] at h0; cases h0), fun k hk => ?_⟩
  rw [hr] at hk
  rcases List.mem_cons.1 hk with hk | hk
  · subst hk
    unfold wpOp; rw [ho]
    dsimp only
    rw [if_pos (wanted_of ha hg)]
    exact Or.inl (h.out a ha _ _ fun v w' hZ => ⟨fun _ => hZ.1, (hZ.2 hZ.1).out _ (ha.putD hd v)⟩)
  · rw [List.mem_singleton] at hk; subst hk
    unfold wpOp; rw [hp]
    dsimp only
    rw [if_pos (wanted_of ha hg2)]
    exact Or.inl (h2.out a ha _ _ fun v w' hZ => ⟨fun _ => hZ.1, (hZ.2 hZ.1).out _ (ha.putD hd2 v)⟩)⟩
end
section
variable {α : Type} {enc : α → List Value} {k nb : Nat} {P : Program} {n : Nat} {l : Fr} {w : World} {d : Option Nat} {ty : TypeId} {pos : String} {af : Array Edge} {g : Option (Nat × Bool)} {x y : Operand} {S T : TypeId} {base N : Nat} {ys : List α} {a : Option Addr} {m c : Nat} {Z : Value → World → Prop}
def Emp (T : TypeId) (base : Nat) (v : Value) (w : World) : Prop := ∃ N, base ≤ N ∧ v = .slice (some ⟨N, 0, none⟩) 0 0 ∧ w.heap[N]? = some (.cells #[] T (0, 0))
theorem Emp.mono {T : TypeId} {base : Nat} {v : Value} {w w' : World} (h : Emp T base v w) (hb : Below w.heap.size w w') : Emp T base v w' := by
  obtain ⟨N, h1, h2, h3⟩ := h
  exact ⟨N, h1, h2, (hb.block N (Array.getElem?_eq_some_iff.1 h3).1).trans h3⟩
theorem act_bs0 (E : ElemT P S T k nb) (hb : base ≤ w.heap.size) (h : ∀ v w', Emp T base v w' → Below w.heap.size w w' → Z v w') : Act1 P n l ⟨d, .buildSlice S 0 #[], ty, pos, af, g⟩ w Z := by
  obtain ⟨i, z, hi, hz, hsz, _, hzs⟩ := E.info
  refine act_ev (w' := w.alloc (.cells #[] T)) (v := .slice (some ⟨w.heap.size, 0, none⟩) 0 0) ⟨fun A hA => ?_⟩ (h _ _ ⟨_, hb, rfl, heap_alloc_new w _⟩ (below_alloc _ _))
  have e0 : Array.range 0 = #[] := Array.eq_empty_of_size_eq_zero (by simp)
  simp [execOp, Instr.buildSlice, run_underlying E.sl, sizeOf, typeInfo, hi, Instr.fill, newRow, e0]
theorem act_app0 (E : ElemT P S T k nb) (hk : ∀ x, (enc x).length = k) (h1c : ∀ x, ∀ v ∈ enc x, v.oneCell' = true) {v : Value} (hx : ev l x = some v) (hv : Emp T base v w) (hy : ev l y = some (.slice a m c)) (hs : SlR enc k w a c ys) (hm : m = ys.length) (hb : base ≤ w.heap.size) (hsz : ys.length * nb ≤ 140737488355328) (hmx : ys.length ≤ maxLen)
    (h : ∀ v' w', Own enc k T base w' v' ys → Below w.heap.size w w' → Z v' w') : Act1 P n l ⟨d, .call ⟨.builtin .append, #[x, y], #[S, S]⟩, ty, pos, af, g⟩ w Z := by
  subst hm
  obtain ⟨N, hN, rfl, hh⟩ := hv
  cases ys with
  | cons u r =>
    have h0 : SlR enc k w (some ⟨N, 0, none⟩) 0 ([] : List α) := ⟨Nat.le_refl _, by omega, (fun h => by cases h), fun ad _ hc => by omega⟩
    obtain ⟨v', w', h1, h2, h3⟩ := app_full E hk h1c ty h0 hs (by simp) (by simpa using hsz) (by simpa using hmx)
    exact act_ev (v := v') (w' := w') ⟨fun A hA => by simp at h1; simp [execOp, resolve, hA.ev hx, hA.ev hy, invoke, builtin, h1]⟩ (h _ _ ((by simpa using h2 : Own enc k T w.heap.size w' v' (u :: r)).weaken hb) (below_none h3))
  | nil =>
    obtain ⟨i, z, hi, hz, hsz2, _, _⟩ := E.info
    have hO : Own enc k T base w (.slice (some ⟨N, 0, none⟩) 0 0) ([] : List α) := ⟨by simp, .inr ⟨N, 0, #[], rfl, hN, hh, Nat.le_refl _, by simp [maxLen], by simp, by simp⟩⟩
    cases a with
    | none =>
      obtain ⟨_, rfl⟩ := hs.ofNone rfl
      have h1 := run_append_owned_none (P := P) w base S ty T i k E.sl hi _ _ _ hO
      exact act_ev (v := .slice (some ⟨N, 0, none⟩) 0 0) (w' := w) ⟨fun A hA => by simp [execOp, resolve, hA.ev hx, hA.ev hy, invoke, builtin, h1]⟩ (h _ _ hO (Below.refl _ _))
    | some ad =>
      have h1 := run_append_room (P := P) w S ty T i E.sl hi N 0 0 #[] hh ad 0 c [] (by simp) (by simp) (by simp) (by simp) (by simp)
      have hh2 : (w.setRow N #[]).heap[N]? = some (.cells #[] T (0, 0)) := setRow_heap w N _ _ T _ hh
      refine act_ev (v := .slice (some ⟨N, 0, none⟩) 0 0) (w' := w.setRow N #[]) ⟨fun A hA => by simp at h1; simp [execOp, resolve, hA.ev hx, hA.ev hy, invoke, builtin, h1]⟩ (h _ _ ⟨by simp, .inr ⟨N, 0, #[], rfl, hN, hh2, Nat.le_refl _, by simp [maxLen], by simp, by simp⟩⟩ ⟨rfl, rfl, rfl, by simp, fun q _ => ?_⟩)
      rcases Nat.decEq q N with hq | hq
      · exact setRow_other w N q _ hq
      · subst hq; rw [hh2, hh]
end
theorem grown_below {w w' : World} {row : Option Nat} (h : Below w.heap.size w w') : w.grownBy w' row := ⟨h.os, h.tape, h.output, h.size, fun q hq _ => h.block q hq⟩
theorem grown_trans {w w1 w2 : World} {row : Option Nat} (h : w.grownBy w1 row) (k : w1.grownBy w2 row) : w.grownBy w2 row :=
  ⟨k.os.trans h.os, k.tape.trans h.tape, k.output.trans h.output, Nat.le_trans h.size k.size, fun q hq hne => (k.block q (Nat.lt_of_lt_of_le hq h.size) hne).trans (h.block q hq hne)⟩
set_option maxRecDepth 20000 in
theorem rat_c {w : World} {base N : Nat} {v : Value} {d : Dsk} (h : RkP w base N v d) (hsrt : SortF d.fs) (n : ByteArray) : Calls Tryz.prog 60 #[.pointer (some ⟨N, 0, none⟩), .string n] w fun e w' => e = .returned (.tuple #[.int .i64 (posF d.fs n : Nat), .bool (getF d.fs n).isSome]) ∧ Below w.heap.size w w' := by
  obtain ⟨a, c, rfl, HS, -⟩ := Own.slR encF_len h.own
  have H := h.obj
  have hle := HS.le
  have hmx := HS.max
  have hpl := posF_le d.fs n
  have hat := hsrt.at n
  have hw := Below.refl w.heap.size w
  refine fn_enter 48 Tryz.func60 rfl rfl rfl ?_
  repeat' (first | (refine lw_pure rfl (pv_assign rfl) ?_) | (refine is_cw ?_; first | (refine cw_seq ?_) | (refine cw_region ?_) | (refine cw_block ?_)) | (refine is_qw ?_; first | (with_reducible refine qw_then ?_)) | (refine lw_nil ?_))
  refine cw_loop (σ := Nat) (fun k => [(0, .pointer (some ⟨N, 0, none⟩)), (1, .string n), (6, .int .i64 (k : Nat))]) (fun k wr => k ≤ posF d.fs n ∧ Below w.heap.size w wr) (fun k => posF d.fs n - k) 0 (by repeat' (first | exact trivial | refine ⟨rfl, ?_⟩)) ⟨Nat.zero_le _, hw⟩ ?_
  clear hw
  rintro k wr ⟨hk, hw⟩
  by_cases hlt : k < posF d.fs n
  · have hlen : k < d.fs.length := by omega
    have hxk : d.fs[k]? = some d.fs[k] := List.getElem?_eq_getElem hlen
    generalize d.fs[k] = f at hxk
    have hE : decide (ltN f.name n) = true := decide_eq_true ((hsrt.pos_lt n hxk).2 hlt)
    obtain ⟨ab, ao, rfl, -, -⟩ := HS.at (by intro h; rw [h] at hlen; simp at hlen)
    repeat' (first | (refine lw_pure rfl (pv_move rfl) ?_) | (refine lw_pure rfl (pv_assign rfl) ?_) | (refine is_cw ?_; first | (refine cw_seq ?_) | (refine cw_region ?_) | (refine cw_true rfl (by first | assumption | exact decide_eq_true (by omega) | exact dec_notT (by omega)) ?_) | (refine cw_skip ?_) | (refine cw_block ?_)) | (refine is_qw ?_; first | (with_reducible refine qw_then ?_) | (with_reducible refine qw_in ?_)) | (refine lw_nil ?_) | (refine is_guarded ?_; first | (refine lw_on rfl rfl (by first | assumption | exact decide_eq_true (by omega) | exact decide_eq_false (by omega) | exact dec_notT (by omega) | exact dec_notF (by omega)) ?_)) | ((refine is_bin ?_; first | (refine lw_pure rfl (pv_slss rfl rfl) ?_) | (refine lw_pure rfl (pv_lss rfl rfl) ?_) | (refine lw_pure rfl (pv_inc rfl rfl (by omega)) ?_))) | ((refine is_load ?_; first | (refine lw_pure rfl (pv_load (t1 rfl) rfl (by first | exact PT.ld0 (H.mono hw) rfl | exact PT.ld (H.mono hw) rfl | exact SlR.ld (HS.mono hw) hxk rfl | exact SlR.ld1 (HS.mono hw) hxk rfl)) ?_))) | ((refine is_fa ?_; first | (refine lw_pure rfl (pv_fa (tF rfl) rfl) ?_))) | ((refine is_ia ?_; first | (refine lw_pure rfl (pv_ian (tS rfl) rfl rfl (by omega)) ?_))) | ((refine is_bi ?_; first | (refine lw_pure rfl (pv_lenl (tS rfl) rfl) ?_))) | (refine lw_pure rfl (pv_pick_t rfl (by first | assumption | exact decide_eq_true (by omega) | exact dec_notT (by omega)) rfl) ?_) | (refine lw_pure rfl (pv_nilp rfl) ?_))
    exact qw_round (k + 1) (by repeat' (first | exact trivial | refine ⟨rfl, ?_⟩)) ⟨by omega, hw⟩ (by omega)
  · have hkp : k = posF d.fs n := by omega
    by_cases hlen : k < d.fs.length
    · have hxk : d.fs[k]? = some d.fs[k] := List.getElem?_eq_getElem hlen
      generalize d.fs[k] = f at hxk
      have hE : decide (ltN f.name n) = false := decide_eq_false (fun h => hlt ((hsrt.pos_lt n hxk).1 h))
      have hg : (getF d.fs n).isSome = decide (f.name = n) := by
        rw [hat, ← hkp, hxk, Option.filter_some]
        by_cases h1 : f.name = n
        · simp [h1]
        · simp [h1]
      obtain ⟨ab, ao, rfl, -, -⟩ := HS.at (by intro h; rw [h] at hlen; simp at hlen)
      rw [hg, ← hkp]
      repeat' (first | (refine lw_pure rfl (pv_move rfl) ?_) | (refine is_cw ?_; first | (refine cw_seq ?_) | (refine cw_region ?_) | (refine cw_false rfl (by first | assumption | exact decide_eq_false (by omega) | exact dec_notF (by omega)) ?_) | (refine cw_exit ?_)) | (refine is_qw ?_; first | (with_reducible refine qw_then ?_) | (with_reducible refine qw_in_hit ?_) | (with_reducible refine qw_then_exit ?_)) | (refine lw_nil ?_) | (refine is_guarded ?_; first | (refine lw_on rfl rfl (by first | assumption | exact decide_eq_true (by omega) | exact decide_eq_false (by omega) | exact dec_notT (by omega) | exact dec_notF (by omega)) ?_)) | ((refine is_bin ?_; first | (refine lw_pure rfl (pv_slss rfl rfl) ?_) | (refine lw_pure rfl (pv_lss rfl rfl) ?_))) | ((refine is_load ?_; first | (refine lw_pure rfl (pv_load (t1 rfl) rfl (by first | exact PT.ld0 (H.mono hw) rfl | exact PT.ld (H.mono hw) rfl | exact SlR.ld (HS.mono hw) hxk rfl | exact SlR.ld1 (HS.mono hw) hxk rfl)) ?_))) | ((refine is_fa ?_; first | (refine lw_pure rfl (pv_fa (tF rfl) rfl) ?_))) | ((refine is_ia ?_; first | (refine lw_pure rfl (pv_ian (tS rfl) rfl rfl (by omega)) ?_))) | ((refine is_bi ?_; first | (refine lw_pure rfl (pv_lenl (tS rfl) rfl) ?_))) | (refine lw_pure rfl (pv_pick_t rfl (by first | assumption | exact decide_eq_true (by omega) | exact dec_notT (by omega)) rfl) ?_) | (refine lw_pure rfl (pv_nilp rfl) ?_))
      refine cw_drawn (fun w' => Below w.heap.size w w') (by kernel_rfl) (by repeat (first | exact NoPanic.body | with_reducible refine NoPanic.then ?_ | with_reducible refine NoPanic.inBlock ?_)) (fun hNP => ?_)
      have hS := hw.drew
      all_goals (refine at0 0 rfl (fun w' hq => pv_move rfl) ?_)
      all_goals (refine at0 1 rfl (fun w' hq => pv_move rfl) ?_)
      all_goals (refine at0 2 rfl (fun w' hq => pv_move rfl) ?_)
      all_goals (refine at0 3 rfl (fun w' hq => pv_nilp rfl) ?_)
      all_goals (refine at0 4 rfl (fun w' hq => pv_fa (tF rfl) rfl) ?_)
      all_goals (refine at0 5 rfl (fun w' hq => pv_load (t1 rfl) rfl (by first | exact PT.ld0 (H.mono hq) rfl | exact PT.ld (H.mono hq) rfl | exact SlR.ld (HS.mono hq) hxk rfl | exact SlR.ld1 (HS.mono hq) hxk rfl)) ?_)
      all_goals (refine at0 6 rfl (fun w' hq => pv_lenl (tS rfl) rfl) ?_)
      all_goals (refine at0 7 rfl (fun w' hq => pv_lss rfl rfl) ?_)
      all_goals (refine at0 8 rfl (fun w' hq => pv_move rfl) ?_)
      all_goals (refine at2 9 rfl rfl rfl (fun w' hq => pv_move rfl) ?_)
      all_goals (refine at2 10 rfl rfl rfl (fun w' hq => pv_nilp rfl) ?_)
      all_goals (refine at2 11 rfl rfl rfl (fun w' hq => pv_fa (tF rfl) rfl) ?_)
      all_goals (refine at2 12 rfl rfl rfl (fun w' hq => pv_load (t1 rfl) rfl (by first | exact PT.ld0 (H.mono hq) rfl | exact PT.ld (H.mono hq) rfl | exact SlR.ld (HS.mono hq) hxk rfl | exact SlR.ld1 (HS.mono hq) hxk rfl)) ?_)
      all_goals (refine at2 13 rfl rfl rfl (fun w' hq => pv_move rfl) ?_)
      all_goals (refine at2 14 rfl rfl rfl (fun w' hq => pv_ian (tS rfl) rfl rfl (by omega)) ?_)
      all_goals (refine at2 15 rfl rfl rfl (fun w' hq => pv_fa (tF rfl) rfl) ?_)
      all_goals (refine at2 16 rfl rfl rfl (fun w' hq => pv_load (t1 rfl) rfl (by first | exact PT.ld0 (H.mono hq) rfl | exact PT.ld (H.mono hq) rfl | exact SlR.ld (HS.mono hq) hxk rfl | exact SlR.ld1 (HS.mono hq) hxk rfl)) ?_)
      all_goals (refine at2 17 rfl rfl rfl (fun w' hq => pv_move rfl) ?_)
      all_goals (refine at2 18 rfl rfl rfl (fun w' hq => pv_seqlD rfl rfl) ?_)
      all_goals (refine at0 19 rfl (fun w' hq => pv_pick_t rfl (by first | assumption | exact decide_eq_true (by omega) | exact dec_notT (by omega)) rfl) ?_)
      all_goals (refine at0 20 rfl (fun w' hq => pv_assign rfl) ?_)
      all_goals (refine at0 21 rfl (fun w' hq => pv_assign rfl) ?_)
      all_goals (refine aw_done (by kernel_rfl) ?_; replace hw := hS; clear hS hNP)
      repeat' (first | (refine is_cw ?_; first | (refine cw_ret ?_)) | (refine is_qw ?_; first | (with_reducible refine qw_then ?_)))
      exact qw_ret2 rfl rfl rfl ⟨rfl, hw⟩
    · have hkl : k = d.fs.length := by omega
      have hg : (getF d.fs n).isSome = false := by
        rw [hat, ← hkp, List.getElem?_eq_none (by omega)]; rfl
      rw [hg, ← hkp]
      repeat' (first | (refine lw_pure rfl (pv_move rfl) ?_) | (refine is_cw ?_; first | (refine cw_seq ?_) | (refine cw_region ?_) | (refine cw_false rfl rfl ?_) | (refine cw_exit ?_)) | (refine is_qw ?_; first | (with_reducible refine qw_then ?_) | (with_reducible refine qw_in_hit ?_) | (with_reducible refine qw_then_exit ?_)) | (refine lw_nil ?_) | (refine is_guarded ?_; first | (refine lw_not rfl rfl rfl (by first | assumption | exact decide_eq_true (by omega) | exact decide_eq_false (by omega) | exact dec_notT (by omega) | exact dec_notF (by omega)) ?_)) | ((refine is_bin ?_; first | (refine lw_pure rfl (pv_lss rfl rfl) ?_))) | ((refine is_load ?_; first | (refine lw_pure rfl (pv_load (t1 rfl) rfl (by first | exact PT.ld0 (H.mono hw) rfl | exact PT.ld (H.mono hw) rfl)) ?_))) | ((refine is_fa ?_; first | (refine lw_pure rfl (pv_fa (tF rfl) rfl) ?_))) | ((refine is_bi ?_; first | (refine lw_pure rfl (pv_lenl (tS rfl) rfl) ?_))) | (refine lw_pure rfl (pv_pick_f rfl (by first | assumption | exact decide_eq_false (by omega) | exact dec_notF (by omega)) rfl) ?_) | (refine lw_pure rfl (pv_nilp rfl) ?_))
      refine cw_drawn (fun w' => Below w.heap.size w w') (by kernel_rfl) (by repeat (first | exact NoPanic.body | with_reducible refine NoPanic.then ?_ | with_reducible refine NoPanic.inBlock ?_)) (fun hNP => ?_)
      have hS := hw.drew
      all_goals (refine at0 0 rfl (fun w' hq => pv_move rfl) ?_)
      all_goals (refine at0 1 rfl (fun w' hq => pv_move rfl) ?_)
      all_goals (refine at0 2 rfl (fun w' hq => pv_move rfl) ?_)
      all_goals (refine at0 3 rfl (fun w' hq => pv_nilp rfl) ?_)
      all_goals (refine at0 4 rfl (fun w' hq => pv_fa (tF rfl) rfl) ?_)
      all_goals (refine at0 5 rfl (fun w' hq => pv_load (t1 rfl) rfl (by first | exact PT.ld0 (H.mono hq) rfl | exact PT.ld (H.mono hq) rfl)) ?_)
      all_goals (refine at0 6 rfl (fun w' hq => pv_lenl (tS rfl) rfl) ?_)
      all_goals (refine at0 7 rfl (fun w' hq => pv_lss rfl rfl) ?_)
      all_goals (refine at0 8 rfl (fun w' hq => pv_move rfl) ?_)
      all_goals (refine an2 9 rfl rfl rfl ?_)
      all_goals (refine an2 10 rfl rfl rfl ?_)
      all_goals (refine an2 11 rfl rfl rfl ?_)
      all_goals (refine an2 12 rfl rfl rfl ?_)
      all_goals (refine an2 13 rfl rfl rfl ?_)
      all_goals (refine an2 14 rfl rfl rfl ?_)
      all_goals (refine an2 15 rfl rfl rfl ?_)
      all_goals (refine an2 16 rfl rfl rfl ?_)
      all_goals (refine an2 17 rfl rfl rfl ?_)
      all_goals (refine an2 18 rfl rfl rfl ?_)
      all_goals (refine at0 19 rfl (fun w' hq => pv_pick_f rfl (by first | assumption | exact decide_eq_false (by omega) | exact dec_notF (by omega)) rfl) ?_)
      all_goals (refine at0 20 rfl (fun w' hq => pv_assign rfl) ?_)
      all_goals (refine at0 21 rfl (fun w' hq => pv_assign rfl) ?_)
      all_goals (refine aw_done (by kernel_rfl) ?_; replace hw := hS; clear hS hNP)
      repeat' (first | (refine is_cw ?_; first | (refine cw_ret ?_)) | (refine is_qw ?_; first | (with_reducible refine qw_then ?_)))
      exact qw_ret2 rfl rfl rfl ⟨rfl, hw⟩
set_option maxRecDepth 20000 in
theorem rgoes0_c {w : World} {base N : Nat} {v : Value} {d : Dsk} (h : RkW w base N v d) (h0 : d.left = 0) : Calls Tryz.prog 61 #[.pointer (some ⟨N, 0, none⟩)] w fun e w' => e = .returned (.bool false) ∧ RkW w' base N v (darkD d) ∧ w.grownBy w' (some N) := by
  have H := h.obj
  have hw := Below.refl w.heap.size w
  refine fn_enter 23 Tryz.func61 rfl rfl rfl ?_
  repeat' (first | (refine lw_pure rfl (pv_move rfl) ?_) | (refine lw_pure rfl (pv_assign rfl) ?_) | (refine is_cw ?_; first | (refine cw_seq ?_) | (refine cw_region ?_) | (refine cw_true rfl (by first | assumption | exact decide_eq_true (by omega) | exact dec_notT (by omega)) ?_)) | (refine is_qw ?_; first | (with_reducible refine qw_then ?_)) | (refine lw_nil ?_) | ((refine is_bin ?_; first | (refine lw_pure rfl (pv_eql rfl rfl) ?_))) | ((refine is_load ?_; first | (refine lw_pure rfl (pv_load (t1 rfl) rfl (by first | exact PT.ld0 (H.mono hw) rfl | exact PT.ld (H.mono hw) rfl)) ?_))) | ((refine is_fa ?_; first | (refine lw_pure rfl (pv_fa (tF rfl) rfl) ?_))) | (refine lw_pure rfl (pv_nilp rfl) ?_))
  refine lw_store (H.mono hw) (tZ rfl) rfl rfl rfl (by simp) ?_; intro w5 H5 hg5 hz5
  have hO : Own encF 3 54 base w5 v d.fs := (h.own.mono hw).gw (Gw.of_a (a := N) (b := N) hg5) h.ne h.ne
  have hg : w.grownBy w5 (some N) := ⟨hg5.os.trans hw.os, hg5.tape.trans hw.tape, hg5.output.trans hw.output, Nat.le_trans hw.size hg5.size, fun k hk h1 => (hg5.block k (Nat.lt_of_lt_of_le hk hw.size) h1).trans (hw.block k hk)⟩
  clear hw
  have hw := Below.refl w5.heap.size w5
  repeat' (first | (refine lw_pure rfl (pv_assign rfl) ?_) | (refine is_cw ?_; first | (refine cw_seq ?_) | (refine cw_region ?_) | (refine cw_ret ?_)) | (refine is_qw ?_; first | (with_reducible refine qw_then ?_) | (with_reducible refine qw_then_ret ?_)) | (refine lw_nil ?_))
  exact qw_ret1 rfl rfl ⟨rfl, ⟨H5, hO, h.ok.dark⟩, hg⟩
set_option maxRecDepth 20000 in
theorem rgoes1_c {w : World} {base N : Nat} {v : Value} {d : Dsk} (h : RkW w base N v d) (h0 : d.left ≠ 0) : Calls Tryz.prog 61 #[.pointer (some ⟨N, 0, none⟩)] w fun e w' => e = .returned (.bool true) ∧ RkW w' base N v (tickD d) ∧ w.grownBy w' (some N) := by
  have H := h.obj
  have hlm := h.ok.leftm
  have hl1 := h.ok.left
  have hw := Below.refl w.heap.size w
  refine fn_enter 23 Tryz.func61 rfl rfl rfl ?_
  by_cases h1 : 0 < d.left
  · have e : tickD d = { d with left := d.left - 1 } := by unfold tickD; rw [if_pos h1]
    have hok := h.ok.tick
    rw [e] at hok ⊢
    repeat' (first | (refine lw_pure rfl (pv_move rfl) ?_) | (refine lw_pure rfl (pv_assign rfl) ?_) | (refine is_cw ?_; first | (refine cw_seq ?_) | (refine cw_region ?_) | (refine cw_true rfl (by first | assumption | exact decide_eq_true (by omega) | exact dec_notT (by omega)) ?_) | (refine cw_false rfl (by first | assumption | exact decide_eq_false (by omega) | exact dec_notF (by omega)) ?_) | (refine cw_skip ?_)) | (refine is_qw ?_; first | (with_reducible refine qw_then ?_)) | (refine lw_nil ?_) | ((refine is_bin ?_; first | (refine lw_pure rfl (pv_eql rfl rfl) ?_) | (refine lw_pure rfl (pv_gtr rfl rfl) ?_) | (refine lw_pure rfl (pv_sub rfl rfl (by omega)) ?_))) | ((refine is_load ?_; first | (refine lw_pure rfl (pv_load (t1 rfl) rfl (by first | exact PT.ld0 (H.mono hw) rfl | exact PT.ld (H.mono hw) rfl)) ?_))) | ((refine is_fa ?_; first | (refine lw_pure rfl (pv_fa (tF rfl) rfl) ?_))) | (refine lw_pure rfl (pv_nilp rfl) ?_))
    refine lw_store (H.mono hw) (tZ rfl) rfl rfl rfl (by simp) ?_; intro w5 H5 hg5 hz5
    have hO : Own encF 3 54 base w5 v d.fs := (h.own.mono hw).gw (Gw.of_a (a := N) (b := N) hg5) h.ne h.ne
    have hg : w.grownBy w5 (some N) := ⟨hg5.os.trans hw.os, hg5.tape.trans hw.tape, hg5.output.trans hw.output, Nat.le_trans hw.size hg5.size, fun k hk h1 => (hg5.block k (Nat.lt_of_lt_of_le hk hw.size) h1).trans (hw.block k hk)⟩
    clear hw
    have hw := Below.refl w5.heap.size w5
    repeat' (first | (refine lw_pure rfl (pv_assign rfl) ?_) | (refine is_cw ?_; first | (refine cw_seq ?_) | (refine cw_region ?_) | (refine cw_ret ?_)) | (refine is_qw ?_; first | (with_reducible refine qw_then ?_)) | (refine lw_nil ?_))
    exact qw_ret1 rfl rfl ⟨rfl, ⟨H5, hO, hok⟩, hg⟩
  · have e : tickD d = d := by unfold tickD; rw [if_neg h1]
    rw [e]
    repeat' (first | (refine lw_pure rfl (pv_move rfl) ?_) | (refine lw_pure rfl (pv_assign rfl) ?_) | (refine is_cw ?_; first | (refine cw_seq ?_) | (refine cw_region ?_) | (refine cw_false rfl (by first | assumption | exact decide_eq_false (by omega) | exact dec_notF (by omega)) ?_) | (refine cw_skip ?_) | (refine cw_ret ?_)) | (refine is_qw ?_; first | (with_reducible refine qw_then ?_)) | (refine lw_nil ?_) | ((refine is_bin ?_; first | (refine lw_pure rfl (pv_eql rfl rfl) ?_) | (refine lw_pure rfl (pv_gtr rfl rfl) ?_))) | ((refine is_load ?_; first | (refine lw_pure rfl (pv_load (t1 rfl) rfl (by first | exact PT.ld0 (H.mono hw) rfl | exact PT.ld (H.mono hw) rfl)) ?_))) | ((refine is_fa ?_; first | (refine lw_pure rfl (pv_fa (tF rfl) rfl) ?_))) | (refine lw_pure rfl (pv_nilp rfl) ?_))
    exact qw_ret1 rfl rfl ⟨rfl, h.mono hw, ⟨hw.os, hw.tape, hw.output, hw.size, fun k hk _ => hw.block k hk⟩⟩
set_option maxRecDepth 20000 in
theorem rfind45_c {w : World} {base N : Nat} {v : Value} {d : Dsk} (h : RkW w base N v d) (hk : d.dark = true) (n : ByteArray) : Calls Tryz.prog 63 #[.pointer (some ⟨N, 0, none⟩), .string n] w fun e w' => e = .returned (.tuple #[.int .i64 0, .int .i64 45]) ∧ Below w.heap.size w w' := by
  have H := h.obj
  rw [hk] at H
  have hw := Below.refl w.heap.size w
  refine fn_enter 21 Tryz.func63 rfl rfl rfl ?_
  repeat' (first | (refine lw_pure rfl (pv_move rfl) ?_) | (refine lw_pure rfl (pv_assign rfl) ?_) | (refine is_cw ?_; first | (refine cw_seq ?_) | (refine cw_region ?_) | (refine cw_true rfl rfl ?_) | (refine cw_ret ?_)) | (refine is_qw ?_; first | (with_reducible refine qw_then ?_) | (with_reducible refine qw_then_ret ?_)) | (refine lw_nil ?_) | ((refine is_load ?_; first | (refine lw_pure rfl (pv_load (t1 rfl) rfl (by first | exact PT.ld0 (H.mono hw) rfl | exact PT.ld (H.mono hw) rfl)) ?_))) | ((refine is_fa ?_; first | (refine lw_pure rfl (pv_fa (tF rfl) rfl) ?_))) | (refine lw_pure rfl (pv_nilp rfl) ?_))
  exact qw_ret2 rfl rfl rfl ⟨rfl, hw⟩
set_option maxRecDepth 20000 in
theorem rfind5_c {w : World} {base N : Nat} {v : Value} {d : Dsk} (h : RkW w base N v d) (hk : d.dark = false) {n : ByteArray} (hg : getF d.fs n = none) : Calls Tryz.prog 63 #[.pointer (some ⟨N, 0, none⟩), .string n] w fun e w' => e = .returned (.tuple #[.int .i64 0, .int .i64 5]) ∧ Below w.heap.size w w' := by
  have H := h.obj
  rw [hk] at H
  have hc := rat_c ⟨h.obj, h.own⟩ h.ok.srt n
  rw [hg] at hc
  have hw := Below.refl w.heap.size w
  refine fn_enter 21 Tryz.func63 rfl rfl rfl ?_
  repeat' (first | (refine lw_pure rfl (pv_move rfl) ?_) | (refine lw_pure rfl (pv_assign rfl) ?_) | (refine lw_call (f := 60) (by kernel_rfl) rfl rfl (hc) ?_; rintro e w1 ⟨rfl, hb⟩; refine ⟨_, rfl, ?_⟩; replace hw := grow_trans hw hb; clear hb) | (refine is_cw ?_; first | (refine cw_seq ?_) | (refine cw_region ?_) | (refine cw_true rfl rfl ?_) | (refine cw_false rfl rfl ?_) | (refine cw_skip ?_) | (refine cw_ret ?_)) | (refine is_qw ?_; first | (with_reducible refine qw_then ?_) | (with_reducible refine qw_then_ret ?_)) | (refine lw_nil ?_) | ((refine is_load ?_; first | (refine lw_pure rfl (pv_load (t1 rfl) rfl (by first | exact PT.ld0 (H.mono hw) rfl | exact PT.ld (H.mono hw) rfl)) ?_))) | ((refine is_fa ?_; first | (refine lw_pure rfl (pv_fa (tF rfl) rfl) ?_))) | ((refine is_un ?_; first | (refine lw_pure rfl (pv_not rfl) ?_))) | (refine lw_pure rfl (pv_extract rfl rfl) ?_) | (refine lw_pure rfl (pv_nilp rfl) ?_))
  exact qw_ret2 rfl rfl rfl ⟨rfl, hw⟩
set_option maxRecDepth 20000 in
theorem rfind0_c {w : World} {base N : Nat} {v : Value} {d : Dsk} (h : RkW w base N v d) (hk : d.dark = false) {n : ByteArray} {f : Fil} (hg : getF d.fs n = some f) : Calls Tryz.prog 63 #[.pointer (some ⟨N, 0, none⟩), .string n] w fun e w' => e = .returned (.tuple #[.int .i64 (posF d.fs n : Nat), .int .i64 0]) ∧ Below w.heap.size w w' := by
  have H := h.obj
  rw [hk] at H
  have hc := rat_c ⟨h.obj, h.own⟩ h.ok.srt n
  rw [hg] at hc
  have hw := Below.refl w.heap.size w
  refine fn_enter 21 Tryz.func63 rfl rfl rfl ?_
  repeat' (first | (refine lw_pure rfl (pv_move rfl) ?_) | (refine lw_pure rfl (pv_assign rfl) ?_) | (refine lw_call (f := 60) (by kernel_rfl) rfl rfl (hc) ?_; rintro e w1 ⟨rfl, hb⟩; refine ⟨_, rfl, ?_⟩; replace hw := grow_trans hw hb; clear hb) | (refine is_cw ?_; first | (refine cw_seq ?_) | (refine cw_region ?_) | (refine cw_false rfl rfl ?_) | (refine cw_skip ?_) | (refine cw_ret ?_)) | (refine is_qw ?_; first | (with_reducible refine qw_then ?_)) | (refine lw_nil ?_) | ((refine is_load ?_; first | (refine lw_pure rfl (pv_load (t1 rfl) rfl (by first | exact PT.ld0 (H.mono hw) rfl | exact PT.ld (H.mono hw) rfl)) ?_))) | ((refine is_fa ?_; first | (refine lw_pure rfl (pv_fa (tF rfl) rfl) ?_))) | ((refine is_un ?_; first | (refine lw_pure rfl (pv_not rfl) ?_))) | (refine lw_pure rfl (pv_extract rfl rfl) ?_) | (refine lw_pure rfl (pv_nilp rfl) ?_))
  exact qw_ret2 rfl rfl rfl ⟨rfl, hw⟩
theorem at_pos {l : List Fil} (h : SortF l) {n : ByteArray} {f : Fil} (hg : getF l n = some f) : l[posF l n]? = some f := by
  rw [h.at] at hg
  cases hx : l[posF l n]? with
  | none => rw [hx] at hg; cases hg
  | some g =>
    rw [hx, Option.filter_some] at hg
    split at hg
    · injection hg with hg; rw [hg]
    · cases hg

theorem grown_in {W w w' : World} {row : Option Nat} (hw : Below W.heap.size W w) (h : w.grownBy w' row) : W.grownBy w' row := ⟨h.os.trans hw.os, h.tape.trans hw.tape, h.output.trans hw.output, Nat.le_trans hw.size h.size, fun q hq hne => (h.block q (Nat.lt_of_lt_of_le hq hw.size) hne).trans (hw.block q hq)⟩
theorem SlR.cuti {α : Type} {enc : α → List Value} {k : Nat} {w : World} {a : Option Addr} {c : Nat} {xs : List α} (h : SlR enc k w a c xs) (j : Int) (hj : 0 ≤ j ∧ j ≤ xs.length) : SlR enc k w (if c = j.toNat then a else a.map (·.add (j.toNat * k))) (c - j.toNat) (xs.drop j.toNat) := h.cutn j.toNat (by omega)
theorem putO {k : Nat} {T : TypeId} {base : Nat} {w : World} {v : Value} {l : List Fil} (hsrt : SortF l) {f : Fil} {q : Nat} (hq : posF l f.name + (if (getF l f.name).isSome = true then 1 else 0) = q) (h : Own encF k T base w v (l.take (posF l f.name) ++ [f] ++ l.drop q)) : Own encF k T base w v (putF l f) := by
  rw [putF_doc hsrt f, hq]
  simpa using h
theorem rat_is {w : World} {base N : Nat} {v : Value} {d : Dsk} (h : RkP w base N v d) (hsrt : SortF d.fs) {n : ByteArray} {b : Bool} (hg : (getF d.fs n).isSome = b) : Calls Tryz.prog 60 #[.pointer (some ⟨N, 0, none⟩), .string n] w fun e w' => e = .returned (.tuple #[.int .i64 (posF d.fs n : Nat), .bool b]) ∧ Below w.heap.size w w' := by
  have := rat_c h hsrt n
  rwa [hg] at this
theorem pos_lt {l : List Fil} (h : SortF l) {n : ByteArray} (hg : (getF l n).isSome = true) : posF l n < l.length := by
  obtain ⟨f, hf⟩ := Option.isSome_iff_exists.1 hg
  exact (List.getElem?_eq_some_iff.1 (at_pos h hf)).1
set_option maxRecDepth 20000 in
set_option maxHeartbeats 2000000 in
theorem rput_c {w : World} {base N : Nat} {v : Value} {d : Dsk} (h : RkP w base N v d) (hsrt : SortF d.fs) (hcnt : d.fs.length ≤ 64) (hbs : base ≤ w.heap.size) (f : Fil) : Calls Tryz.prog 62 #[.pointer (some ⟨N, 0, none⟩), .agg (encF f).toArray] w fun e w' => e = .returned (.tuple #[]) ∧ (∃ v', RkP w' base N v' { d with fs := putF d.fs f } ∧ NewV w v v') ∧ w.grownBy w' (some N) := by
  obtain ⟨a0, c0, rfl, HS, -⟩ := Own.slR encF_len h.own
  obtain ⟨nm, ffr, fpd⟩ := f
  have H := h.obj
  have hO := h.own
  clear h
  have hle := HS.le
  have hmx := HS.max
  have hpl := posF_le d.fs nm
  have hw := Below.refl w.heap.size w
  refine fn_enter 48 Tryz.func62 rfl rfl rfl ?_
  repeat' (first | (refine is_cw ?_; first | (refine cw_seq ?_) | (refine cw_region ?_)))
  refine lw_boxN rfl rfl (cs := encF ⟨nm, ffr, fpd⟩) rfl ?_; intro N3 w3 hN3 H3 hb; replace hw := grow_trans hw hb; clear hb
  have hw0 := hw
  replace H := H.mono hw; replace hO := hO.mono hw; replace HS := HS.mono hw; clear hw; have hw := Below.refl w3.heap.size w3
  cases hg : (getF d.fs nm).isSome with
  | false =>
    have hq : posF d.fs nm + (if (getF d.fs nm).isSome = true then 1 else 0) = posF d.fs nm := by rw [hg]; rfl
    repeat' (first | (refine lw_pure rfl (pv_move rfl) ?_) | (refine lw_pure rfl (pv_assign rfl) ?_) | (refine lw_call (f := 60) (by kernel_rfl) rfl rfl (rat_is (n := nm) ⟨H.mono hw, hO.mono hw⟩ hsrt hg) ?_; rintro e w1 ⟨rfl, hb⟩; refine ⟨_, rfl, ?_⟩; replace hw := grow_trans hw hb; clear hb) | (refine is_cw ?_; first | (refine cw_seq ?_) | (refine cw_region ?_)) | (refine is_qw ?_; first | (with_reducible refine qw_then ?_)) | (refine lw_nil ?_) | ((refine is_load ?_; first | (refine lw_pure rfl (pv_load (t1 rfl) rfl (by first | exact PT.ld0 (H.mono hw) rfl | exact PT.ld (H.mono hw) rfl | exact PT.ld0 (H3.mono hw) rfl | exact PT.ld (H3.mono hw) rfl)) ?_))) | ((refine is_fa ?_; first | (refine lw_pure rfl (pv_fa (tF rfl) rfl) ?_))) | (refine lw_pure rfl (pv_extract rfl rfl) ?_))
    refine lw_bs0 (enc := encF) elemF rfl ?_; intro wn hO2 hb2 hz2
    replace hO2 := hO2.weaken hw.size
    replace hw := grow_trans hw hb2
    repeat' (first | (refine lw_pure rfl (pv_move rfl) ?_) | ((refine is_load ?_; first | (refine lw_pure rfl (pv_load (t1 rfl) rfl (by first | exact PT.ld0 (H.mono hw) rfl | exact PT.ld (H.mono hw) rfl)) ?_))) | ((refine is_fa ?_; first | (refine lw_pure rfl (pv_fa (tF rfl) rfl) ?_))) | (refine lw_pure rfl (pv_nilp rfl) ?_) | (refine lw_pure rfl (pv_slice_l (tS rfl) rfl rfl (by omega)) ?_))

    refine lw_app elemF encF_len encF_one rfl rfl rfl hO2 ((HS.mono hw).cuti ((posF d.fs nm : Nat) : Int) (by omega)) (by rw [List.length_drop]) hw.size (by simp; omega) (by simp [maxLen]; omega) ?_; intro v2 w2 hO3 hg3 hb3
    replace hw := hw.trans hb3
    clear hg3 hb3 hO2 hb2 hz2
    repeat' (first | (refine lw_pure rfl (pv_move rfl) ?_) | (refine lw_pure rfl (pv_assign rfl) ?_) | (refine is_cw ?_; first | (refine cw_seq ?_) | (refine cw_region ?_) | (refine cw_false rfl rfl ?_) | (refine cw_skip ?_)) | (refine is_qw ?_; first | (with_reducible refine qw_then ?_)) | (refine lw_nil ?_))
    obtain ⟨ta, tc, rfl, HT, -⟩ := Own.slR encF_len hO3
    have hw0 := grow_trans hw0 hw
    replace H := H.mono hw; replace H3 := H3.mono hw; replace HS := HS.mono hw; clear hw; have hw := Below.refl w2.heap.size w2
    refine cw_drawnF 16 (fun w' => Below w2.heap.size w2 w' ∧ PT w' N 57 [.slice a0 d.fs.length c0, .int .i64 d.cap, .int .i64 d.left, .bool d.dark]) (by kernel_rfl) (by repeat (first | exact NoPanic.body | with_reducible refine NoPanic.then ?_ | with_reducible refine NoPanic.inBlock ?_)) (fun hNP => ?_)
    have hU := And.intro hw.drew ((H.mono hw).mono (below_drew _))
    first | (refine fw_take 0 rfl (by kernel_rfl) rfl rfl (by kernel_rfl) (by kernel_rfl) (by kernel_rfl) hNP hU rfl (fun w' hq => pv_move rfl) ?_)
    first | (refine fw_take 2 rfl (by kernel_rfl) rfl rfl (by kernel_rfl) (by kernel_rfl) (by kernel_rfl) hNP hU rfl (fun w' hq => pv_move rfl) ?_)
    first | (refine fw_take 3 rfl (by kernel_rfl) rfl rfl (by kernel_rfl) (by kernel_rfl) (by kernel_rfl) hNP hU rfl (fun w' hq => pv_nilp rfl) ?_)
    first | (refine fw_take 4 rfl (by kernel_rfl) rfl rfl (by kernel_rfl) (by kernel_rfl) (by kernel_rfl) hNP hU rfl (fun w' hq => pv_fa (tF rfl) rfl) ?_)
    first | (refine fw_take 5 rfl (by kernel_rfl) rfl rfl (by kernel_rfl) (by kernel_rfl) (by kernel_rfl) hNP hU rfl (fun w' hq => pv_load (t1 rfl) rfl (by first | exact PT.ld0 hq.2 rfl | exact PT.ld hq.2 rfl)) ?_) | (refine fw_take 5 rfl (by kernel_rfl) rfl rfl (by kernel_rfl) (by kernel_rfl) (by kernel_rfl) hNP hU rfl (fun w' hq => pv_loada (tA rfl) rfl (by first | exact PT.lda hq.2) (by rfl)) ?_) | (refine fw_take 5 rfl (by kernel_rfl) rfl rfl (by kernel_rfl) (by kernel_rfl) (by kernel_rfl) hNP hU rfl (fun w' hq => pv_load (t1 rfl) rfl (by first | exact PT.ld0 (H3.mono hq.1) rfl | exact PT.ld (H3.mono hq.1) rfl)) ?_) | (refine fw_take 5 rfl (by kernel_rfl) rfl rfl (by kernel_rfl) (by kernel_rfl) (by kernel_rfl) hNP hU rfl (fun w' hq => pv_loada (tA rfl) rfl (by first | exact PT.lda (H3.mono hq.1)) (by rfl)) ?_)
    first | (refine fw_take 6 rfl (by kernel_rfl) rfl rfl (by kernel_rfl) (by kernel_rfl) (by kernel_rfl) hNP hU rfl (fun w' hq => pv_move rfl) ?_)
    first | (refine fw_take 7 rfl (by kernel_rfl) rfl rfl (by kernel_rfl) (by kernel_rfl) (by kernel_rfl) hNP hU rfl (fun w' hq => pv_slice_l (tS rfl) rfl rfl (by omega)) ?_) | (refine fw_take 7 rfl (by kernel_rfl) rfl rfl (by kernel_rfl) (by kernel_rfl) (by kernel_rfl) hNP hU rfl (fun w' hq => pv_slice_h (tS rfl) rfl rfl (by omega)) ?_) | (refine fw_take 7 rfl (by kernel_rfl) rfl rfl (by kernel_rfl) (by kernel_rfl) (by kernel_rfl) hNP hU rfl (fun w' hq => pv_slice_lh (tS rfl) rfl rfl rfl (by omega)) ?_)
    first | (refine fw_take 9 rfl (by kernel_rfl) rfl rfl (by kernel_rfl) (by kernel_rfl) (by kernel_rfl) hNP hU rfl (fun w' hq => pv_load (t1 rfl) rfl (by first | exact PT.ld0 hq.2 rfl | exact PT.ld hq.2 rfl)) ?_) | (refine fw_take 9 rfl (by kernel_rfl) rfl rfl (by kernel_rfl) (by kernel_rfl) (by kernel_rfl) hNP hU rfl (fun w' hq => pv_loada (tA rfl) rfl (by first | exact PT.lda hq.2) (by rfl)) ?_) | (refine fw_take 9 rfl (by kernel_rfl) rfl rfl (by kernel_rfl) (by kernel_rfl) (by kernel_rfl) hNP hU rfl (fun w' hq => pv_load (t1 rfl) rfl (by first | exact PT.ld0 (H3.mono hq.1) rfl | exact PT.ld (H3.mono hq.1) rfl)) ?_) | (refine fw_take 9 rfl (by kernel_rfl) rfl rfl (by kernel_rfl) (by kernel_rfl) (by kernel_rfl) hNP hU rfl (fun w' hq => pv_loada (tA rfl) rfl (by first | exact PT.lda (H3.mono hq.1)) (by rfl)) ?_)
    first | (refine fw_take 12 rfl (by kernel_rfl) rfl rfl (by kernel_rfl) (by kernel_rfl) (by kernel_rfl) hNP hU rfl (fun w' hq => pv_move rfl) ?_)
    refine fw_act2 1 10 (by kernel_rfl) rfl rfl rfl rfl rfl rfl ?_ ?_
    · refine act_bs0 elemF hU.1.size ?_; intro v1 wb hE1 hbb; (try replace HB := HB.mono hbb); refine ⟨⟨grow_trans hU.1 hbb, hU.2.mono hbb⟩, fun hU => ?_⟩
      refine fw_act2 8 10 (by kernel_rfl) rfl rfl rfl rfl rfl rfl ?_ ?_
      · refine act_app0 elemF encF_len encF_one rfl hE1 rfl ((HS.mono hU.1).head (posF d.fs nm) c0 hpl ⟨Nat.le_trans hpl hle, Nat.le_refl _⟩) (by rw [List.length_take]; show posF d.fs nm = _; omega) hU.1.size (by rw [List.length_take]; omega) (by rw [List.length_take]; simp only [maxLen]; omega) ?_; intro v8 wb hO8 hbb; (try replace HB := HB.mono hbb); refine ⟨⟨grow_trans hU.1 hbb, hU.2.mono hbb⟩, fun hU => ?_⟩
        refine fw_act 10 (by kernel_rfl) rfl rfl rfl ?_
        refine act_bs (vs := [.agg (encF (⟨nm, ffr, fpd⟩ : Fil)).toArray]) (cs := encF (⟨nm, ffr, fpd⟩ : Fil)) elemF rfl rfl (by omega) (by omega) rfl (by simp [Value.cells, encF]) ?_; intro wb HB hbb; (try replace hE1 := hE1.mono hbb); (try replace hO8 := hO8.mono hbb); refine ⟨⟨grow_trans hU.1 hbb, hU.2.mono hbb⟩, fun hU => ?_⟩
        refine fw_act 11 (by kernel_rfl) rfl rfl rfl ?_
        have hOo := hO8; refine act_app elemF encF_len encF_one rfl rfl hOo (HB.slR (xs := [(⟨nm, ffr, fpd⟩ : Fil)]) encF_len rfl (by omega)) (rfl) hU.1.size (by simp; omega) (by simp [maxLen]; omega) ?_; intro v9 wb hO9 hg9 hb9; refine ⟨⟨hU.1.trans hb9, hU.2.grown hg9 (fun e => own_pt_ne hOo hU.2 (by decide) e)⟩, fun hU => ?_⟩; clear hg9 hb9
        refine fw_act 13 (by kernel_rfl) rfl rfl rfl ?_
        have hOo := hO9; refine act_app elemF encF_len encF_one rfl rfl hOo (HT.mono hU.1) (rfl) hU.1.size (by simp; omega) (by simp [maxLen]; omega) ?_; intro v9 wb hO9 hg9 hb9; refine ⟨⟨hU.1.trans hb9, hU.2.grown hg9 (fun e => own_pt_ne hOo hU.2 (by decide) e)⟩, fun hU => ?_⟩; clear hg9 hb9
        first | (refine fw_act 14 (by kernel_rfl) rfl rfl rfl ?_; refine act_pv (pv_nilp rfl) ?_; refine ⟨hU, fun hU => ?_⟩)
        first | (refine fw_take 15 rfl (by kernel_rfl) rfl rfl (by kernel_rfl) (by kernel_rfl) (by kernel_rfl) hNP hU rfl (fun w' hq => pv_fa (tF rfl) rfl) ?_)
        refine fw_last (by kernel_rfl) rfl rfl rfl rfl (by kernel_rfl) ?_
        obtain ⟨hw5, H5⟩ := hU; clear hNP
        obtain ⟨za, zc, rfl, -, -⟩ := Own.slR encF_len hO9; refine act_store H5 (tZ rfl) rfl rfl rfl (by simp) ?_; intro wz HZ hgz hzz; have hOz := hO9.kept hgz (Or.inr (own_pt_ne hO9 H5 (by decide))); have hlt := hOz.lt; exact qw_end0 rfl ⟨rfl, ⟨_, ⟨HZ, putO hsrt (f := ⟨nm, ffr, fpd⟩) hq (hOz.weaken (Nat.le_trans hbs hw0.size))⟩, Or.inr fun b hb => Nat.le_trans hw0.size (hlt b hb).1⟩, grown_in (grow_trans hw0 hw5) hgz⟩
      · refine act_bs (vs := [.agg (encF (⟨nm, ffr, fpd⟩ : Fil)).toArray]) (cs := encF (⟨nm, ffr, fpd⟩ : Fil)) elemF rfl rfl (by omega) (by omega) rfl (by simp [Value.cells, encF]) ?_; intro wb HB hbb; (try replace hE1 := hE1.mono hbb); (try replace hO8 := hO8.mono hbb); refine ⟨⟨grow_trans hU.1 hbb, hU.2.mono hbb⟩, fun hU => ?_⟩
        refine fw_act 8 (by kernel_rfl) rfl rfl rfl ?_
        refine act_app0 elemF encF_len encF_one rfl hE1 rfl ((HS.mono hU.1).head (posF d.fs nm) c0 hpl ⟨Nat.le_trans hpl hle, Nat.le_refl _⟩) (by rw [List.length_take]; show posF d.fs nm = _; omega) hU.1.size (by rw [List.length_take]; omega) (by rw [List.length_take]; simp only [maxLen]; omega) ?_; intro v8 wb hO8 hbb; (try replace HB := HB.mono hbb); refine ⟨⟨grow_trans hU.1 hbb, hU.2.mono hbb⟩, fun hU => ?_⟩
        refine fw_act 11 (by kernel_rfl) rfl rfl rfl ?_
        have hOo := hO8; refine act_app elemF encF_len encF_one rfl rfl hOo (HB.slR (xs := [(⟨nm, ffr, fpd⟩ : Fil)]) encF_len rfl (by omega)) (rfl) hU.1.size (by simp; omega) (by simp [maxLen]; omega) ?_; intro v9 wb hO9 hg9 hb9; refine ⟨⟨hU.1.trans hb9, hU.2.grown hg9 (fun e => own_pt_ne hOo hU.2 (by decide) e)⟩, fun hU => ?_⟩; clear hg9 hb9
        refine fw_act 13 (by kernel_rfl) rfl rfl rfl ?_
        have hOo := hO9; refine act_app elemF encF_len encF_one rfl rfl hOo (HT.mono hU.1) (rfl) hU.1.size (by simp; omega) (by simp [maxLen]; omega) ?_; intro v9 wb hO9 hg9 hb9; refine ⟨⟨hU.1.trans hb9, hU.2.grown hg9 (fun e => own_pt_ne hOo hU.2 (by decide) e)⟩, fun hU => ?_⟩; clear hg9 hb9
        first | (refine fw_act 14 (by kernel_rfl) rfl rfl rfl ?_; refine act_pv (pv_nilp rfl) ?_; refine ⟨hU, fun hU => ?_⟩)
        first | (refine fw_take 15 rfl (by kernel_rfl) rfl rfl (by kernel_rfl) (by kernel_rfl) (by kernel_rfl) hNP hU rfl (fun w' hq => pv_fa (tF rfl) rfl) ?_)
        refine fw_last (by kernel_rfl) rfl rfl rfl rfl (by kernel_rfl) ?_
        obtain ⟨hw5, H5⟩ := hU; clear hNP
        obtain ⟨za, zc, rfl, -, -⟩ := Own.slR encF_len hO9; refine act_store H5 (tZ rfl) rfl rfl rfl (by simp) ?_; intro wz HZ hgz hzz; have hOz := hO9.kept hgz (Or.inr (own_pt_ne hO9 H5 (by decide))); have hlt := hOz.lt; exact qw_end0 rfl ⟨rfl, ⟨_, ⟨HZ, putO hsrt (f := ⟨nm, ffr, fpd⟩) hq (hOz.weaken (Nat.le_trans hbs hw0.size))⟩, Or.inr fun b hb => Nat.le_trans hw0.size (hlt b hb).1⟩, grown_in (grow_trans hw0 hw5) hgz⟩
    · refine act_bs (vs := [.agg (encF (⟨nm, ffr, fpd⟩ : Fil)).toArray]) (cs := encF (⟨nm, ffr, fpd⟩ : Fil)) elemF rfl rfl (by omega) (by omega) rfl (by simp [Value.cells, encF]) ?_; intro wb HB hbb; (try replace hE1 := hE1.mono hbb); (try replace hO8 := hO8.mono hbb); refine ⟨⟨grow_trans hU.1 hbb, hU.2.mono hbb⟩, fun hU => ?_⟩
      refine fw_act 1 (by kernel_rfl) rfl rfl rfl ?_
      refine act_bs0 elemF hU.1.size ?_; intro v1 wb hE1 hbb; (try replace HB := HB.mono hbb); refine ⟨⟨grow_trans hU.1 hbb, hU.2.mono hbb⟩, fun hU => ?_⟩
      refine fw_act 8 (by kernel_rfl) rfl rfl rfl ?_
      refine act_app0 elemF encF_len encF_one rfl hE1 rfl ((HS.mono hU.1).head (posF d.fs nm) c0 hpl ⟨Nat.le_trans hpl hle, Nat.le_refl _⟩) (by rw [List.length_take]; show posF d.fs nm = _; omega) hU.1.size (by rw [List.length_take]; omega) (by rw [List.length_take]; simp only [maxLen]; omega) ?_; intro v8 wb hO8 hbb; (try replace HB := HB.mono hbb); refine ⟨⟨grow_trans hU.1 hbb, hU.2.mono hbb⟩, fun hU => ?_⟩
      refine fw_act 11 (by kernel_rfl) rfl rfl rfl ?_
      have hOo := hO8; refine act_app elemF encF_len encF_one rfl rfl hOo (HB.slR (xs := [(⟨nm, ffr, fpd⟩ : Fil)]) encF_len rfl (by omega)) (rfl) hU.1.size (by simp; omega) (by simp [maxLen]; omega) ?_; intro v9 wb hO9 hg9 hb9; refine ⟨⟨hU.1.trans hb9, hU.2.grown hg9 (fun e => own_pt_ne hOo hU.2 (by decide) e)⟩, fun hU => ?_⟩; clear hg9 hb9
      refine fw_act 13 (by kernel_rfl) rfl rfl rfl ?_
      have hOo := hO9; refine act_app elemF encF_len encF_one rfl rfl hOo (HT.mono hU.1) (rfl) hU.1.size (by simp; omega) (by simp [maxLen]; omega) ?_; intro v9 wb hO9 hg9 hb9; refine ⟨⟨hU.1.trans hb9, hU.2.grown hg9 (fun e => own_pt_ne hOo hU.2 (by decide) e)⟩, fun hU => ?_⟩; clear hg9 hb9
      first | (refine fw_act 14 (by kernel_rfl) rfl rfl rfl ?_; refine act_pv (pv_nilp rfl) ?_; refine ⟨hU, fun hU => ?_⟩)
      first | (refine fw_take 15 rfl (by kernel_rfl) rfl rfl (by kernel_rfl) (by kernel_rfl) (by kernel_rfl) hNP hU rfl (fun w' hq => pv_fa (tF rfl) rfl) ?_)
      refine fw_last (by kernel_rfl) rfl rfl rfl rfl (by kernel_rfl) ?_
      obtain ⟨hw5, H5⟩ := hU; clear hNP
      obtain ⟨za, zc, rfl, -, -⟩ := Own.slR encF_len hO9; refine act_store H5 (tZ rfl) rfl rfl rfl (by simp) ?_; intro wz HZ hgz hzz; have hOz := hO9.kept hgz (Or.inr (own_pt_ne hO9 H5 (by decide))); have hlt := hOz.lt; exact qw_end0 rfl ⟨rfl, ⟨_, ⟨HZ, putO hsrt (f := ⟨nm, ffr, fpd⟩) hq (hOz.weaken (Nat.le_trans hbs hw0.size))⟩, Or.inr fun b hb => Nat.le_trans hw0.size (hlt b hb).1⟩, grown_in (grow_trans hw0 hw5) hgz⟩
  | true =>
    have hq : posF d.fs nm + (if (getF d.fs nm).isSome = true then 1 else 0) = posF d.fs nm + 1 := by rw [hg]; rfl
    have hpt := pos_lt hsrt hg
    repeat' (first | (refine lw_pure rfl (pv_move rfl) ?_) | (refine lw_pure rfl (pv_assign rfl) ?_) | (refine lw_call (f := 60) (by kernel_rfl) rfl rfl (rat_is (n := nm) ⟨H.mono hw, hO.mono hw⟩ hsrt hg) ?_; rintro e w1 ⟨rfl, hb⟩; refine ⟨_, rfl, ?_⟩; replace hw := grow_trans hw hb; clear hb) | (refine is_cw ?_; first | (refine cw_seq ?_) | (refine cw_region ?_)) | (refine is_qw ?_; first | (with_reducible refine qw_then ?_)) | (refine lw_nil ?_) | ((refine is_load ?_; first | (refine lw_pure rfl (pv_load (t1 rfl) rfl (by first | exact PT.ld0 (H.mono hw) rfl | exact PT.ld (H.mono hw) rfl | exact PT.ld0 (H3.mono hw) rfl | exact PT.ld (H3.mono hw) rfl)) ?_))) | ((refine is_fa ?_; first | (refine lw_pure rfl (pv_fa (tF rfl) rfl) ?_))) | (refine lw_pure rfl (pv_extract rfl rfl) ?_))
    refine lw_bs0 (enc := encF) elemF rfl ?_; intro wn hO2 hb2 hz2
    replace hO2 := hO2.weaken hw.size
    replace hw := grow_trans hw hb2
    repeat' (first | (refine lw_pure rfl (pv_move rfl) ?_) | ((refine is_load ?_; first | (refine lw_pure rfl (pv_load (t1 rfl) rfl (by first | exact PT.ld0 (H.mono hw) rfl | exact PT.ld (H.mono hw) rfl)) ?_))) | ((refine is_fa ?_; first | (refine lw_pure rfl (pv_fa (tF rfl) rfl) ?_))) | (refine lw_pure rfl (pv_nilp rfl) ?_) | (refine lw_pure rfl (pv_slice_l (tS rfl) rfl rfl (by omega)) ?_))
    refine lw_app elemF encF_len encF_one rfl rfl rfl hO2 ((HS.mono hw).cuti ((posF d.fs nm : Nat) : Int) (by omega)) (by rw [List.length_drop]) hw.size (by simp; omega) (by simp [maxLen]; omega) ?_; intro v2 w2 hO3 hg3 hb3
    replace hw := hw.trans hb3
    clear hg3 hb3 hO2 hb2 hz2 hO3
    repeat' (first | (refine lw_pure rfl (pv_move rfl) ?_) | (refine lw_pure rfl (pv_assign rfl) ?_) | (refine is_cw ?_; first | (refine cw_seq ?_) | (refine cw_region ?_) | (refine cw_true rfl rfl ?_)) | (refine is_qw ?_; first | (with_reducible refine qw_then ?_)) | (refine lw_nil ?_))
    refine lw_bs0 (enc := encF) elemF rfl ?_; intro wn hO2 hb2 hz2
    replace hO2 := hO2.weaken hw.size
    replace hw := grow_trans hw hb2
    repeat' (first | (refine lw_pure rfl (pv_move rfl) ?_) | ((refine is_bin ?_; first | (refine lw_pure rfl (pv_inc rfl rfl (by omega)) ?_))) | ((refine is_load ?_; first | (refine lw_pure rfl (pv_load (t1 rfl) rfl (by first | exact PT.ld0 (H.mono hw) rfl | exact PT.ld (H.mono hw) rfl)) ?_))) | ((refine is_fa ?_; first | (refine lw_pure rfl (pv_fa (tF rfl) rfl) ?_))) | (refine lw_pure rfl (pv_nilp rfl) ?_) | (refine lw_pure rfl (pv_slice_l (tS rfl) rfl rfl (by omega)) ?_))
    refine lw_app elemF encF_len encF_one rfl rfl rfl hO2 ((HS.mono hw).cuti ((posF d.fs nm + 1 : Nat) : Int) (by omega)) (by rw [List.length_drop]) hw.size (by simp; omega) (by simp [maxLen]; omega) ?_; intro v2 w2 hO3 hg3 hb3
    replace hw := hw.trans hb3
    clear hg3 hb3 hO2 hb2 hz2
    repeat' (first | (refine lw_pure rfl (pv_assign rfl) ?_) | (refine is_qw ?_; first | (with_reducible refine qw_then ?_)) | (refine lw_nil ?_))
    obtain ⟨ta, tc, rfl, HT, -⟩ := Own.slR encF_len hO3
    have hw0 := grow_trans hw0 hw
    replace H := H.mono hw; replace H3 := H3.mono hw; replace HS := HS.mono hw; clear hw; have hw := Below.refl w2.heap.size w2
    refine cw_drawnF 16 (fun w' => Below w2.heap.size w2 w' ∧ PT w' N 57 [.slice a0 d.fs.length c0, .int .i64 d.cap, .int .i64 d.left, .bool d.dark]) (by kernel_rfl) (by repeat (first | exact NoPanic.body | with_reducible refine NoPanic.then ?_ | with_reducible refine NoPanic.inBlock ?_)) (fun hNP => ?_)
    have hU := And.intro hw.drew ((H.mono hw).mono (below_drew _))
    first | (refine fw_take 0 rfl (by kernel_rfl) rfl rfl (by kernel_rfl) (by kernel_rfl) (by kernel_rfl) hNP hU rfl (fun w' hq => pv_move rfl) ?_)
    first | (refine fw_take 2 rfl (by kernel_rfl) rfl rfl (by kernel_rfl) (by kernel_rfl) (by kernel_rfl) hNP hU rfl (fun w' hq => pv_move rfl) ?_)
    first | (refine fw_take 3 rfl (by kernel_rfl) rfl rfl (by kernel_rfl) (by kernel_rfl) (by kernel_rfl) hNP hU rfl (fun w' hq => pv_nilp rfl) ?_)
    first | (refine fw_take 4 rfl (by kernel_rfl) rfl rfl (by kernel_rfl) (by kernel_rfl) (by kernel_rfl) hNP hU rfl (fun w' hq => pv_fa (tF rfl) rfl) ?_)
    first | (refine fw_take 5 rfl (by kernel_rfl) rfl rfl (by kernel_rfl) (by kernel_rfl) (by kernel_rfl) hNP hU rfl (fun w' hq => pv_load (t1 rfl) rfl (by first | exact PT.ld0 hq.2 rfl | exact PT.ld hq.2 rfl)) ?_) | (refine fw_take 5 rfl (by kernel_rfl) rfl rfl (by kernel_rfl) (by kernel_rfl) (by kernel_rfl) hNP hU rfl (fun w' hq => pv_loada (tA rfl) rfl (by first | exact PT.lda hq.2) (by rfl)) ?_) | (refine fw_take 5 rfl (by kernel_rfl) rfl rfl (by kernel_rfl) (by kernel_rfl) (by kernel_rfl) hNP hU rfl (fun w' hq => pv_load (t1 rfl) rfl (by first | exact PT.ld0 (H3.mono hq.1) rfl | exact PT.ld (H3.mono hq.1) rfl)) ?_) | (refine fw_take 5 rfl (by kernel_rfl) rfl rfl (by kernel_rfl) (by kernel_rfl) (by kernel_rfl) hNP hU rfl (fun w' hq => pv_loada (tA rfl) rfl (by first | exact PT.lda (H3.mono hq.1)) (by rfl)) ?_)
    first | (refine fw_take 6 rfl (by kernel_rfl) rfl rfl (by kernel_rfl) (by kernel_rfl) (by kernel_rfl) hNP hU rfl (fun w' hq => pv_move rfl) ?_)
    first | (refine fw_take 7 rfl (by kernel_rfl) rfl rfl (by kernel_rfl) (by kernel_rfl) (by kernel_rfl) hNP hU rfl (fun w' hq => pv_slice_l (tS rfl) rfl rfl (by omega)) ?_) | (refine fw_take 7 rfl (by kernel_rfl) rfl rfl (by kernel_rfl) (by kernel_rfl) (by kernel_rfl) hNP hU rfl (fun w' hq => pv_slice_h (tS rfl) rfl rfl (by omega)) ?_) | (refine fw_take 7 rfl (by kernel_rfl) rfl rfl (by kernel_rfl) (by kernel_rfl) (by kernel_rfl) hNP hU rfl (fun w' hq => pv_slice_lh (tS rfl) rfl rfl rfl (by omega)) ?_)
    first | (refine fw_take 9 rfl (by kernel_rfl) rfl rfl (by kernel_rfl) (by kernel_rfl) (by kernel_rfl) hNP hU rfl (fun w' hq => pv_load (t1 rfl) rfl (by first | exact PT.ld0 hq.2 rfl | exact PT.ld hq.2 rfl)) ?_) | (refine fw_take 9 rfl (by kernel_rfl) rfl rfl (by kernel_rfl) (by kernel_rfl) (by kernel_rfl) hNP hU rfl (fun w' hq => pv_loada (tA rfl) rfl (by first | exact PT.lda hq.2) (by rfl)) ?_) | (refine fw_take 9 rfl (by kernel_rfl) rfl rfl (by kernel_rfl) (by kernel_rfl) (by kernel_rfl) hNP hU rfl (fun w' hq => pv_load (t1 rfl) rfl (by first | exact PT.ld0 (H3.mono hq.1) rfl | exact PT.ld (H3.mono hq.1) rfl)) ?_) | (refine fw_take 9 rfl (by kernel_rfl) rfl rfl (by kernel_rfl) (by kernel_rfl) (by kernel_rfl) hNP hU rfl (fun w' hq => pv_loada (tA rfl) rfl (by first | exact PT.lda (H3.mono hq.1)) (by rfl)) ?_)
    first | (refine fw_take 12 rfl (by kernel_rfl) rfl rfl (by kernel_rfl) (by kernel_rfl) (by kernel_rfl) hNP hU rfl (fun w' hq => pv_move rfl) ?_)
    refine fw_act2 1 10 (by kernel_rfl) rfl rfl rfl rfl rfl rfl ?_ ?_
    · refine act_bs0 elemF hU.1.size ?_; intro v1 wb hE1 hbb; (try replace HB := HB.mono hbb); refine ⟨⟨grow_trans hU.1 hbb, hU.2.mono hbb⟩, fun hU => ?_⟩
      refine fw_act2 8 10 (by kernel_rfl) rfl rfl rfl rfl rfl rfl ?_ ?_
      · refine act_app0 elemF encF_len encF_one rfl hE1 rfl ((HS.mono hU.1).head (posF d.fs nm) c0 hpl ⟨Nat.le_trans hpl hle, Nat.le_refl _⟩) (by rw [List.length_take]; show posF d.fs nm = _; omega) hU.1.size (by rw [List.length_take]; omega) (by rw [List.length_take]; simp only [maxLen]; omega) ?_; intro v8 wb hO8 hbb; (try replace HB := HB.mono hbb); refine ⟨⟨grow_trans hU.1 hbb, hU.2.mono hbb⟩, fun hU => ?_⟩
        refine fw_act 10 (by kernel_rfl) rfl rfl rfl ?_
        refine act_bs (vs := [.agg (encF (⟨nm, ffr, fpd⟩ : Fil)).toArray]) (cs := encF (⟨nm, ffr, fpd⟩ : Fil)) elemF rfl rfl (by omega) (by omega) rfl (by simp [Value.cells, encF]) ?_; intro wb HB hbb; (try replace hE1 := hE1.mono hbb); (try replace hO8 := hO8.mono hbb); refine ⟨⟨grow_trans hU.1 hbb, hU.2.mono hbb⟩, fun hU => ?_⟩
        refine fw_act 11 (by kernel_rfl) rfl rfl rfl ?_
        have hOo := hO8; refine act_app elemF encF_len encF_one rfl rfl hOo (HB.slR (xs := [(⟨nm, ffr, fpd⟩ : Fil)]) encF_len rfl (by omega)) (rfl) hU.1.size (by simp; omega) (by simp [maxLen]; omega) ?_; intro v9 wb hO9 hg9 hb9; refine ⟨⟨hU.1.trans hb9, hU.2.grown hg9 (fun e => own_pt_ne hOo hU.2 (by decide) e)⟩, fun hU => ?_⟩; clear hg9 hb9
        refine fw_act 13 (by kernel_rfl) rfl rfl rfl ?_
        have hOo := hO9; refine act_app elemF encF_len encF_one rfl rfl hOo (HT.mono hU.1) (rfl) hU.1.size (by simp; omega) (by simp [maxLen]; omega) ?_; intro v9 wb hO9 hg9 hb9; refine ⟨⟨hU.1.trans hb9, hU.2.grown hg9 (fun e => own_pt_ne hOo hU.2 (by decide) e)⟩, fun hU => ?_⟩; clear hg9 hb9
        first | (refine fw_act 14 (by kernel_rfl) rfl rfl rfl ?_; refine act_pv (pv_nilp rfl) ?_; refine ⟨hU, fun hU => ?_⟩)
        first | (refine fw_take 15 rfl (by kernel_rfl) rfl rfl (by kernel_rfl) (by kernel_rfl) (by kernel_rfl) hNP hU rfl (fun w' hq => pv_fa (tF rfl) rfl) ?_)
        refine fw_last (by kernel_rfl) rfl rfl rfl rfl (by kernel_rfl) ?_
        obtain ⟨hw5, H5⟩ := hU; clear hNP
        obtain ⟨za, zc, rfl, -, -⟩ := Own.slR encF_len hO9; refine act_store H5 (tZ rfl) rfl rfl rfl (by simp) ?_; intro wz HZ hgz hzz; have hOz := hO9.kept hgz (Or.inr (own_pt_ne hO9 H5 (by decide))); have hlt := hOz.lt; exact qw_end0 rfl ⟨rfl, ⟨_, ⟨HZ, putO hsrt (f := ⟨nm, ffr, fpd⟩) hq (hOz.weaken (Nat.le_trans hbs hw0.size))⟩, Or.inr fun b hb => Nat.le_trans hw0.size (hlt b hb).1⟩, grown_in (grow_trans hw0 hw5) hgz⟩
      · refine act_bs (vs := [.agg (encF (⟨nm, ffr, fpd⟩ : Fil)).toArray]) (cs := encF (⟨nm, ffr, fpd⟩ : Fil)) elemF rfl rfl (by omega) (by omega) rfl (by simp [Value.cells, encF]) ?_; intro wb HB hbb; (try replace hE1 := hE1.mono hbb); (try replace hO8 := hO8.mono hbb); refine ⟨⟨grow_trans hU.1 hbb, hU.2.mono hbb⟩, fun hU => ?_⟩
        refine fw_act 8 (by kernel_rfl) rfl rfl rfl ?_
        refine act_app0 elemF encF_len encF_one rfl hE1 rfl ((HS.mono hU.1).head (posF d.fs nm) c0 hpl ⟨Nat.le_trans hpl hle, Nat.le_refl _⟩) (by rw [List.length_take]; show posF d.fs nm = _; omega) hU.1.size (by rw [List.length_take]; omega) (by rw [List.length_take]; simp only [maxLen]; omega) ?_; intro v8 wb hO8 hbb; (try replace HB := HB.mono hbb); refine ⟨⟨grow_trans hU.1 hbb, hU.2.mono hbb⟩, fun hU => ?_⟩
        refine fw_act 11 (by kernel_rfl) rfl rfl rfl ?_
        have hOo := hO8; refine act_app elemF encF_len encF_one rfl rfl hOo (HB.slR (xs := [(⟨nm, ffr, fpd⟩ : Fil)]) encF_len rfl (by omega)) (rfl) hU.1.size (by simp; omega) (by simp [maxLen]; omega) ?_; intro v9 wb hO9 hg9 hb9; refine ⟨⟨hU.1.trans hb9, hU.2.grown hg9 (fun e => own_pt_ne hOo hU.2 (by decide) e)⟩, fun hU => ?_⟩; clear hg9 hb9
        refine fw_act 13 (by kernel_rfl) rfl rfl rfl ?_
        have hOo := hO9; refine act_app elemF encF_len encF_one rfl rfl hOo (HT.mono hU.1) (rfl) hU.1.size (by simp; omega) (by simp [maxLen]; omega) ?_; intro v9 wb hO9 hg9 hb9; refine ⟨⟨hU.1.trans hb9, hU.2.grown hg9 (fun e => own_pt_ne hOo hU.2 (by decide) e)⟩, fun hU => ?_⟩; clear hg9 hb9
        first | (refine fw_act 14 (by kernel_rfl) rfl rfl rfl ?_; refine act_pv (pv_nilp rfl) ?_; refine ⟨hU, fun hU => ?_⟩)
        first | (refine fw_take 15 rfl (by kernel_rfl) rfl rfl (by kernel_rfl) (by kernel_rfl) (by kernel_rfl) hNP hU rfl (fun w' hq => pv_fa (tF rfl) rfl) ?_)
        refine fw_last (by kernel_rfl) rfl rfl rfl rfl (by kernel_rfl) ?_
        obtain ⟨hw5, H5⟩ := hU; clear hNP
        obtain ⟨za, zc, rfl, -, -⟩ := Own.slR encF_len hO9; refine act_store H5 (tZ rfl) rfl rfl rfl (by simp) ?_; intro wz HZ hgz hzz; have hOz := hO9.kept hgz (Or.inr (own_pt_ne hO9 H5 (by decide))); have hlt := hOz.lt; exact qw_end0 rfl ⟨rfl, ⟨_, ⟨HZ, putO hsrt (f := ⟨nm, ffr, fpd⟩) hq (hOz.weaken (Nat.le_trans hbs hw0.size))⟩, Or.inr fun b hb => Nat.le_trans hw0.size (hlt b hb).1⟩, grown_in (grow_trans hw0 hw5) hgz⟩
    · refine act_bs (vs := [.agg (encF (⟨nm, ffr, fpd⟩ : Fil)).toArray]) (cs := encF (⟨nm, ffr, fpd⟩ : Fil)) elemF rfl rfl (by omega) (by omega) rfl (by simp [Value.cells, encF]) ?_; intro wb HB hbb; (try replace hE1 := hE1.mono hbb); (try replace hO8 := hO8.mono hbb); refine ⟨⟨grow_trans hU.1 hbb, hU.2.mono hbb⟩, fun hU => ?_⟩
      refine fw_act 1 (by kernel_rfl) rfl rfl rfl ?_
      refine act_bs0 elemF hU.1.size ?_; intro v1 wb hE1 hbb; (try replace HB := HB.mono hbb); refine ⟨⟨grow_trans hU.1 hbb, hU.2.mono hbb⟩, fun hU => ?_⟩
      refine fw_act 8 (by kernel_rfl) rfl rfl rfl ?_
      refine act_app0 elemF encF_len encF_one rfl hE1 rfl ((HS.mono hU.1).head (posF d.fs nm) c0 hpl ⟨Nat.le_trans hpl hle, Nat.le_refl _⟩) (by rw [List.length_take]; show posF d.fs nm = _; omega) hU.1.size (by rw [List.length_take]; omega) (by rw [List.length_take]; simp only [maxLen]; omega) ?_; intro v8 wb hO8 hbb; (try replace HB := HB.mono hbb); refine ⟨⟨grow_trans hU.1 hbb, hU.2.mono hbb⟩, fun hU => ?_⟩
      refine fw_act 11 (by kernel_rfl) rfl rfl rfl ?_
      have hOo := hO8; refine act_app elemF encF_len encF_one rfl rfl hOo (HB.slR (xs := [(⟨nm, ffr, fpd⟩ : Fil)]) encF_len rfl (by omega)) (rfl) hU.1.size (by simp; omega) (by simp [maxLen]; omega) ?_; intro v9 wb hO9 hg9 hb9; refine ⟨⟨hU.1.trans hb9, hU.2.grown hg9 (fun e => own_pt_ne hOo hU.2 (by decide) e)⟩, fun hU => ?_⟩; clear hg9 hb9
      refine fw_act 13 (by kernel_rfl) rfl rfl rfl ?_
      have hOo := hO9; refine act_app elemF encF_len encF_one rfl rfl hOo (HT.mono hU.1) (rfl) hU.1.size (by simp; omega) (by simp [maxLen]; omega) ?_; intro v9 wb hO9 hg9 hb9; refine ⟨⟨hU.1.trans hb9, hU.2.grown hg9 (fun e => own_pt_ne hOo hU.2 (by decide) e)⟩, fun hU => ?_⟩; clear hg9 hb9
      first | (refine fw_act 14 (by kernel_rfl) rfl rfl rfl ?_; refine act_pv (pv_nilp rfl) ?_; refine ⟨hU, fun hU => ?_⟩)
      first | (refine fw_take 15 rfl (by kernel_rfl) rfl rfl (by kernel_rfl) (by kernel_rfl) (by kernel_rfl) hNP hU rfl (fun w' hq => pv_fa (tF rfl) rfl) ?_)
      refine fw_last (by kernel_rfl) rfl rfl rfl rfl (by kernel_rfl) ?_
      obtain ⟨hw5, H5⟩ := hU; clear hNP
      obtain ⟨za, zc, rfl, -, -⟩ := Own.slR encF_len hO9; refine act_store H5 (tZ rfl) rfl rfl rfl (by simp) ?_; intro wz HZ hgz hzz; have hOz := hO9.kept hgz (Or.inr (own_pt_ne hO9 H5 (by decide))); have hlt := hOz.lt; exact qw_end0 rfl ⟨rfl, ⟨_, ⟨HZ, putO hsrt (f := ⟨nm, ffr, fpd⟩) hq (hOz.weaken (Nat.le_trans hbs hw0.size))⟩, Or.inr fun b hb => Nat.le_trans hw0.size (hlt b hb).1⟩, grown_in (grow_trans hw0 hw5) hgz⟩
set_option maxRecDepth 20000 in
set_option maxHeartbeats 2000000 in
theorem rdrop_c {w : World} {base N : Nat} {v : Value} {d : Dsk} (h : RkP w base N v d) (hsrt : SortF d.fs) (hcnt : d.fs.length ≤ 64) (hbs : base ≤ w.heap.size) {nm : ByteArray} (hg : (getF d.fs nm).isSome = true) : Calls Tryz.prog 64 #[.pointer (some ⟨N, 0, none⟩), .string nm] w fun e w' => e = .returned (.tuple #[]) ∧ (∃ v', RkP w' base N v' { d with fs := dropF d.fs nm } ∧ NewV w v v') ∧ w.grownBy w' (some N) := by
  obtain ⟨a0, c0, rfl, HS, -⟩ := Own.slR encF_len h.own
  have H := h.obj
  have hO := h.own
  clear h
  have hle := HS.le
  have hmx := HS.max
  have hpl := posF_le d.fs nm
  have hpt := pos_lt hsrt hg
  have hdd : dropF d.fs nm = d.fs.take (posF d.fs nm) ++ d.fs.drop (posF d.fs nm + 1) := by rw [dropF_doc hsrt, if_pos hg]
  have hw := Below.refl w.heap.size w
  refine fn_enter 32 Tryz.func64 rfl rfl rfl ?_
  repeat' (first | (refine lw_pure rfl (pv_move rfl) ?_) | (refine lw_pure rfl (pv_assign rfl) ?_) | (refine lw_call (f := 60) (by kernel_rfl) rfl rfl (rat_is (n := nm) ⟨H.mono hw, hO.mono hw⟩ hsrt hg) ?_; rintro e w1 ⟨rfl, hb⟩; refine ⟨_, rfl, ?_⟩; replace hw := grow_trans hw hb; clear hb) | (refine is_cw ?_; first | (refine cw_seq ?_) | (refine cw_region ?_) | (refine cw_true rfl rfl ?_)) | (refine is_qw ?_; first | (with_reducible refine qw_then ?_)) | (refine lw_nil ?_) | (refine lw_pure rfl (pv_extract rfl rfl) ?_))
  have hw0 := hw
  replace H := H.mono hw; replace HS := HS.mono hw; clear hw; have hw := Below.refl w1.heap.size w1
  refine cw_drawnF 19 (fun w' => Below w1.heap.size w1 w' ∧ PT w' N 57 [.slice a0 d.fs.length c0, .int .i64 d.cap, .int .i64 d.left, .bool d.dark]) (by kernel_rfl) (by repeat (first | exact NoPanic.body | with_reducible refine NoPanic.then ?_ | with_reducible refine NoPanic.inBlock ?_)) (fun hNP => ?_)
  have hU := And.intro hw.drew ((H.mono hw).mono (below_drew _))
  first | (refine fw_take 0 rfl (by kernel_rfl) rfl rfl (by kernel_rfl) (by kernel_rfl) (by kernel_rfl) hNP hU rfl (fun w' hq => pv_move rfl) ?_)
  first | (refine fw_take 2 rfl (by kernel_rfl) rfl rfl (by kernel_rfl) (by kernel_rfl) (by kernel_rfl) hNP hU rfl (fun w' hq => pv_move rfl) ?_)
  first | (refine fw_take 3 rfl (by kernel_rfl) rfl rfl (by kernel_rfl) (by kernel_rfl) (by kernel_rfl) hNP hU rfl (fun w' hq => pv_nilp rfl) ?_)
  first | (refine fw_take 4 rfl (by kernel_rfl) rfl rfl (by kernel_rfl) (by kernel_rfl) (by kernel_rfl) hNP hU rfl (fun w' hq => pv_fa (tF rfl) rfl) ?_)
  first | (refine fw_take 5 rfl (by kernel_rfl) rfl rfl (by kernel_rfl) (by kernel_rfl) (by kernel_rfl) hNP hU rfl (fun w' hq => pv_load (t1 rfl) rfl (by first | exact PT.ld0 hq.2 rfl | exact PT.ld hq.2 rfl)) ?_) | (refine fw_take 5 rfl (by kernel_rfl) rfl rfl (by kernel_rfl) (by kernel_rfl) (by kernel_rfl) hNP hU rfl (fun w' hq => pv_loada (tA rfl) rfl (by first | exact PT.lda hq.2) (by rfl)) ?_) | (refine fw_take 5 rfl (by kernel_rfl) rfl rfl (by kernel_rfl) (by kernel_rfl) (by kernel_rfl) hNP hU rfl (fun w' hq => pv_load (t1 rfl) rfl (by first | exact PT.ld0 (H.mono hq.1) rfl | exact PT.ld (H.mono hq.1) rfl)) ?_) | (refine fw_take 5 rfl (by kernel_rfl) rfl rfl (by kernel_rfl) (by kernel_rfl) (by kernel_rfl) hNP hU rfl (fun w' hq => pv_loada (tA rfl) rfl (by first | exact PT.lda (H.mono hq.1)) (by rfl)) ?_)
  first | (refine fw_take 6 rfl (by kernel_rfl) rfl rfl (by kernel_rfl) (by kernel_rfl) (by kernel_rfl) hNP hU rfl (fun w' hq => pv_move rfl) ?_)
  first | (refine fw_take 7 rfl (by kernel_rfl) rfl rfl (by kernel_rfl) (by kernel_rfl) (by kernel_rfl) hNP hU rfl (fun w' hq => pv_slice_l (tS rfl) rfl rfl (by omega)) ?_) | (refine fw_take 7 rfl (by kernel_rfl) rfl rfl (by kernel_rfl) (by kernel_rfl) (by kernel_rfl) hNP hU rfl (fun w' hq => pv_slice_h (tS rfl) rfl rfl (by omega)) ?_) | (refine fw_take 7 rfl (by kernel_rfl) rfl rfl (by kernel_rfl) (by kernel_rfl) (by kernel_rfl) hNP hU rfl (fun w' hq => pv_slice_lh (tS rfl) rfl rfl rfl (by omega)) ?_)
  first | (refine fw_take 9 rfl (by kernel_rfl) rfl rfl (by kernel_rfl) (by kernel_rfl) (by kernel_rfl) hNP hU rfl (fun w' hq => pv_move rfl) ?_)
  first | (refine fw_take 10 rfl (by kernel_rfl) rfl rfl (by kernel_rfl) (by kernel_rfl) (by kernel_rfl) hNP hU rfl (fun w' hq => pv_nilp rfl) ?_)
  first | (refine fw_take 11 rfl (by kernel_rfl) rfl rfl (by kernel_rfl) (by kernel_rfl) (by kernel_rfl) hNP hU rfl (fun w' hq => pv_fa (tF rfl) rfl) ?_)
  first | (refine fw_take 12 rfl (by kernel_rfl) rfl rfl (by kernel_rfl) (by kernel_rfl) (by kernel_rfl) hNP hU rfl (fun w' hq => pv_load (t1 rfl) rfl (by first | exact PT.ld0 hq.2 rfl | exact PT.ld hq.2 rfl)) ?_) | (refine fw_take 12 rfl (by kernel_rfl) rfl rfl (by kernel_rfl) (by kernel_rfl) (by kernel_rfl) hNP hU rfl (fun w' hq => pv_loada (tA rfl) rfl (by first | exact PT.lda hq.2) (by rfl)) ?_) | (refine fw_take 12 rfl (by kernel_rfl) rfl rfl (by kernel_rfl) (by kernel_rfl) (by kernel_rfl) hNP hU rfl (fun w' hq => pv_load (t1 rfl) rfl (by first | exact PT.ld0 (H.mono hq.1) rfl | exact PT.ld (H.mono hq.1) rfl)) ?_) | (refine fw_take 12 rfl (by kernel_rfl) rfl rfl (by kernel_rfl) (by kernel_rfl) (by kernel_rfl) hNP hU rfl (fun w' hq => pv_loada (tA rfl) rfl (by first | exact PT.lda (H.mono hq.1)) (by rfl)) ?_)
  first | (refine fw_take 13 rfl (by kernel_rfl) rfl rfl (by kernel_rfl) (by kernel_rfl) (by kernel_rfl) hNP hU rfl (fun w' hq => pv_move rfl) ?_)
  first | (refine fw_take 14 rfl (by kernel_rfl) rfl rfl (by kernel_rfl) (by kernel_rfl) (by kernel_rfl) hNP hU rfl (fun w' hq => pv_inc rfl rfl (by omega)) ?_) | (refine fw_take 14 rfl (by kernel_rfl) rfl rfl (by kernel_rfl) (by kernel_rfl) (by kernel_rfl) hNP hU rfl (fun w' hq => pv_add rfl rfl (by omega)) ?_)
  first | (refine fw_take 15 rfl (by kernel_rfl) rfl rfl (by kernel_rfl) (by kernel_rfl) (by kernel_rfl) hNP hU rfl (fun w' hq => pv_slice_l (tS rfl) rfl rfl (by omega)) ?_) | (refine fw_take 15 rfl (by kernel_rfl) rfl rfl (by kernel_rfl) (by kernel_rfl) (by kernel_rfl) hNP hU rfl (fun w' hq => pv_slice_h (tS rfl) rfl rfl (by omega)) ?_) | (refine fw_take 15 rfl (by kernel_rfl) rfl rfl (by kernel_rfl) (by kernel_rfl) (by kernel_rfl) hNP hU rfl (fun w' hq => pv_slice_lh (tS rfl) rfl rfl rfl (by omega)) ?_)
  refine fw_act 1 (by kernel_rfl) rfl rfl rfl ?_
  refine act_bs0 elemF hU.1.size ?_; intro v1 wb hE1 hbb; (try replace HB := HB.mono hbb); refine ⟨⟨grow_trans hU.1 hbb, hU.2.mono hbb⟩, fun hU => ?_⟩
  refine fw_act 8 (by kernel_rfl) rfl rfl rfl ?_
  refine act_app0 elemF encF_len encF_one rfl hE1 rfl ((HS.mono hU.1).head (posF d.fs nm) c0 hpl ⟨Nat.le_trans hpl hle, Nat.le_refl _⟩) (by rw [List.length_take]; show posF d.fs nm = _; omega) hU.1.size (by rw [List.length_take]; omega) (by rw [List.length_take]; simp only [maxLen]; omega) ?_; intro v8 wb hO8 hbb; (try replace HB := HB.mono hbb); refine ⟨⟨grow_trans hU.1 hbb, hU.2.mono hbb⟩, fun hU => ?_⟩
  refine fw_act 16 (by kernel_rfl) rfl rfl rfl ?_
  have hOo := hO8; refine act_app elemF encF_len encF_one rfl rfl hOo ((HS.mono hU.1).cuti ((posF d.fs nm + 1 : Nat) : Int) (by omega)) ((by rw [List.length_drop])) hU.1.size (by simp; omega) (by simp [maxLen]; omega) ?_; intro v9 wb hO9 hg9 hb9; refine ⟨⟨hU.1.trans hb9, hU.2.grown hg9 (fun e => own_pt_ne hOo hU.2 (by decide) e)⟩, fun hU => ?_⟩; clear hg9 hb9
  first | (refine fw_act 17 (by kernel_rfl) rfl rfl rfl ?_; refine act_pv (pv_nilp rfl) ?_; refine ⟨hU, fun hU => ?_⟩)
  first | (refine fw_take 18 rfl (by kernel_rfl) rfl rfl (by kernel_rfl) (by kernel_rfl) (by kernel_rfl) hNP hU rfl (fun w' hq => pv_fa (tF rfl) rfl) ?_)
  refine fw_last (by kernel_rfl) rfl rfl rfl rfl (by kernel_rfl) ?_
  obtain ⟨hw5, H5⟩ := hU; clear hNP
  obtain ⟨za, zc, rfl, -, -⟩ := Own.slR encF_len hO9; refine act_store H5 (tZ rfl) rfl rfl rfl (by simp) ?_; intro wz HZ hgz hzz; have hOz := hO9.kept hgz (Or.inr (own_pt_ne hO9 H5 (by decide))); have hlt := hOz.lt; exact qw_end0 rfl ⟨rfl, ⟨_, ⟨HZ, (by show Own _ _ _ _ _ _ (dropF d.fs nm); rw [hdd]; exact (by simpa using (hOz.weaken (Nat.le_trans hbs hw0.size))))⟩, Or.inr fun b hb => Nat.le_trans hw0.size (hlt b hb).1⟩, grown_in (grow_trans hw0 hw5) hgz⟩

theorem doD0 {d : Dsk} (h : d.left = 0) (fs : List Fil) : doD d fs = (45, darkD d) := by unfold doD; rw [if_pos h]
theorem doD1 {d : Dsk} (h : d.left ≠ 0) (fs : List Fil) : doD d fs = (0, { tickD d with fs := fs }) := by unfold doD; rw [if_neg h]
theorem rk_dark {w w4 w5 : World} {base N : Nat} {v : Value} {d' : Dsk} (hb : Below w.heap.size w w4) (hT : RkW w5 base N v d') (hg : w4.grownBy w5 (some N)) : RkQ w w5 base N v d' :=
  ⟨⟨v, hT, NewV.refl _ _⟩, Gn.of_row (grown_in hb hg) List.mem_cons_self⟩
theorem rk_fin {w w4 w5 w6 : World} {base N : Nat} {v v6 : Value} {d' : Dsk} (hb : Below w.heap.size w w4) (hg5 : w4.grownBy w5 (some N)) (hP : RkP w6 base N v6 d') (hok : DskOk d') (hnv : NewV w5 v v6) (hg6 : w5.grownBy w6 (some N)) : RkQ w w6 base N v d' :=
  ⟨⟨v6, ⟨hP.obj, hP.own, hok⟩, (NewV.refl w v).trans hnv (Nat.le_trans hb.size hg5.size)⟩, (Gn.of_row (grown_in hb hg5) List.mem_cons_self).trans (Gn.of_row hg6 List.mem_cons_self)⟩
set_option maxRecDepth 20000 in
theorem rcreate_c {w : World} {base N : Nat} {v : Value} {d : Dsk} (h : RkW w base N v d) (hbs : base ≤ w.heap.size) {n : ByteArray} (hn : n.size ≤ 9223372036854775807) : Calls Tryz.prog 28 #[.pointer (some ⟨N, 0, none⟩), .string n] w fun e w' => e = .returned (.int .i64 (createD d n).1) ∧ RkQ w w' base N v (createD d n).2 := by
  have H := h.obj
  have hle := h.ok.cnt
  have hok := h.ok.create n
  obtain ⟨a0, c0, e0, HS, -⟩ := Own.slR encF_len h.own
  have hw := Below.refl w.heap.size w
  refine fn_enter 34 Tryz.func28 rfl rfl rfl ?_
  cases hk : d.dark with
  | true =>
    rw [show createD d n = (45, d) from by unfold createD; rw [if_pos hk]]
    rw [hk] at H
    repeat' (first | (refine lw_pure rfl (pv_move rfl) ?_) | (refine lw_pure rfl (pv_assign rfl) ?_) | (refine is_cw ?_; first | (refine cw_seq ?_) | (refine cw_region ?_) | (refine cw_true rfl rfl ?_) | (refine cw_ret ?_)) | (refine is_qw ?_; first | (with_reducible refine qw_then ?_) | (with_reducible refine qw_then_ret ?_)) | (refine lw_nil ?_) | ((refine is_load ?_; first | (refine lw_pure rfl (pv_load (t1 rfl) rfl (by first | exact PT.ld0 (H.mono hw) rfl | exact PT.ld (H.mono hw) rfl)) ?_))) | ((refine is_fa ?_; first | (refine lw_pure rfl (pv_fa (tF rfl) rfl) ?_))) | (refine lw_pure rfl (pv_nilp rfl) ?_))
    exact qw_ret1 rfl rfl ⟨rfl, RkQ.same h hw⟩
  | false =>
    rw [hk] at H
    subst e0
    cases hq : nameF n with
    | false =>
      rw [show createD d n = (4, d) from by unfold createD; rw [hk, if_neg (by simp), if_pos hq]]
      repeat' (first | (refine lw_pure rfl (pv_move rfl) ?_) | (refine lw_pure rfl (pv_assign rfl) ?_) | (refine is_cw ?_; first | (refine cw_seq ?_) | (refine cw_region ?_) | (refine cw_false rfl rfl ?_) | (refine cw_skip ?_)) | (refine is_qw ?_; first | (with_reducible refine qw_then ?_)) | (refine lw_nil ?_) | ((refine is_load ?_; first | (refine lw_pure rfl (pv_load (t1 rfl) rfl (by first | exact PT.ld0 (H.mono hw) rfl | exact PT.ld (H.mono hw) rfl)) ?_))) | ((refine is_fa ?_; first | (refine lw_pure rfl (pv_fa (tF rfl) rfl) ?_))) | (refine lw_pure rfl (pv_nilp rfl) ?_))
      refine lw_call (f := 60) (by kernel_rfl) rfl rfl (rat_c ⟨(h.mono hw).obj, h.own.mono hw⟩ h.ok.srt n) ?_; rintro e w1 ⟨rfl, hb⟩; refine ⟨_, rfl, ?_⟩; replace hw := grow_trans hw hb; clear hb
      repeat' (first | (refine lw_pure rfl (pv_move rfl) ?_) | (refine lw_pure rfl (pv_assign rfl) ?_) | (refine is_cw ?_; first | (refine cw_seq ?_) | (refine cw_region ?_)) | (refine is_qw ?_; first | (with_reducible refine qw_then ?_)) | (refine lw_nil ?_) | (refine lw_pure rfl (pv_extract rfl rfl) ?_))
      refine lw_call (f := 26) (by kernel_rfl) rfl rfl (rname_is hn hq _) ?_; rintro e w1 ⟨rfl, hb⟩; refine ⟨_, rfl, ?_⟩; replace hw := grow_trans hw hb; clear hb
      repeat' (first | (refine lw_pure rfl (pv_assign rfl) ?_) | (refine is_cw ?_; first | (refine cw_seq ?_) | (refine cw_region ?_) | (refine cw_true rfl rfl ?_) | (refine cw_ret ?_)) | (refine is_qw ?_; first | (with_reducible refine qw_then ?_) | (with_reducible refine qw_then_ret ?_)) | (refine lw_nil ?_) | ((refine is_un ?_; first | (refine lw_pure rfl (pv_not rfl) ?_))))
      exact qw_ret1 rfl rfl ⟨rfl, RkQ.same h hw⟩
    | true =>
      cases hg : (getF d.fs n).isSome with
      | true =>
        rw [show createD d n = (6, d) from by unfold createD; rw [hk, if_neg (by simp), hq, if_neg (by simp), if_pos hg]]
        repeat' (first | (refine lw_pure rfl (pv_move rfl) ?_) | (refine lw_pure rfl (pv_assign rfl) ?_) | (refine is_cw ?_; first | (refine cw_seq ?_) | (refine cw_region ?_) | (refine cw_false rfl rfl ?_) | (refine cw_skip ?_)) | (refine is_qw ?_; first | (with_reducible refine qw_then ?_)) | (refine lw_nil ?_) | ((refine is_load ?_; first | (refine lw_pure rfl (pv_load (t1 rfl) rfl (by first | exact PT.ld0 (H.mono hw) rfl | exact PT.ld (H.mono hw) rfl)) ?_))) | ((refine is_fa ?_; first | (refine lw_pure rfl (pv_fa (tF rfl) rfl) ?_))) | (refine lw_pure rfl (pv_nilp rfl) ?_))
        refine lw_call (f := 60) (by kernel_rfl) rfl rfl (rat_is ⟨(h.mono hw).obj, h.own.mono hw⟩ h.ok.srt hg) ?_; rintro e w1 ⟨rfl, hb⟩; refine ⟨_, rfl, ?_⟩; replace hw := grow_trans hw hb; clear hb
        repeat' (first | (refine lw_pure rfl (pv_move rfl) ?_) | (refine lw_pure rfl (pv_assign rfl) ?_) | (refine is_cw ?_; first | (refine cw_seq ?_) | (refine cw_region ?_)) | (refine is_qw ?_; first | (with_reducible refine qw_then ?_)) | (refine lw_nil ?_) | (refine lw_pure rfl (pv_extract rfl rfl) ?_))
        refine lw_call (f := 26) (by kernel_rfl) rfl rfl (rname_is hn hq _) ?_; rintro e w1 ⟨rfl, hb⟩; refine ⟨_, rfl, ?_⟩; replace hw := grow_trans hw hb; clear hb
        repeat' (first | (refine lw_pure rfl (pv_move rfl) ?_) | (refine lw_pure rfl (pv_assign rfl) ?_) | (refine is_cw ?_; first | (refine cw_seq ?_) | (refine cw_region ?_) | (refine cw_true rfl rfl ?_) | (refine cw_false rfl rfl ?_) | (refine cw_skip ?_) | (refine cw_ret ?_)) | (refine is_qw ?_; first | (with_reducible refine qw_then ?_) | (with_reducible refine qw_then_ret ?_)) | (refine lw_nil ?_) | ((refine is_un ?_; first | (refine lw_pure rfl (pv_not rfl) ?_))))
        exact qw_ret1 rfl rfl ⟨rfl, RkQ.same h hw⟩
      | false =>
        by_cases h64 : 64 ≤ d.fs.length
        · rw [show createD d n = (44, d) from by unfold createD; rw [hk, if_neg (by simp), hq, if_neg (by simp), hg, if_neg (by simp), if_pos h64]]
          repeat' (first | (refine lw_pure rfl (pv_move rfl) ?_) | (refine lw_pure rfl (pv_assign rfl) ?_) | (refine is_cw ?_; first | (refine cw_seq ?_) | (refine cw_region ?_) | (refine cw_false rfl rfl ?_) | (refine cw_skip ?_)) | (refine is_qw ?_; first | (with_reducible refine qw_then ?_)) | (refine lw_nil ?_) | ((refine is_load ?_; first | (refine lw_pure rfl (pv_load (t1 rfl) rfl (by first | exact PT.ld0 (H.mono hw) rfl | exact PT.ld (H.mono hw) rfl)) ?_))) | ((refine is_fa ?_; first | (refine lw_pure rfl (pv_fa (tF rfl) rfl) ?_))) | (refine lw_pure rfl (pv_nilp rfl) ?_))
          refine lw_call (f := 60) (by kernel_rfl) rfl rfl (rat_is ⟨(h.mono hw).obj, h.own.mono hw⟩ h.ok.srt hg) ?_; rintro e w1 ⟨rfl, hb⟩; refine ⟨_, rfl, ?_⟩; replace hw := grow_trans hw hb; clear hb
          repeat' (first | (refine lw_pure rfl (pv_move rfl) ?_) | (refine lw_pure rfl (pv_assign rfl) ?_) | (refine is_cw ?_; first | (refine cw_seq ?_) | (refine cw_region ?_)) | (refine is_qw ?_; first | (with_reducible refine qw_then ?_)) | (refine lw_nil ?_) | (refine lw_pure rfl (pv_extract rfl rfl) ?_))
          refine lw_call (f := 26) (by kernel_rfl) rfl rfl (rname_is hn hq _) ?_; rintro e w1 ⟨rfl, hb⟩; refine ⟨_, rfl, ?_⟩; replace hw := grow_trans hw hb; clear hb
          repeat' (first | (refine lw_pure rfl (pv_move rfl) ?_) | (refine lw_pure rfl (pv_assign rfl) ?_) | (refine is_cw ?_; first | (refine cw_seq ?_) | (refine cw_region ?_) | (refine cw_false rfl rfl ?_) | (refine cw_true rfl (by first | assumption | exact decide_eq_true (by omega) | exact dec_notT (by omega)) ?_) | (refine cw_skip ?_) | (refine cw_ret ?_)) | (refine is_qw ?_; first | (with_reducible refine qw_then ?_) | (with_reducible refine qw_then_ret ?_)) | (refine lw_nil ?_) | ((refine is_bin ?_; first | (refine lw_pure rfl (pv_geq rfl rfl) ?_))) | ((refine is_load ?_; first | (refine lw_pure rfl (pv_load (t1 rfl) rfl (by first | exact PT.ld0 (H.mono hw) rfl | exact PT.ld (H.mono hw) rfl)) ?_))) | ((refine is_fa ?_; first | (refine lw_pure rfl (pv_fa (tF rfl) rfl) ?_))) | ((refine is_un ?_; first | (refine lw_pure rfl (pv_not rfl) ?_))) | ((refine is_bi ?_; first | (refine lw_pure rfl (pv_lenl (tS rfl) rfl) ?_))) | (refine lw_pure rfl (pv_nilp rfl) ?_))
          exact qw_ret1 rfl rfl ⟨rfl, RkQ.same h hw⟩
        · have e1 : createD d n = doD d (putF d.fs ⟨n, emptyB, emptyB⟩) := by unfold createD; rw [hk, if_neg (by simp), hq, if_neg (by simp), hg, if_neg (by simp), if_neg h64]
          rw [e1] at hok ⊢
          by_cases h0 : d.left = 0
          · rw [doD0 h0]
            repeat' (first | (refine lw_pure rfl (pv_move rfl) ?_) | (refine lw_pure rfl (pv_assign rfl) ?_) | (refine is_cw ?_; first | (refine cw_seq ?_) | (refine cw_region ?_) | (refine cw_false rfl rfl ?_) | (refine cw_skip ?_)) | (refine is_qw ?_; first | (with_reducible refine qw_then ?_)) | (refine lw_nil ?_) | ((refine is_load ?_; first | (refine lw_pure rfl (pv_load (t1 rfl) rfl (by first | exact PT.ld0 (H.mono hw) rfl | exact PT.ld (H.mono hw) rfl)) ?_))) | ((refine is_fa ?_; first | (refine lw_pure rfl (pv_fa (tF rfl) rfl) ?_))) | (refine lw_pure rfl (pv_nilp rfl) ?_))
            refine lw_call (f := 60) (by kernel_rfl) rfl rfl (rat_is ⟨(h.mono hw).obj, h.own.mono hw⟩ h.ok.srt hg) ?_; rintro e w1 ⟨rfl, hb⟩; refine ⟨_, rfl, ?_⟩; replace hw := grow_trans hw hb; clear hb
            repeat' (first | (refine lw_pure rfl (pv_move rfl) ?_) | (refine lw_pure rfl (pv_assign rfl) ?_) | (refine is_cw ?_; first | (refine cw_seq ?_) | (refine cw_region ?_)) | (refine is_qw ?_; first | (with_reducible refine qw_then ?_)) | (refine lw_nil ?_) | (refine lw_pure rfl (pv_extract rfl rfl) ?_))
            refine lw_call (f := 26) (by kernel_rfl) rfl rfl (rname_is hn hq _) ?_; rintro e w1 ⟨rfl, hb⟩; refine ⟨_, rfl, ?_⟩; replace hw := grow_trans hw hb; clear hb
            repeat' (first | (refine lw_pure rfl (pv_move rfl) ?_) | (refine is_cw ?_; first | (refine cw_seq ?_) | (refine cw_region ?_) | (refine cw_false rfl rfl ?_) | (refine cw_false rfl (by first | assumption | exact decide_eq_false (by omega) | exact dec_notF (by omega)) ?_) | (refine cw_skip ?_)) | (refine is_qw ?_; first | (with_reducible refine qw_then ?_)) | (refine lw_nil ?_) | ((refine is_bin ?_; first | (refine lw_pure rfl (pv_geq rfl rfl) ?_))) | ((refine is_load ?_; first | (refine lw_pure rfl (pv_load (t1 rfl) rfl (by first | exact PT.ld0 (H.mono hw) rfl | exact PT.ld (H.mono hw) rfl)) ?_))) | ((refine is_fa ?_; first | (refine lw_pure rfl (pv_fa (tF rfl) rfl) ?_))) | ((refine is_un ?_; first | (refine lw_pure rfl (pv_not rfl) ?_))) | ((refine is_bi ?_; first | (refine lw_pure rfl (pv_lenl (tS rfl) rfl) ?_))) | (refine lw_pure rfl (pv_nilp rfl) ?_))
            refine lw_call (f := 61) (by kernel_rfl) rfl rfl (rgoes0_c (h.mono hw) h0) ?_; rintro e5 w5 ⟨rfl, hT, hg5⟩; refine ⟨_, rfl, ?_⟩; have hw4 := hw; clear hw; have hw := Below.refl w5.heap.size w5
            repeat' (first | (refine lw_pure rfl (pv_assign rfl) ?_) | (refine is_cw ?_; first | (refine cw_seq ?_) | (refine cw_region ?_) | (refine cw_true rfl rfl ?_) | (refine cw_ret ?_)) | (refine is_qw ?_; first | (with_reducible refine qw_then ?_) | (with_reducible refine qw_then_ret ?_)) | (refine lw_nil ?_) | ((refine is_un ?_; first | (refine lw_pure rfl (pv_not rfl) ?_))))
            exact qw_ret1 rfl rfl ⟨rfl, rk_dark hw4 hT hg5⟩
          · rw [doD1 h0] at hok ⊢
            repeat' (first | (refine lw_pure rfl (pv_move rfl) ?_) | (refine lw_pure rfl (pv_assign rfl) ?_) | (refine is_cw ?_; first | (refine cw_seq ?_) | (refine cw_region ?_) | (refine cw_false rfl rfl ?_) | (refine cw_skip ?_)) | (refine is_qw ?_; first | (with_reducible refine qw_then ?_)) | (refine lw_nil ?_) | ((refine is_load ?_; first | (refine lw_pure rfl (pv_load (t1 rfl) rfl (by first | exact PT.ld0 (H.mono hw) rfl | exact PT.ld (H.mono hw) rfl)) ?_))) | ((refine is_fa ?_; first | (refine lw_pure rfl (pv_fa (tF rfl) rfl) ?_))) | (refine lw_pure rfl (pv_nilp rfl) ?_))
            refine lw_call (f := 60) (by kernel_rfl) rfl rfl (rat_is ⟨(h.mono hw).obj, h.own.mono hw⟩ h.ok.srt hg) ?_; rintro e w1 ⟨rfl, hb⟩; refine ⟨_, rfl, ?_⟩; replace hw := grow_trans hw hb; clear hb
            repeat' (first | (refine lw_pure rfl (pv_move rfl) ?_) | (refine lw_pure rfl (pv_assign rfl) ?_) | (refine is_cw ?_; first | (refine cw_seq ?_) | (refine cw_region ?_)) | (refine is_qw ?_; first | (with_reducible refine qw_then ?_)) | (refine lw_nil ?_) | (refine lw_pure rfl (pv_extract rfl rfl) ?_))
            refine lw_call (f := 26) (by kernel_rfl) rfl rfl (rname_is hn hq _) ?_; rintro e w1 ⟨rfl, hb⟩; refine ⟨_, rfl, ?_⟩; replace hw := grow_trans hw hb; clear hb
            repeat' (first | (refine lw_pure rfl (pv_move rfl) ?_) | (refine is_cw ?_; first | (refine cw_seq ?_) | (refine cw_region ?_) | (refine cw_false rfl rfl ?_) | (refine cw_false rfl (by first | assumption | exact decide_eq_false (by omega) | exact dec_notF (by omega)) ?_) | (refine cw_skip ?_)) | (refine is_qw ?_; first | (with_reducible refine qw_then ?_)) | (refine lw_nil ?_) | ((refine is_bin ?_; first | (refine lw_pure rfl (pv_geq rfl rfl) ?_))) | ((refine is_load ?_; first | (refine lw_pure rfl (pv_load (t1 rfl) rfl (by first | exact PT.ld0 (H.mono hw) rfl | exact PT.ld (H.mono hw) rfl)) ?_))) | ((refine is_fa ?_; first | (refine lw_pure rfl (pv_fa (tF rfl) rfl) ?_))) | ((refine is_un ?_; first | (refine lw_pure rfl (pv_not rfl) ?_))) | ((refine is_bi ?_; first | (refine lw_pure rfl (pv_lenl (tS rfl) rfl) ?_))) | (refine lw_pure rfl (pv_nilp rfl) ?_))
            refine lw_call (f := 61) (by kernel_rfl) rfl rfl (rgoes1_c (h.mono hw) h0) ?_; rintro e5 w5 ⟨rfl, hT, hg5⟩; refine ⟨_, rfl, ?_⟩; have hw4 := hw; clear hw; have hw := Below.refl w5.heap.size w5; have hbs5 : base ≤ w5.heap.size := Nat.le_trans (Nat.le_trans hbs hw4.size) hg5.size
            repeat' (first | (refine lw_pure rfl (pv_move rfl) ?_) | (refine is_cw ?_; first | (refine cw_seq ?_) | (refine cw_region ?_) | (refine cw_false rfl rfl ?_) | (refine cw_skip ?_)) | (refine is_qw ?_; first | (with_reducible refine qw_then ?_)) | (refine lw_nil ?_) | ((refine is_un ?_; first | (refine lw_pure rfl (pv_not rfl) ?_))) | ((refine is_bd ?_; first | (refine lw_pure rfl (tyB_54 rfl rfl rfl) ?_))))
            refine lw_call (f := 62) (by kernel_rfl) rfl rfl (rput_c ⟨hT.obj, hT.own⟩ hT.ok.srt hT.ok.cnt hbs5 ⟨n, emptyB, emptyB⟩) ?_; rintro e6 w6 ⟨rfl, ⟨v6, hP, hnv⟩, hg6⟩; refine ⟨_, rfl, ?_⟩; clear hw; have hw := Below.refl w6.heap.size w6
            repeat' (first | (refine lw_pure rfl (pv_assign rfl) ?_) | (refine is_cw ?_; first | (refine cw_seq ?_) | (refine cw_region ?_) | (refine cw_ret ?_)) | (refine is_qw ?_; first | (with_reducible refine qw_then ?_)) | (refine lw_nil ?_))
            exact qw_ret1 rfl rfl ⟨rfl, rk_fin hw4 hg5 hP hok hnv hg6⟩
set_option maxRecDepth 20000 in
theorem rsync_c {w : World} {base N : Nat} {v : Value} {d : Dsk} (h : RkW w base N v d) (hbs : base ≤ w.heap.size) {n : ByteArray} : Calls Tryz.prog 30 #[.pointer (some ⟨N, 0, none⟩), .string n] w fun e w' => e = .returned (.int .i64 (syncD d n).1) ∧ RkQ w w' base N v (syncD d n).2 := by
  have hok := h.ok.sync n
  have hw := Below.refl w.heap.size w
  refine fn_enter 40 Tryz.func30 rfl rfl rfl ?_
  cases hk : d.dark with
  | true =>
    rw [show syncD d n = (45, d) from by unfold syncD; rw [if_pos hk]]
    repeat' (first | (refine lw_pure rfl (pv_move rfl) ?_) | (refine lw_pure rfl (pv_assign rfl) ?_) | (refine is_cw ?_; first | (refine cw_seq ?_) | (refine cw_region ?_)) | (refine is_qw ?_; first | (with_reducible refine qw_then ?_)) | (refine lw_nil ?_))
    refine lw_call (f := 63) (by kernel_rfl) rfl rfl (rfind45_c (h.mono hw) hk n) ?_; rintro e w1 ⟨rfl, hb⟩; refine ⟨_, rfl, ?_⟩; replace hw := grow_trans hw hb; clear hb
    repeat' (first | (refine lw_pure rfl (pv_move rfl) ?_) | (refine lw_pure rfl (pv_assign rfl) ?_) | (refine is_cw ?_; first | (refine cw_seq ?_) | (refine cw_region ?_) | (refine cw_true rfl rfl ?_) | (refine cw_ret ?_)) | (refine is_qw ?_; first | (with_reducible refine qw_then ?_) | (with_reducible refine qw_then_ret ?_)) | (refine lw_nil ?_) | ((refine is_bin ?_; first | (refine lw_pure rfl (pv_neq rfl rfl) ?_))) | (refine lw_pure rfl (pv_extract rfl rfl) ?_))
    exact qw_ret1 rfl rfl ⟨rfl, RkQ.same h hw⟩
  | false =>
    cases hg : getF d.fs n with
    | none =>
      rw [show syncD d n = (5, d) from by unfold syncD; rw [hk, if_neg (by simp), hg]]
      repeat' (first | (refine lw_pure rfl (pv_move rfl) ?_) | (refine lw_pure rfl (pv_assign rfl) ?_) | (refine is_cw ?_; first | (refine cw_seq ?_) | (refine cw_region ?_)) | (refine is_qw ?_; first | (with_reducible refine qw_then ?_)) | (refine lw_nil ?_))
      refine lw_call (f := 63) (by kernel_rfl) rfl rfl (rfind5_c (h.mono hw) hk hg) ?_; rintro e w1 ⟨rfl, hb⟩; refine ⟨_, rfl, ?_⟩; replace hw := grow_trans hw hb; clear hb
      repeat' (first | (refine lw_pure rfl (pv_move rfl) ?_) | (refine lw_pure rfl (pv_assign rfl) ?_) | (refine is_cw ?_; first | (refine cw_seq ?_) | (refine cw_region ?_) | (refine cw_true rfl rfl ?_) | (refine cw_ret ?_)) | (refine is_qw ?_; first | (with_reducible refine qw_then ?_) | (with_reducible refine qw_then_ret ?_)) | (refine lw_nil ?_) | ((refine is_bin ?_; first | (refine lw_pure rfl (pv_neq rfl rfl) ?_))) | (refine lw_pure rfl (pv_extract rfl rfl) ?_))
      exact qw_ret1 rfl rfl ⟨rfl, RkQ.same h hw⟩
    | some f =>
      have hsz := getF_sz h.ok hg
      have hfn := (getF_some hg).2
      have hc : f.firm.size + f.pend.size ≤ 9223372036854775807 := by omega
      have hxk := at_pos h.ok.srt hg
      have hpl : posF d.fs n < d.fs.length := (List.getElem?_eq_some_iff.1 hxk).1
      have e1 : syncD d n = doD d (putF d.fs ⟨n, f.firm ++ f.pend, emptyB⟩) := by unfold syncD; rw [hk, if_neg (by simp), hg]
      rw [e1] at hok ⊢
      by_cases h0 : d.left = 0
      · rw [doD0 h0]
        repeat' (first | (refine lw_pure rfl (pv_move rfl) ?_) | (refine lw_pure rfl (pv_assign rfl) ?_) | (refine is_cw ?_; first | (refine cw_seq ?_) | (refine cw_region ?_)) | (refine is_qw ?_; first | (with_reducible refine qw_then ?_)) | (refine lw_nil ?_))
        refine lw_call (f := 63) (by kernel_rfl) rfl rfl (rfind0_c (h.mono hw) hk hg) ?_; rintro e w1 ⟨rfl, hb⟩; refine ⟨_, rfl, ?_⟩; replace hw := grow_trans hw hb; clear hb
        repeat' (first | (refine lw_pure rfl (pv_move rfl) ?_) | (refine lw_pure rfl (pv_assign rfl) ?_) | (refine is_cw ?_; first | (refine cw_seq ?_) | (refine cw_region ?_) | (refine cw_false rfl rfl ?_) | (refine cw_skip ?_)) | (refine is_qw ?_; first | (with_reducible refine qw_then ?_)) | (refine lw_nil ?_) | ((refine is_bin ?_; first | (refine lw_pure rfl (pv_neq rfl rfl) ?_))) | (refine lw_pure rfl (pv_extract rfl rfl) ?_))
        refine lw_call (f := 61) (by kernel_rfl) rfl rfl (rgoes0_c (h.mono hw) h0) ?_; rintro e5 w5 ⟨rfl, hT, hg5⟩; refine ⟨_, rfl, ?_⟩; have hw4 := hw; clear hw; have hw := Below.refl w5.heap.size w5
        repeat' (first | (refine lw_pure rfl (pv_assign rfl) ?_) | (refine is_cw ?_; first | (refine cw_seq ?_) | (refine cw_region ?_) | (refine cw_true rfl rfl ?_) | (refine cw_ret ?_)) | (refine is_qw ?_; first | (with_reducible refine qw_then ?_) | (with_reducible refine qw_then_ret ?_)) | (refine lw_nil ?_) | ((refine is_un ?_; first | (refine lw_pure rfl (pv_not rfl) ?_))))
        exact qw_ret1 rfl rfl ⟨rfl, rk_dark hw4 hT hg5⟩
      · rw [doD1 h0] at hok ⊢
        repeat' (first | (refine lw_pure rfl (pv_move rfl) ?_) | (refine lw_pure rfl (pv_assign rfl) ?_) | (refine is_cw ?_; first | (refine cw_seq ?_) | (refine cw_region ?_)) | (refine is_qw ?_; first | (with_reducible refine qw_then ?_)) | (refine lw_nil ?_))
        refine lw_call (f := 63) (by kernel_rfl) rfl rfl (rfind0_c (h.mono hw) hk hg) ?_; rintro e w1 ⟨rfl, hb⟩; refine ⟨_, rfl, ?_⟩; replace hw := grow_trans hw hb; clear hb
        repeat' (first | (refine lw_pure rfl (pv_move rfl) ?_) | (refine lw_pure rfl (pv_assign rfl) ?_) | (refine is_cw ?_; first | (refine cw_seq ?_) | (refine cw_region ?_) | (refine cw_false rfl rfl ?_) | (refine cw_skip ?_)) | (refine is_qw ?_; first | (with_reducible refine qw_then ?_)) | (refine lw_nil ?_) | ((refine is_bin ?_; first | (refine lw_pure rfl (pv_neq rfl rfl) ?_))) | (refine lw_pure rfl (pv_extract rfl rfl) ?_))
        refine lw_call (f := 61) (by kernel_rfl) rfl rfl (rgoes1_c (h.mono hw) h0) ?_; rintro e5 w5 ⟨rfl, hT, hg5⟩; refine ⟨_, rfl, ?_⟩; have hw4 := hw; clear hw; have hw := Below.refl w5.heap.size w5; have hbs5 : base ≤ w5.heap.size := Nat.le_trans (Nat.le_trans hbs hw4.size) hg5.size
        have hTo : Own encF 3 54 base w5 v d.fs := hT.own
        obtain ⟨a5, c5, e5, HS5, -⟩ := Own.slR encF_len hTo
        subst e5
        obtain ⟨ab, ao, rfl, -, -⟩ := HS5.at (by intro h; rw [h] at hpl; simp at hpl)
        have H5 := hT.obj
        have hmx5 := HS5.max
        have hle5 := HS5.le
        repeat' (first | (refine is_cw ?_; first | (refine cw_seq ?_) | (refine cw_false rfl rfl ?_) | (refine cw_skip ?_)) | (refine is_qw ?_; first | (with_reducible refine qw_then ?_)) | (refine lw_nil ?_) | ((refine is_un ?_; first | (refine lw_pure rfl (pv_not rfl) ?_))))
        refine cw_drawnF 20 (fun w' => Below w5.heap.size w5 w' ∧ True) (by kernel_rfl) (by repeat (first | exact NoPanic.body | with_reducible refine NoPanic.then ?_ | with_reducible refine NoPanic.inBlock ?_)) (fun hNP => ?_)
        have hU := And.intro hw.drew trivial
        first | (refine fw_takeT 0 9 rfl (by kernel_rfl) (by kernel_rfl) rfl rfl (by kernel_rfl) (by kernel_rfl) (by kernel_rfl) hNP hU rfl (fun w' hq => pv_move rfl) ?_)
        first | (refine fw_takeT 1 9 rfl (by kernel_rfl) (by kernel_rfl) rfl rfl (by kernel_rfl) (by kernel_rfl) (by kernel_rfl) hNP hU rfl (fun w' hq => pv_move rfl) ?_)
        first | (refine fw_takeT 2 9 rfl (by kernel_rfl) (by kernel_rfl) rfl rfl (by kernel_rfl) (by kernel_rfl) (by kernel_rfl) hNP hU rfl (fun w' hq => pv_move rfl) ?_)
        first | (refine fw_takeT 3 9 rfl (by kernel_rfl) (by kernel_rfl) rfl rfl (by kernel_rfl) (by kernel_rfl) (by kernel_rfl) hNP hU rfl (fun w' hq => pv_nilp rfl) ?_)
        first | (refine fw_takeT 4 9 rfl (by kernel_rfl) (by kernel_rfl) rfl rfl (by kernel_rfl) (by kernel_rfl) (by kernel_rfl) hNP hU rfl (fun w' hq => pv_fa (tF rfl) rfl) ?_)
        first | (refine fw_takeT 5 9 rfl (by kernel_rfl) (by kernel_rfl) rfl rfl (by kernel_rfl) (by kernel_rfl) (by kernel_rfl) hNP hU rfl (fun w' hq => pv_load (t1 rfl) rfl (by first | exact PT.ld0 (H5.mono hq.1) rfl | exact PT.ld (H5.mono hq.1) rfl | exact SlR.ld (HS5.mono hq.1) hxk rfl | exact SlR.ld1 (HS5.mono hq.1) hxk rfl)) ?_)
        first | (refine fw_takeT 6 9 rfl (by kernel_rfl) (by kernel_rfl) rfl rfl (by kernel_rfl) (by kernel_rfl) (by kernel_rfl) hNP hU rfl (fun w' hq => pv_move rfl) ?_)
        first | (refine fw_takeT 7 9 rfl (by kernel_rfl) (by kernel_rfl) rfl rfl (by kernel_rfl) (by kernel_rfl) (by kernel_rfl) hNP hU rfl (fun w' hq => pv_ian (tS rfl) rfl rfl (by omega)) ?_)
        first | (refine fw_takeT 8 9 rfl (by kernel_rfl) (by kernel_rfl) rfl rfl (by kernel_rfl) (by kernel_rfl) (by kernel_rfl) hNP hU rfl (fun w' hq => pv_fa (tF rfl) rfl) ?_)
        first | (refine fw_takeT 9 9 rfl (by kernel_rfl) (by kernel_rfl) rfl rfl (by kernel_rfl) (by kernel_rfl) (by kernel_rfl) hNP hU rfl (fun w' hq => pv_load (t1 rfl) rfl (by first | exact PT.ld0 (H5.mono hq.1) rfl | exact PT.ld (H5.mono hq.1) rfl | exact SlR.ld (HS5.mono hq.1) hxk rfl | exact SlR.ld1 (HS5.mono hq.1) hxk rfl)) ?_)
        first | (refine fw_takeT 10 9 rfl (by kernel_rfl) (by kernel_rfl) rfl rfl (by kernel_rfl) (by kernel_rfl) (by kernel_rfl) hNP hU rfl (fun w' hq => pv_move rfl) ?_)
        first | (refine fw_takeT 11 9 rfl (by kernel_rfl) (by kernel_rfl) rfl rfl (by kernel_rfl) (by kernel_rfl) (by kernel_rfl) hNP hU rfl (fun w' hq => pv_nilp rfl) ?_)
        first | (refine fw_takeT 12 9 rfl (by kernel_rfl) (by kernel_rfl) rfl rfl (by kernel_rfl) (by kernel_rfl) (by kernel_rfl) hNP hU rfl (fun w' hq => pv_fa (tF rfl) rfl) ?_)
        first | (refine fw_takeT 13 9 rfl (by kernel_rfl) (by kernel_rfl) rfl rfl (by kernel_rfl) (by kernel_rfl) (by kernel_rfl) hNP hU rfl (fun w' hq => pv_load (t1 rfl) rfl (by first | exact PT.ld0 (H5.mono hq.1) rfl | exact PT.ld (H5.mono hq.1) rfl | exact SlR.ld (HS5.mono hq.1) hxk rfl | exact SlR.ld1 (HS5.mono hq.1) hxk rfl)) ?_)
        first | (refine fw_takeT 14 9 rfl (by kernel_rfl) (by kernel_rfl) rfl rfl (by kernel_rfl) (by kernel_rfl) (by kernel_rfl) hNP hU rfl (fun w' hq => pv_move rfl) ?_)
        first | (refine fw_takeT 15 9 rfl (by kernel_rfl) (by kernel_rfl) rfl rfl (by kernel_rfl) (by kernel_rfl) (by kernel_rfl) hNP hU rfl (fun w' hq => pv_ian (tS rfl) rfl rfl (by omega)) ?_)
        first | (refine fw_takeT 16 9 rfl (by kernel_rfl) (by kernel_rfl) rfl rfl (by kernel_rfl) (by kernel_rfl) (by kernel_rfl) hNP hU rfl (fun w' hq => pv_fa (tF rfl) rfl) ?_)
        first | (refine fw_takeT 17 9 rfl (by kernel_rfl) (by kernel_rfl) rfl rfl (by kernel_rfl) (by kernel_rfl) (by kernel_rfl) hNP hU rfl (fun w' hq => pv_load (t1 rfl) rfl (by first | exact PT.ld0 (H5.mono hq.1) rfl | exact PT.ld (H5.mono hq.1) rfl | exact SlR.ld (HS5.mono hq.1) hxk rfl | exact SlR.ld1 (HS5.mono hq.1) hxk rfl)) ?_)
        first | (refine fw_takeT 18 9 rfl (by kernel_rfl) (by kernel_rfl) rfl rfl (by kernel_rfl) (by kernel_rfl) (by kernel_rfl) hNP hU rfl (fun w' hq => pv_cat rfl rfl hc) ?_)
        first | (refine fw_takeT 19 9 rfl (by kernel_rfl) (by kernel_rfl) rfl rfl (by kernel_rfl) (by kernel_rfl) (by kernel_rfl) hNP hU rfl (fun w' hq => tyB_54 rfl rfl rfl) ?_)
        obtain ⟨hw, -⟩ := hU; clear hNP
        refine fw_one 20 (by kernel_rfl) rfl rfl rfl (by kernel_rfl) ?_
        refine act_call (f := 62) (by kernel_rfl) rfl (rput_c ⟨(hT.mono hw).obj, (hT.mono hw).own⟩ hT.ok.srt hT.ok.cnt (Nat.le_trans hbs5 hw.size) ⟨n, f.firm ++ f.pend, emptyB⟩) ?_; rintro e6 w6 ⟨rfl, ⟨v6, hP, hnv⟩, hg6⟩; refine ⟨_, rfl, ?_⟩; replace hnv := (NewV.refl w5 _).trans hnv hw.size; replace hg6 := grown_in hw hg6; clear hw; have hw := Below.refl w6.heap.size w6
        refine fw_done (by kernel_rfl) ?_
        repeat' (first | (refine lw_pure rfl (pv_assign rfl) ?_) | (refine is_cw ?_; first | (refine cw_seq ?_) | (refine cw_region ?_) | (refine cw_ret ?_)) | (refine is_qw ?_; first | (with_reducible refine qw_then ?_)) | (refine lw_nil ?_))
        exact qw_ret1 rfl rfl ⟨rfl, rk_fin hw4 hg5 hP hok hnv hg6⟩
set_option maxRecDepth 20000 in
theorem rdelete_c {w : World} {base N : Nat} {v : Value} {d : Dsk} (h : RkW w base N v d) (hbs : base ≤ w.heap.size) {n : ByteArray} : Calls Tryz.prog 34 #[.pointer (some ⟨N, 0, none⟩), .string n] w fun e w' => e = .returned (.int .i64 (deleteD d n).1) ∧ RkQ w w' base N v (deleteD d n).2 := by
  have hok := h.ok.delete n
  have hw := Below.refl w.heap.size w
  refine fn_enter 22 Tryz.func34 rfl rfl rfl ?_
  cases hk : d.dark with
  | true =>
    rw [show deleteD d n = (45, d) from by unfold deleteD; rw [if_pos hk]]
    repeat' (first | (refine lw_pure rfl (pv_move rfl) ?_) | (refine lw_pure rfl (pv_assign rfl) ?_) | (refine is_cw ?_; first | (refine cw_seq ?_) | (refine cw_region ?_)) | (refine is_qw ?_; first | (with_reducible refine qw_then ?_)) | (refine lw_nil ?_))
    refine lw_call (f := 63) (by kernel_rfl) rfl rfl (rfind45_c (h.mono hw) hk n) ?_; rintro e w1 ⟨rfl, hb⟩; refine ⟨_, rfl, ?_⟩; replace hw := grow_trans hw hb; clear hb
    repeat' (first | (refine lw_pure rfl (pv_move rfl) ?_) | (refine lw_pure rfl (pv_assign rfl) ?_) | (refine is_cw ?_; first | (refine cw_seq ?_) | (refine cw_region ?_) | (refine cw_true rfl rfl ?_) | (refine cw_ret ?_)) | (refine is_qw ?_; first | (with_reducible refine qw_then ?_) | (with_reducible refine qw_then_ret ?_)) | (refine lw_nil ?_) | ((refine is_bin ?_; first | (refine lw_pure rfl (pv_neq rfl rfl) ?_))) | (refine lw_pure rfl (pv_extract rfl rfl) ?_))
    exact qw_ret1 rfl rfl ⟨rfl, RkQ.same h hw⟩
  | false =>
    cases hg : getF d.fs n with
    | none =>
      rw [show deleteD d n = (5, d) from by unfold deleteD; rw [hk, if_neg (by simp), hg]]
      repeat' (first | (refine lw_pure rfl (pv_move rfl) ?_) | (refine lw_pure rfl (pv_assign rfl) ?_) | (refine is_cw ?_; first | (refine cw_seq ?_) | (refine cw_region ?_)) | (refine is_qw ?_; first | (with_reducible refine qw_then ?_)) | (refine lw_nil ?_))
      refine lw_call (f := 63) (by kernel_rfl) rfl rfl (rfind5_c (h.mono hw) hk hg) ?_; rintro e w1 ⟨rfl, hb⟩; refine ⟨_, rfl, ?_⟩; replace hw := grow_trans hw hb; clear hb
      repeat' (first | (refine lw_pure rfl (pv_move rfl) ?_) | (refine lw_pure rfl (pv_assign rfl) ?_) | (refine is_cw ?_; first | (refine cw_seq ?_) | (refine cw_region ?_) | (refine cw_true rfl rfl ?_) | (refine cw_ret ?_)) | (refine is_qw ?_; first | (with_reducible refine qw_then ?_) | (with_reducible refine qw_then_ret ?_)) | (refine lw_nil ?_) | ((refine is_bin ?_; first | (refine lw_pure rfl (pv_neq rfl rfl) ?_))) | (refine lw_pure rfl (pv_extract rfl rfl) ?_))
      exact qw_ret1 rfl rfl ⟨rfl, RkQ.same h hw⟩
    | some f =>
      have hgs : (getF d.fs n).isSome = true := by rw [hg]; rfl
      have e1 : deleteD d n = doD d (dropF d.fs n) := by unfold deleteD; rw [hk, if_neg (by simp), hg]
      rw [e1] at hok ⊢
      by_cases h0 : d.left = 0
      · rw [doD0 h0]
        repeat' (first | (refine lw_pure rfl (pv_move rfl) ?_) | (refine lw_pure rfl (pv_assign rfl) ?_) | (refine is_cw ?_; first | (refine cw_seq ?_) | (refine cw_region ?_)) | (refine is_qw ?_; first | (with_reducible refine qw_then ?_)) | (refine lw_nil ?_))
        refine lw_call (f := 63) (by kernel_rfl) rfl rfl (rfind0_c (h.mono hw) hk hg) ?_; rintro e w1 ⟨rfl, hb⟩; refine ⟨_, rfl, ?_⟩; replace hw := grow_trans hw hb; clear hb
        repeat' (first | (refine lw_pure rfl (pv_move rfl) ?_) | (refine lw_pure rfl (pv_assign rfl) ?_) | (refine is_cw ?_; first | (refine cw_seq ?_) | (refine cw_region ?_) | (refine cw_false rfl rfl ?_) | (refine cw_skip ?_)) | (refine is_qw ?_; first | (with_reducible refine qw_then ?_)) | (refine lw_nil ?_) | ((refine is_bin ?_; first | (refine lw_pure rfl (pv_neq rfl rfl) ?_))) | (refine lw_pure rfl (pv_extract rfl rfl) ?_))
        refine lw_call (f := 61) (by kernel_rfl) rfl rfl (rgoes0_c (h.mono hw) h0) ?_; rintro e5 w5 ⟨rfl, hT, hg5⟩; refine ⟨_, rfl, ?_⟩; have hw4 := hw; clear hw; have hw := Below.refl w5.heap.size w5
        repeat' (first | (refine lw_pure rfl (pv_assign rfl) ?_) | (refine is_cw ?_; first | (refine cw_seq ?_) | (refine cw_region ?_) | (refine cw_true rfl rfl ?_) | (refine cw_ret ?_)) | (refine is_qw ?_; first | (with_reducible refine qw_then ?_) | (with_reducible refine qw_then_ret ?_)) | (refine lw_nil ?_) | ((refine is_un ?_; first | (refine lw_pure rfl (pv_not rfl) ?_))))
        exact qw_ret1 rfl rfl ⟨rfl, rk_dark hw4 hT hg5⟩
      · rw [doD1 h0] at hok ⊢
        repeat' (first | (refine lw_pure rfl (pv_move rfl) ?_) | (refine lw_pure rfl (pv_assign rfl) ?_) | (refine is_cw ?_; first | (refine cw_seq ?_) | (refine cw_region ?_)) | (refine is_qw ?_; first | (with_reducible refine qw_then ?_)) | (refine lw_nil ?_))
        refine lw_call (f := 63) (by kernel_rfl) rfl rfl (rfind0_c (h.mono hw) hk hg) ?_; rintro e w1 ⟨rfl, hb⟩; refine ⟨_, rfl, ?_⟩; replace hw := grow_trans hw hb; clear hb
        repeat' (first | (refine lw_pure rfl (pv_move rfl) ?_) | (refine lw_pure rfl (pv_assign rfl) ?_) | (refine is_cw ?_; first | (refine cw_seq ?_) | (refine cw_region ?_) | (refine cw_false rfl rfl ?_) | (refine cw_skip ?_)) | (refine is_qw ?_; first | (with_reducible refine qw_then ?_)) | (refine lw_nil ?_) | ((refine is_bin ?_; first | (refine lw_pure rfl (pv_neq rfl rfl) ?_))) | (refine lw_pure rfl (pv_extract rfl rfl) ?_))
        refine lw_call (f := 61) (by kernel_rfl) rfl rfl (rgoes1_c (h.mono hw) h0) ?_; rintro e5 w5 ⟨rfl, hT, hg5⟩; refine ⟨_, rfl, ?_⟩; have hw4 := hw; clear hw; have hw := Below.refl w5.heap.size w5; have hbs5 : base ≤ w5.heap.size := Nat.le_trans (Nat.le_trans hbs hw4.size) hg5.size
        repeat' (first | (refine lw_pure rfl (pv_move rfl) ?_) | (refine is_cw ?_; first | (refine cw_seq ?_) | (refine cw_region ?_) | (refine cw_false rfl rfl ?_) | (refine cw_skip ?_)) | (refine is_qw ?_; first | (with_reducible refine qw_then ?_)) | (refine lw_nil ?_) | ((refine is_un ?_; first | (refine lw_pure rfl (pv_not rfl) ?_))))
        refine lw_call (f := 64) (by kernel_rfl) rfl rfl (rdrop_c ⟨hT.obj, hT.own⟩ hT.ok.srt hT.ok.cnt hbs5 hgs) ?_; rintro e6 w6 ⟨rfl, ⟨v6, hP, hnv⟩, hg6⟩; refine ⟨_, rfl, ?_⟩; clear hw; have hw := Below.refl w6.heap.size w6
        repeat' (first | (refine lw_pure rfl (pv_assign rfl) ?_) | (refine is_cw ?_; first | (refine cw_seq ?_) | (refine cw_region ?_) | (refine cw_ret ?_)) | (refine is_qw ?_; first | (with_reducible refine qw_then ?_)) | (refine lw_nil ?_))
        exact qw_ret1 rfl rfl ⟨rfl, rk_fin hw4 hg5 hP hok hnv hg6⟩
set_option maxRecDepth 20000 in
theorem rcut_c {w : World} {base N : Nat} {v : Value} {d : Dsk} (h : RkW w base N v d) {k : Int} (hm : k ≤ 9223372036854775807) : Calls Tryz.prog 41 #[.pointer (some ⟨N, 0, none⟩), .int .i64 k] w fun e w' => e = .returned (.int .i64 (cutD d k).1) ∧ RkQ w w' base N v (cutD d k).2 := by
  have H := h.obj
  have hok := h.ok.cut hm
  have hw := Below.refl w.heap.size w
  refine fn_enter 15 Tryz.func41 rfl rfl rfl ?_
  cases hk : d.dark with
  | true =>
    rw [show cutD d k = (45, d) from by unfold cutD; rw [if_pos hk]]
    rw [hk] at H
    repeat' (first | (refine lw_pure rfl (pv_move rfl) ?_) | (refine lw_pure rfl (pv_assign rfl) ?_) | (refine is_cw ?_; first | (refine cw_seq ?_) | (refine cw_region ?_) | (refine cw_true rfl rfl ?_) | (refine cw_ret ?_)) | (refine is_qw ?_; first | (with_reducible refine qw_then ?_) | (with_reducible refine qw_then_ret ?_)) | (refine lw_nil ?_) | ((refine is_load ?_; first | (refine lw_pure rfl (pv_load (t1 rfl) rfl (by first | exact PT.ld0 (H.mono hw) rfl | exact PT.ld (H.mono hw) rfl)) ?_))) | ((refine is_fa ?_; first | (refine lw_pure rfl (pv_fa (tF rfl) rfl) ?_))) | (refine lw_pure rfl (pv_nilp rfl) ?_))
    exact qw_ret1 rfl rfl ⟨rfl, RkQ.same h hw⟩
  | false =>
    have e2 : PT w N 57 [v, .int .i64 d.cap, .int .i64 d.left, .bool false] := by rw [← hk]; exact H
    by_cases h1 : k < 0
    · rw [show cutD d k = (1, d) from by unfold cutD; rw [hk, if_neg (by simp), if_pos h1]]
      repeat' (first | (refine lw_pure rfl (pv_move rfl) ?_) | (refine lw_pure rfl (pv_assign rfl) ?_) | (refine is_cw ?_; first | (refine cw_seq ?_) | (refine cw_region ?_) | (refine cw_false rfl rfl ?_) | (refine cw_true rfl (by first | assumption | exact decide_eq_true (by omega) | exact dec_notT (by omega)) ?_) | (refine cw_skip ?_) | (refine cw_ret ?_)) | (refine is_qw ?_; first | (with_reducible refine qw_then ?_) | (with_reducible refine qw_then_ret ?_)) | (refine lw_nil ?_) | ((refine is_bin ?_; first | (refine lw_pure rfl (pv_lss rfl rfl) ?_))) | ((refine is_load ?_; first | (refine lw_pure rfl (pv_load (t1 rfl) rfl (by first | exact PT.ld0 (e2.mono hw) rfl | exact PT.ld (e2.mono hw) rfl)) ?_))) | ((refine is_fa ?_; first | (refine lw_pure rfl (pv_fa (tF rfl) rfl) ?_))) | (refine lw_pure rfl (pv_nilp rfl) ?_))
      exact qw_ret1 rfl rfl ⟨rfl, RkQ.same h hw⟩
    · have e1 : cutD d k = (0, { d with left := k }) := by unfold cutD; rw [hk, if_neg (by simp), if_neg h1]
      rw [e1] at hok ⊢
      repeat' (first | (refine lw_pure rfl (pv_move rfl) ?_) | (refine lw_pure rfl (pv_assign rfl) ?_) | (refine is_cw ?_; first | (refine cw_seq ?_) | (refine cw_region ?_) | (refine cw_false rfl rfl ?_) | (refine cw_false rfl (by first | assumption | exact decide_eq_false (by omega) | exact dec_notF (by omega)) ?_) | (refine cw_skip ?_)) | (refine is_qw ?_; first | (with_reducible refine qw_then ?_)) | (refine lw_nil ?_) | ((refine is_bin ?_; first | (refine lw_pure rfl (pv_lss rfl rfl) ?_))) | ((refine is_load ?_; first | (refine lw_pure rfl (pv_load (t1 rfl) rfl (by first | exact PT.ld0 (e2.mono hw) rfl | exact PT.ld (e2.mono hw) rfl)) ?_))) | ((refine is_fa ?_; first | (refine lw_pure rfl (pv_fa (tF rfl) rfl) ?_))) | (refine lw_pure rfl (pv_nilp rfl) ?_))
      refine lw_store (H.mono hw) (tZ rfl) rfl rfl rfl (by simp) ?_; intro w5 H5 hg5 hz5
      have hO : Own encF 3 54 base w5 v d.fs := (h.own.mono hw).gw (Gw.of_a (a := N) (b := N) hg5) h.ne h.ne
      have hT : RkW w5 base N v { d with left := k } := ⟨H5, hO, hok⟩
      have hw4 := hw
      clear hw
      have hw := Below.refl w5.heap.size w5
      repeat' (first | (refine lw_pure rfl (pv_assign rfl) ?_) | (refine is_cw ?_; first | (refine cw_seq ?_) | (refine cw_region ?_) | (refine cw_ret ?_)) | (refine is_qw ?_; first | (with_reducible refine qw_then ?_)) | (refine lw_nil ?_))
      exact qw_ret1 rfl rfl ⟨rfl, rk_dark hw4 hT hg5⟩
set_option maxRecDepth 20000 in
theorem rread_c {w : World} {base N : Nat} {v : Value} {d : Dsk} (h : RkW w base N v d) {n : ByteArray} : Calls Tryz.prog 35 #[.pointer (some ⟨N, 0, none⟩), .string n] w fun e w' => e = .returned (.tuple #[.string (readD d n).1, .int .i64 (readD d n).2]) ∧ Below w.heap.size w w' := by
  have hw := Below.refl w.heap.size w
  refine fn_enter 34 Tryz.func35 rfl rfl rfl ?_
  cases hk : d.dark with
  | true =>
    rw [show readD d n = (emptyB, 45) from by unfold readD; rw [if_pos hk]]
    repeat' (first | (refine lw_pure rfl (pv_move rfl) ?_) | (refine lw_pure rfl (pv_assign rfl) ?_) | (refine is_cw ?_; first | (refine cw_seq ?_) | (refine cw_region ?_)) | (refine is_qw ?_; first | (with_reducible refine qw_then ?_)) | (refine lw_nil ?_))
    refine lw_call (f := 63) (by kernel_rfl) rfl rfl (rfind45_c (h.mono hw) hk n) ?_; rintro e w1 ⟨rfl, hb⟩; refine ⟨_, rfl, ?_⟩; replace hw := grow_trans hw hb; clear hb
    repeat' (first | (refine lw_pure rfl (pv_move rfl) ?_) | (refine lw_pure rfl (pv_assign rfl) ?_) | (refine is_cw ?_; first | (refine cw_seq ?_) | (refine cw_region ?_) | (refine cw_true rfl rfl ?_) | (refine cw_ret ?_)) | (refine is_qw ?_; first | (with_reducible refine qw_then ?_) | (with_reducible refine qw_then_ret ?_)) | (refine lw_nil ?_) | ((refine is_bin ?_; first | (refine lw_pure rfl (pv_neq rfl rfl) ?_))) | (refine lw_pure rfl (pv_extract rfl rfl) ?_))
    exact qw_ret2 rfl rfl rfl ⟨rfl, hw⟩
  | false =>
    cases hg : getF d.fs n with
    | none =>
      rw [show readD d n = (emptyB, 5) from by unfold readD; rw [hk, if_neg (by simp), hg]]
      repeat' (first | (refine lw_pure rfl (pv_move rfl) ?_) | (refine lw_pure rfl (pv_assign rfl) ?_) | (refine is_cw ?_; first | (refine cw_seq ?_) | (refine cw_region ?_)) | (refine is_qw ?_; first | (with_reducible refine qw_then ?_)) | (refine lw_nil ?_))
      refine lw_call (f := 63) (by kernel_rfl) rfl rfl (rfind5_c (h.mono hw) hk hg) ?_; rintro e w1 ⟨rfl, hb⟩; refine ⟨_, rfl, ?_⟩; replace hw := grow_trans hw hb; clear hb
      repeat' (first | (refine lw_pure rfl (pv_move rfl) ?_) | (refine lw_pure rfl (pv_assign rfl) ?_) | (refine is_cw ?_; first | (refine cw_seq ?_) | (refine cw_region ?_) | (refine cw_true rfl rfl ?_) | (refine cw_ret ?_)) | (refine is_qw ?_; first | (with_reducible refine qw_then ?_) | (with_reducible refine qw_then_ret ?_)) | (refine lw_nil ?_) | ((refine is_bin ?_; first | (refine lw_pure rfl (pv_neq rfl rfl) ?_))) | (refine lw_pure rfl (pv_extract rfl rfl) ?_))
      exact qw_ret2 rfl rfl rfl ⟨rfl, hw⟩
    | some f =>
      have hsz := getF_sz h.ok hg
      have hc : f.firm.size + f.pend.size ≤ 9223372036854775807 := by omega
      have hxk := at_pos h.ok.srt hg
      have hpl : posF d.fs n < d.fs.length := (List.getElem?_eq_some_iff.1 hxk).1
      rw [show readD d n = (f.firm ++ f.pend, 0) from by unfold readD; rw [hk, if_neg (by simp), hg]]
      obtain ⟨a0, c0, e0, HS, -⟩ := Own.slR encF_len h.own
      subst e0
      obtain ⟨ab, ao, rfl, -, -⟩ := HS.at (by intro h; rw [h] at hpl; simp at hpl)
      have H := h.obj
      have hmx := HS.max
      have hle := HS.le
      repeat' (first | (refine lw_pure rfl (pv_move rfl) ?_) | (refine lw_pure rfl (pv_assign rfl) ?_) | (refine is_cw ?_; first | (refine cw_seq ?_) | (refine cw_region ?_)) | (refine is_qw ?_; first | (with_reducible refine qw_then ?_)) | (refine lw_nil ?_))
      refine lw_call (f := 63) (by kernel_rfl) rfl rfl (rfind0_c (h.mono hw) hk hg) ?_; rintro e w1 ⟨rfl, hb⟩; refine ⟨_, rfl, ?_⟩; replace hw := grow_trans hw hb; clear hb
      repeat' (first | (refine lw_pure rfl (pv_move rfl) ?_) | (refine lw_pure rfl (pv_assign rfl) ?_) | (refine is_cw ?_; first | (refine cw_seq ?_) | (refine cw_region ?_) | (refine cw_false rfl rfl ?_) | (refine cw_skip ?_)) | (refine is_qw ?_; first | (with_reducible refine qw_then ?_)) | (refine lw_nil ?_) | ((refine is_bin ?_; first | (refine lw_pure rfl (pv_neq rfl rfl) ?_))) | (refine lw_pure rfl (pv_extract rfl rfl) ?_))
      refine cw_drawn (fun w' => Below w.heap.size w w') (by kernel_rfl) (by repeat (first | exact NoPanic.body | with_reducible refine NoPanic.then ?_ | with_reducible refine NoPanic.inBlock ?_)) (fun hNP => ?_)
      have hS := hw.drew
      (refine at0 0 rfl (fun w' hq => pv_move rfl) ?_)
      (refine at0 1 rfl (fun w' hq => pv_nilp rfl) ?_)
      (refine at0 2 rfl (fun w' hq => pv_fa (tF rfl) rfl) ?_)
      (refine at0 3 rfl (fun w' hq => pv_load (t1 rfl) rfl (by first | exact PT.ld0 (H.mono hq) rfl | exact PT.ld (H.mono hq) rfl | exact SlR.ld (HS.mono hq) hxk rfl | exact SlR.ld1 (HS.mono hq) hxk rfl)) ?_)
      (refine at0 4 rfl (fun w' hq => pv_move rfl) ?_)
      (refine at0 5 rfl (fun w' hq => pv_ian (tS rfl) rfl rfl (by omega)) ?_)
      (refine at0 6 rfl (fun w' hq => pv_fa (tF rfl) rfl) ?_)
      (refine at0 7 rfl (fun w' hq => pv_load (t1 rfl) rfl (by first | exact PT.ld0 (H.mono hq) rfl | exact PT.ld (H.mono hq) rfl | exact SlR.ld (HS.mono hq) hxk rfl | exact SlR.ld1 (HS.mono hq) hxk rfl)) ?_)
      (refine at0 8 rfl (fun w' hq => pv_move rfl) ?_)
      (refine at0 9 rfl (fun w' hq => pv_nilp rfl) ?_)
      (refine at0 10 rfl (fun w' hq => pv_fa (tF rfl) rfl) ?_)
      (refine at0 11 rfl (fun w' hq => pv_load (t1 rfl) rfl (by first | exact PT.ld0 (H.mono hq) rfl | exact PT.ld (H.mono hq) rfl | exact SlR.ld (HS.mono hq) hxk rfl | exact SlR.ld1 (HS.mono hq) hxk rfl)) ?_)
      (refine at0 12 rfl (fun w' hq => pv_move rfl) ?_)
      (refine at0 13 rfl (fun w' hq => pv_ian (tS rfl) rfl rfl (by omega)) ?_)
      (refine at0 14 rfl (fun w' hq => pv_fa (tF rfl) rfl) ?_)
      (refine at0 15 rfl (fun w' hq => pv_load (t1 rfl) rfl (by first | exact PT.ld0 (H.mono hq) rfl | exact PT.ld (H.mono hq) rfl | exact SlR.ld (HS.mono hq) hxk rfl | exact SlR.ld1 (HS.mono hq) hxk rfl)) ?_)
      (refine at0 16 rfl (fun w' hq => pv_cat rfl rfl hc) ?_)
      (refine at0 17 rfl (fun w' hq => pv_assign rfl) ?_)
      (refine at0 18 rfl (fun w' hq => pv_assign rfl) ?_)
      refine aw_done (by kernel_rfl) ?_
      replace hw := hS; clear hS hNP
      repeat' (first | (refine is_cw ?_; first | (refine cw_ret ?_)) | (refine is_qw ?_; first | (with_reducible refine qw_then ?_)))
      exact qw_ret2 rfl rfl rfl ⟨rfl, hw⟩
end Go.Proofs.YtncicecmhibpcaaGreatDoor
