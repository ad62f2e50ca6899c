/-
  DiskLoads: its row and its card: whatever the input: true; the input reads as it did. Conditions: what the row prints (the table of functions reads as the program's text lays it).
-/
import Derived.Test.YtncicecmhibpcaaDoorZH2
import Derived.Test.YtncicecmhibpcaaDoorTie
import Derived.Test.YtncicecmhibpcaaDoorCards
import Derived.SevenTiedAt
namespace Go.Proofs.YtncicecmhibpcaaDoor
open Go.RowKit Go.PlainAid

section
variable {w : World} {N B : Nat} {d d' : Dsk} {n t b : ByteArray} {k q : Int}
theorem create_is (h : DkW w N B d) (hn : n.size ≤ 9223372036854775807) (hr : createD d n = (k, d')) : Calls Tryd.prog 35 #[.pointer (some ⟨N, 0, none⟩), .string n] w fun e w' => e = .returned (.int .i64 k) ∧ DkW w' N B d' ∧ Gw N B w w' := by
  have := create_c h hn; rw [hr] at this; exact this
theorem append_is (h : DkW w N B d) (hn : n.size ≤ 9223372036854775807) (hr : appendD d n b = (k, d')) : Calls Tryd.prog 34 #[.pointer (some ⟨N, 0, none⟩), .string n, .string b] w fun e w' => e = .returned (.int .i64 k) ∧ DkW w' N B d' ∧ Gw N B w w' := by
  have := append_c (b := b) h hn; rw [hr] at this; exact this
theorem sync_is (h : DkW w N B d) (hn : n.size ≤ 9223372036854775807) (hr : syncD d n = (k, d')) : Calls Tryd.prog 36 #[.pointer (some ⟨N, 0, none⟩), .string n] w fun e w' => e = .returned (.int .i64 k) ∧ DkW w' N B d' ∧ Gw N B w w' := by
  have := sync_c h hn; rw [hr] at this; exact this
theorem trim_is (h : DkW w N B d) (hn : n.size ≤ 9223372036854775807) (hr : trimD d n q = (k, d')) : Calls Tryd.prog 37 #[.pointer (some ⟨N, 0, none⟩), .string n, .int .i64 q] w fun e w' => e = .returned (.int .i64 k) ∧ DkW w' N B d' ∧ Gw N B w w' := by
  have := dtrim_c h hn q; rw [hr] at this; exact this
theorem rename_is (h : DkW w N B d) (hn : n.size ≤ 9223372036854775807) (ht : t.size ≤ 9223372036854775807) (hr : renameD d n t = (k, d')) : Calls Tryd.prog 38 #[.pointer (some ⟨N, 0, none⟩), .string n, .string t] w fun e w' => e = .returned (.int .i64 k) ∧ DkW w' N B d' ∧ Gw N B w w' := by
  have := rename_c h hn ht; rw [hr] at this; exact this
theorem cut_is (h : DkW w N B d) (hm : q ≤ 9223372036854775807) (hr : cutD d q = (k, d')) : Calls Tryd.prog 29 #[.pointer (some ⟨N, 0, none⟩), .int .i64 q] w fun e w' => e = .returned (.int .i64 k) ∧ DkW w' N B d' ∧ Gw N B w w' := by
  have := cut_c h hm; rw [hr] at this; exact this
theorem crash_is {keep : List Int} {kn kc : Nat} {ka : Option Addr} (h : DkW w N B d) (hkl : keep.length = kn) (HK : SlR encI 1 w ka kc keep) (hka : ∀ x, ka = some x → x.block ≠ B) (hr : crashD d keep = d') : Calls Tryd.prog 17 #[.pointer (some ⟨N, 0, none⟩), .slice ka kn kc] w fun e w' => e = .returned (.int .i64 0) ∧ DkW w' N B d' ∧ Gw N B w w' := by
  have := crash_c h hkl HK hka; rw [hr] at this; exact this
theorem one_is {p r : ByteArray} {c : Bool} (h : DkW w N B d) (hr : decide (d.fs = [⟨n, p, r⟩]) = c) : Calls Tryd.prog 41 #[.pointer (some ⟨N, 0, none⟩), .string n, .string p, .string r] w fun e w' => e = .returned (.bool c) ∧ Below w.heap.size w w' := by
  have := one_c h n p r; rw [hr] at this; exact this
theorem up_is {c : Bool} (h : DkW w N B d) (hr : (!d.dark) = c) : Calls Tryd.prog 30 #[.pointer (some ⟨N, 0, none⟩)] w fun e w' => e = .returned (.bool c) ∧ Below w.heap.size w w' := by
  have := up_c h; rw [hr] at this; exact this
theorem read_is {s : ByteArray} (h : DkW w N B d) (hn : n.size ≤ 9223372036854775807) (hr : readD d n = (s, k)) : Calls Tryd.prog 20 #[.pointer (some ⟨N, 0, none⟩), .string n] w fun e w' => e = .returned (.tuple #[.string s, .int .i64 k]) ∧ Below w.heap.size w w' := by
  have := read_c h hn; rw [hr] at this; exact this
end
section
variable {k nb : Nat} {P : Program} {n : Nat} {l : Fr} {w : World} {Q : Exit → Act → World → Prop} {ops : Array Oper} {os : List Oper} {d : Nat} {ty : TypeId} {pos : String} {af : Array Edge} {S T : TypeId}
theorem lw_bsN (E : ElemT P S T k nb) {m : Nat} {ps : List (Nat × Operand)} {vs cs : List Value} (hd : Nat.blt d n = true) (hps : ps.map (·.1) = List.range m) (hvs : evs l (ps.map (·.2)) = some vs) (hp : 0 < m) (hs : m * k ≤ 16777216) (hcs : (vs.flatMap fun v => v.cells.toList) = cs) (h1 : ∀ v ∈ vs, v.cells.size = k)
    (h : ∀ N w', w.heap.size ≤ N → PT w' N T cs → Below w.heap.size w w' → LW P n ops Q os ((d, .slice (some ⟨N, 0, none⟩) m m) :: l) w') :
    LW P n ops Q (⟨some d, .buildSlice S m ps.toArray, ty, pos, af, none⟩ :: os) l w :=
  lw_bs E hd hps hvs hp hs hcs h1 fun w' hp hb _ => h _ w' (Nat.le_refl _) hp hb
end
def sa : ByteArray := ⟨#[97]⟩
def sb : ByteArray := ⟨#[98]⟩
def sx : ByteArray := ⟨#[120]⟩
def syz : ByteArray := ⟨#[121, 122]⟩
def s17 : ByteArray := ⟨#[49, 50, 51, 52, 53, 54, 55]⟩
def sab : ByteArray := ⟨#[97, 47, 98]⟩
def dA0 : Dsk := ⟨[], 9, -1, false⟩
def dA1 : Dsk := ⟨[⟨sa, emptyB, emptyB⟩], 9, -1, false⟩
def dA2 : Dsk := ⟨[⟨sa, emptyB, sx⟩], 9, -1, false⟩
def dA3 : Dsk := ⟨[⟨sa, sx, emptyB⟩], 9, -1, false⟩
def dA4 : Dsk := ⟨[⟨sa, sx, syz⟩], 9, -1, false⟩
def dA5 : Dsk := ⟨[⟨sa, sx, syz⟩, ⟨sb, emptyB, emptyB⟩], 9, -1, false⟩
def dA6 : Dsk := ⟨[⟨sb, sx, syz⟩], 9, -1, false⟩
def dA7 : Dsk := ⟨[⟨sb, emptyB, emptyB⟩], 9, -1, false⟩
def dC1 : Dsk := ⟨[], 9, 1, false⟩
def dC2 : Dsk := ⟨[⟨sa, emptyB, emptyB⟩], 9, 0, false⟩
def dC3 : Dsk := ⟨[⟨sa, emptyB, sx⟩], 9, 0, true⟩
def dC4 : Dsk := ⟨[⟨sa, sx, emptyB⟩], 9, -1, false⟩
theorem rA1 : createD dA0 sa = (0, dA1) := by decide +kernel
theorem rA2 : appendD dA1 sa sx = (0, dA2) := by decide +kernel
theorem rA3 : syncD dA2 sa = (0, dA3) := by decide +kernel
theorem rA4 : appendD dA3 sa syz = (0, dA4) := by decide +kernel
theorem rA44 : appendD dA4 sa s17 = (44, dA4) := by decide +kernel
theorem rA5 : createD dA4 sb = (0, dA5) := by decide +kernel
theorem rA6 : renameD dA5 sa sb = (0, dA6) := by decide +kernel
theorem rA7 : trimD dA6 sb 0 = (0, dA7) := by decide +kernel
theorem rA8 : createD dA7 sab = (4, dA7) := by decide +kernel
theorem rC1 : cutD dA0 1 = (0, dC1) := by decide +kernel
theorem rC2 : createD dC1 sa = (0, dC2) := by decide +kernel
theorem rC3 : appendD dC2 sa sx = (45, dC3) := by decide +kernel
theorem rC4 : crashD dC3 [1] = dC4 := by decide +kernel
theorem rCr : readD dC3 sa = (emptyB, 45) := by decide +kernel
def wantsL : List ByteArray := [⟨#[120]⟩, ⟨#[120, 121]⟩, ⟨#[120, 121, 122]⟩, ⟨#[120]⟩]
theorem rW0 : ∀ k : Fin 4, (crashD dA4 [((k.val : Nat) : Int)]).fs = [⟨sa, wantsL.getD k.val emptyB, emptyB⟩] := by decide +kernel
theorem rW {k : Nat} (h : k < 4) {s : ByteArray} (hs : wantsL[k]? = some s) : decide ((crashD dA4 [(k : Int)]).fs = [⟨sa, s, emptyB⟩]) = true := by
  have := rW0 ⟨k, h⟩
  dsimp only at this
  rw [this, List.getD_eq_getElem?_getD, hs]
  simp
theorem elemXn : ElemT Tryd.prog 23 3 1 8 := elem_of Tryd.underlying23 (by kernel_rfl) (by omega)
set_option maxRecDepth 20000 in
set_option maxHeartbeats 1000000 in
theorem awake_c (w : World) : Calls Tryd.prog 11 #[] w fun e w' => e = .returned (.bool true) ∧ Below w.heap.size w w' := by
  have hw := Below.refl w.heap.size w
  refine fn_enter 129 Tryd.func11 rfl rfl rfl ?_
  repeat' (first | (refine lw_pure rfl (pv_assign rfl) ?_) | (refine is_cw ?_; first | (refine cw_seq ?_) | (refine cw_region ?_)) | (refine is_qw ?_; first | (with_reducible refine qw_then ?_)) | (refine lw_nil ?_))
  refine lw_call (f := 12) (by kernel_rfl) rfl rfl (small_c (cap := 9) (by omega) (by omega) _) ?_; rintro e w1 ⟨⟨N, B, rfl, hN, hB, hD0⟩, hb⟩; refine ⟨_, rfl, ?_⟩
  replace hN := Nat.le_trans hw.size hN
  replace hB := Nat.le_trans hw.size hB
  replace hw := grow_trans hw hb
  clear hb
  have hD : DkW w1 N B dA0 := hD0
  clear hD0
  repeat' (first | (refine lw_pure rfl (pv_move rfl) ?_) | (refine lw_pure rfl (pv_assign rfl) ?_) | (refine is_cw ?_; first | (refine cw_seq ?_) | (refine cw_region ?_)) | (refine is_qw ?_; first | (with_reducible refine qw_then ?_)) | (refine lw_nil ?_) | (refine is_guarded ?_; first | (refine lw_on rfl rfl rfl ?_)) | ((refine is_bin ?_; first | (refine lw_pure rfl (pv_pnil tpD rfl rfl) ?_))))
  refine lw_call (f := 35) (by kernel_rfl) rfl rfl (create_is (n := sa) hD (by decide) rA1) ?_; clear hD; rintro e w1 ⟨rfl, hD, hG⟩; refine ⟨_, rfl, ?_⟩; replace hw := hG.below hw hN hB; clear hG
  repeat' (first | (refine lw_pure rfl (pv_move rfl) ?_) | (refine is_guarded ?_; first | (refine lw_on rfl rfl rfl ?_)) | ((refine is_bin ?_; first | (refine lw_pure rfl (pv_neq rfl rfl) ?_))) | (refine lw_pure rfl (pv_pick_f rfl rfl rfl) ?_))
  refine lw_call (f := 34) (by kernel_rfl) rfl rfl (append_is (n := sa) (b := sx) hD (by decide) rA2) ?_; clear hD; rintro e w1 ⟨rfl, hD, hG⟩; refine ⟨_, rfl, ?_⟩; replace hw := hG.below hw hN hB; clear hG
  repeat' (first | (refine lw_pure rfl (pv_move rfl) ?_) | (refine is_guarded ?_; first | (refine lw_on rfl rfl rfl ?_)) | ((refine is_bin ?_; first | (refine lw_pure rfl (pv_neq rfl rfl) ?_))) | (refine lw_pure rfl (pv_pick_f rfl rfl rfl) ?_))
  refine lw_call (f := 36) (by kernel_rfl) rfl rfl (sync_is (n := sa) hD (by decide) rA3) ?_; clear hD; rintro e w1 ⟨rfl, hD, hG⟩; refine ⟨_, rfl, ?_⟩; replace hw := hG.below hw hN hB; clear hG
  repeat' (first | (refine lw_pure rfl (pv_move rfl) ?_) | (refine is_guarded ?_; first | (refine lw_on rfl rfl rfl ?_)) | ((refine is_bin ?_; first | (refine lw_pure rfl (pv_neq rfl rfl) ?_))) | (refine lw_pure rfl (pv_pick_f rfl rfl rfl) ?_))
  refine lw_call (f := 34) (by kernel_rfl) rfl rfl (append_is (n := sa) (b := syz) hD (by decide) rA4) ?_; clear hD; rintro e w1 ⟨rfl, hD, hG⟩; refine ⟨_, rfl, ?_⟩; replace hw := hG.below hw hN hB; clear hG
  repeat' (first | (refine lw_pure rfl (pv_move rfl) ?_) | (refine is_guarded ?_; first | (refine lw_on rfl rfl rfl ?_)) | ((refine is_bin ?_; first | (refine lw_pure rfl (pv_neq rfl rfl) ?_))) | (refine lw_pure rfl (pv_pick_f rfl rfl rfl) ?_))
  refine lw_call (f := 34) (by kernel_rfl) rfl rfl (append_is (n := sa) (b := s17) hD (by decide) rA44) ?_; clear hD; rintro e w1 ⟨rfl, hD, hG⟩; refine ⟨_, rfl, ?_⟩; replace hw := hG.below hw hN hB; clear hG
  repeat' (first | (refine lw_pure rfl (pv_move rfl) ?_) | (refine is_guarded ?_; first | (refine lw_on rfl rfl rfl ?_)) | ((refine is_bin ?_; first | (refine lw_pure rfl (pv_neq rfl rfl) ?_))) | (refine lw_pure rfl (pv_pick_f rfl rfl rfl) ?_))
  refine lw_call (f := 41) (by kernel_rfl) rfl rfl (one_is (n := sa) (p := sx) (r := syz) (c := true) hD (by decide +kernel)) ?_; rintro e w1 ⟨rfl, hb⟩; refine ⟨_, rfl, ?_⟩; replace hD := hD.mono hb; replace hw := grow_trans hw hb; clear hb
  repeat' (first | (refine is_cw ?_; first | (refine cw_seq ?_) | (refine cw_region ?_) | (refine cw_false rfl rfl ?_) | (refine cw_skip ?_)) | (refine is_qw ?_; first | (with_reducible refine qw_then ?_)) | (refine lw_nil ?_) | (refine is_guarded ?_; first | (refine lw_on rfl rfl rfl ?_)) | ((refine is_un ?_; first | (refine lw_pure rfl (pv_not rfl) ?_))) | (refine lw_pure rfl (pv_pick_f rfl rfl rfl) ?_))
  refine lw_bsN (vs := [.string ⟨#[120]⟩, .string ⟨#[120, 121]⟩, .string ⟨#[120, 121, 122]⟩, .string ⟨#[120]⟩]) (cs := wantsL.flatMap encT) elemXs rfl rfl rfl (by omega) (by omega) rfl (by intro v hv; simp at hv; rcases hv with rfl | rfl | rfl | rfl <;> rfl) ?_; intro N3 w3 hN3 HB hb
  have hl4 : wantsL.length = 4 := rfl
  have HW : SlR encT 1 w3 (some ⟨N3, 0, none⟩) 4 wantsL := HB.slR (xs := wantsL) encT_len rfl (by omega)
  replace hD := hD.mono hb
  replace hw := grow_trans hw hb
  clear hb
  repeat' (first | (refine lw_pure rfl (pv_move rfl) ?_) | (refine is_cw ?_; first | (refine cw_block ?_)) | (refine is_qw ?_; first | (with_reducible refine qw_then ?_)) | (refine lw_nil ?_) | ((refine is_bi ?_; first | (refine lw_pure rfl (pv_lenl (tS rfl) rfl) ?_))))
  refine cw_loop (σ := Nat) (fun k => [(1, .pointer (some ⟨N, 0, none⟩)), (41, .slice (some ⟨N3, 0, none⟩) 4 4), (42, .int .i64 4), (43, .int .i64 (k : Nat))]) (fun k wr => k ≤ 4 ∧ Below w.heap.size w wr ∧ DkW wr N B dA4 ∧ SlR encT 1 wr (some ⟨N3, 0, none⟩) 4 wantsL) (fun k => 4 - k) 0 (by repeat' (first | exact trivial | refine ⟨rfl, ?_⟩)) ⟨Nat.zero_le _, hw, hD, HW⟩ ?_
  clear hw hD HW HB
  rintro k wr ⟨hk, hw, hD, HW⟩
  by_cases hlt : k < 4
  · have hxk : wantsL[k]? = some wantsL[k] := List.getElem?_eq_getElem (by rw [hl4]; exact hlt)
    generalize wantsL[k] = s at hxk
    have hw0 := hw
    have hDl := hD.lt
    clear hw
    have hw := Below.refl wr.heap.size wr
    repeat' (first | (refine lw_pure rfl (pv_move rfl) ?_) | (refine lw_pure rfl (pv_assign rfl) ?_) | (refine is_cw ?_; first | (refine cw_seq ?_) | (refine cw_region ?_) | (refine cw_true rfl (by first | assumption | exact decide_eq_true (by omega) | exact dec_notT (by omega)) ?_) | (refine cw_skip ?_) | (refine cw_block ?_)) | (refine is_qw ?_; first | (with_reducible refine qw_then ?_)) | (refine lw_nil ?_) | ((refine is_bin ?_; first | (refine lw_pure rfl (pv_lss rfl rfl) ?_))) | ((refine is_load ?_; first | (refine lw_pure rfl (pv_load (t1 rfl) rfl (by first | exact SlR.ld (HW.mono hw) hxk rfl | exact SlR.ld1 (HW.mono hw) hxk rfl)) ?_))) | ((refine is_ia ?_; first | (refine lw_pure rfl (pv_ian (tS rfl) rfl rfl (by omega)) ?_))))
    refine lw_call (f := 28) (by kernel_rfl) rfl rfl (copy_c (hD.mono hw)) ?_; rintro e w4 ⟨⟨N4, B4, rfl, hN4, hB4, hD4⟩, hb⟩; refine ⟨_, rfl, ?_⟩
    replace hN4 := Nat.le_trans hw.size hN4
    replace hB4 := Nat.le_trans hw.size hB4
    replace hw := grow_trans hw hb
    clear hb
    repeat' (first | (refine lw_pure rfl (pv_move rfl) ?_) | (refine lw_pure rfl (pv_assign rfl) ?_) | (refine is_cw ?_; first | (refine cw_seq ?_) | (refine cw_region ?_)) | (refine is_qw ?_; first | (with_reducible refine qw_then ?_)) | (refine lw_nil ?_))
    refine lw_bsN (vs := [.int .i64 (k : Nat)]) (cs := [.int .i64 (k : Nat)]) elemXn rfl rfl rfl (by omega) (by omega) rfl (by intro v hv; simp at hv; subst hv; rfl) ?_; intro N5 w5 hN5 H5 hb
    have HK : SlR encI 1 w5 (some ⟨N5, 0, none⟩) 1 [((k : Nat) : Int)] := H5.slR (xs := [((k : Nat) : Int)]) encI_len rfl (by omega)
    have hl2 := hD4.lt
    replace hD4 := hD4.mono hb
    replace hw := grow_trans hw hb
    clear hb
    refine lw_call (f := 17) (by kernel_rfl) rfl rfl (crash_c hD4 (keep := [((k : Nat) : Int)]) rfl HK (fun x hx => by injection hx with hx; subst hx; show N5 ≠ B4; omega)) ?_; clear hD4; rintro e w6 ⟨rfl, hD4, hG⟩; refine ⟨_, rfl, ?_⟩
    have hD6 := (hD.mono hw).gw hG ⟨by omega, by omega⟩ ⟨by omega, by omega⟩
    have HW6 := (HW.mono hw).gw hG (fun x hx => by injection hx with hx; subst hx; have := (HW.ofSome _ rfl (by omega)).2.1; exact ⟨by show N3 ≠ N4; dsimp only at this; omega, by show N3 ≠ B4; dsimp only at this; omega⟩)
    replace hw := hG.below hw hN4 hB4
    clear hG
    repeat' (first | (refine lw_pure rfl (pv_move rfl) ?_) | (refine is_guarded ?_; first | (refine lw_on rfl rfl rfl ?_)) | ((refine is_bin ?_; first | (refine lw_pure rfl (pv_neq rfl rfl) ?_))))
    refine lw_call (f := 41) (by kernel_rfl) rfl rfl (one_is (n := sa) (p := s) (r := emptyB) (c := true) hD4 (rW hlt hxk)) ?_; rintro e w7 ⟨rfl, hb⟩; refine ⟨_, rfl, ?_⟩
    replace hw := grow_trans hw hb
    repeat' (first | (refine lw_pure rfl (pv_move rfl) ?_) | (refine is_cw ?_; first | (refine cw_region ?_) | (refine cw_false rfl rfl ?_) | (refine cw_skip ?_)) | (refine is_qw ?_; first | (with_reducible refine qw_then ?_) | (with_reducible refine qw_in ?_)) | (refine lw_nil ?_) | (refine is_guarded ?_; first | (refine lw_on rfl rfl rfl ?_)) | ((refine is_bin ?_; first | (refine lw_pure rfl (pv_inc rfl rfl (by omega)) ?_))) | ((refine is_un ?_; first | (refine lw_pure rfl (pv_not rfl) ?_))) | (refine lw_pure rfl (pv_pick_f rfl rfl rfl) ?_))
    exact qw_round (k + 1) (by repeat' (first | exact trivial | refine ⟨rfl, ?_⟩)) ⟨by omega, grow_trans hw0 hw, hD6.mono hb, HW6.mono hb⟩ (by omega)
  · have hk4 : k = 4 := by omega
    subst hk4
    clear HW hlt hk
    repeat' (first | (refine is_cw ?_; first | (refine cw_seq ?_) | (refine cw_region ?_) | (refine cw_false rfl rfl ?_) | (refine cw_exit ?_)) | (refine is_qw ?_; first | (with_reducible refine qw_then ?_) | (with_reducible refine qw_in_hit ?_) | (with_reducible refine qw_then_exit ?_)) | (refine lw_nil ?_) | ((refine is_bin ?_; first | (refine lw_pure rfl (pv_lss rfl rfl) ?_))))
    have hDk := hD
    clear hD
    refine lw_call (f := 12) (by kernel_rfl) rfl rfl (small_c (cap := 9) (by omega) (by omega) _) ?_; rintro e w5 ⟨⟨N5, B5, rfl, hN5, hB5, hD0⟩, hb⟩; refine ⟨_, rfl, ?_⟩
    have hDl := hDk.lt
    replace hDk := (hDk.mono hb)
    have hc1 : N ≠ N5 ∧ N ≠ B5 := ⟨by omega, by omega⟩
    have hc2 : B ≠ N5 ∧ B ≠ B5 := ⟨by omega, by omega⟩
    replace hN5 := Nat.le_trans hw.size hN5
    replace hB5 := Nat.le_trans hw.size hB5
    replace hw := grow_trans hw hb
    clear hb
    have hD : DkW w5 N5 B5 dA0 := hD0
    clear hD0
    repeat' (first | (refine lw_pure rfl (pv_move rfl) ?_) | (refine lw_pure rfl (pv_assign rfl) ?_) | (refine is_cw ?_; first | (refine cw_seq ?_) | (refine cw_region ?_)) | (refine is_qw ?_; first | (with_reducible refine qw_then ?_)) | (refine lw_nil ?_))
    refine lw_call (f := 29) (by kernel_rfl) rfl rfl (cut_is hD (by omega) rC1) ?_; clear hD; rintro e w1 ⟨rfl, hD, hG⟩; refine ⟨_, rfl, ?_⟩; replace hDk := hDk.gw hG hc1 hc2; replace hw := hG.below hw hN5 hB5; clear hG
    repeat' (first | (refine lw_pure rfl (pv_move rfl) ?_) | (refine is_guarded ?_; first | (refine lw_on rfl rfl rfl ?_)) | ((refine is_bin ?_; first | (refine lw_pure rfl (pv_neq rfl rfl) ?_))))
    refine lw_call (f := 35) (by kernel_rfl) rfl rfl (create_is (n := sa) hD (by decide) rC2) ?_; clear hD; rintro e w1 ⟨rfl, hD, hG⟩; refine ⟨_, rfl, ?_⟩; replace hDk := hDk.gw hG hc1 hc2; replace hw := hG.below hw hN5 hB5; clear hG
    repeat' (first | (refine lw_pure rfl (pv_move rfl) ?_) | (refine is_guarded ?_; first | (refine lw_on rfl rfl rfl ?_)) | ((refine is_bin ?_; first | (refine lw_pure rfl (pv_neq rfl rfl) ?_))) | (refine lw_pure rfl (pv_pick_f rfl rfl rfl) ?_))
    refine lw_call (f := 34) (by kernel_rfl) rfl rfl (append_is (n := sa) (b := sx) hD (by decide) rC3) ?_; clear hD; rintro e w1 ⟨rfl, hD, hG⟩; refine ⟨_, rfl, ?_⟩; replace hDk := hDk.gw hG hc1 hc2; replace hw := hG.below hw hN5 hB5; clear hG
    repeat' (first | (refine lw_pure rfl (pv_move rfl) ?_) | (refine is_guarded ?_; first | (refine lw_on rfl rfl rfl ?_)) | ((refine is_bin ?_; first | (refine lw_pure rfl (pv_neq rfl rfl) ?_))) | (refine lw_pure rfl (pv_pick_f rfl rfl rfl) ?_))
    refine lw_call (f := 30) (by kernel_rfl) rfl rfl (up_is (c := false) hD rfl) ?_; rintro e w1 ⟨rfl, hb⟩; refine ⟨_, rfl, ?_⟩; replace hD := hD.mono hb; replace hDk := hDk.mono hb; replace hw := grow_trans hw hb; clear hb
    repeat' (first | (refine lw_pure rfl (pv_move rfl) ?_) | (refine is_cw ?_; first | (refine cw_seq ?_) | (refine cw_region ?_) | (refine cw_false rfl rfl ?_) | (refine cw_skip ?_)) | (refine is_qw ?_; first | (with_reducible refine qw_then ?_)) | (refine lw_nil ?_) | (refine lw_pure rfl (pv_pick_f rfl rfl rfl) ?_))
    refine lw_call (f := 20) (by kernel_rfl) rfl rfl (read_is (n := sa) hD (by decide) rCr) ?_; rintro e w1 ⟨rfl, hb⟩; refine ⟨_, rfl, ?_⟩; replace hD := hD.mono hb; replace hDk := hDk.mono hb; replace hw := grow_trans hw hb; clear hb
    repeat' (first | (refine lw_pure rfl (pv_move rfl) ?_) | (refine lw_pure rfl (pv_assign rfl) ?_) | (refine is_cw ?_; first | (refine cw_seq ?_) | (refine cw_region ?_)) | (refine is_qw ?_; first | (with_reducible refine qw_then ?_)) | (refine lw_nil ?_) | (refine is_guarded ?_; first | (refine lw_on rfl rfl rfl ?_)) | ((refine is_bin ?_; first | (refine lw_pure rfl (pv_neq rfl rfl) ?_))) | (refine lw_pure rfl (pv_extract rfl rfl) ?_))
    refine lw_bsN (vs := [.int .i64 1]) (cs := [.int .i64 1]) elemXn rfl rfl rfl (by omega) (by omega) rfl (by intro v hv; simp at hv; subst hv; rfl) ?_; intro N6 w6 hN6 H6 hb
    have HK : SlR encI 1 w6 (some ⟨N6, 0, none⟩) 1 [(1 : Int)] := H6.slR (xs := [(1 : Int)]) encI_len rfl (by omega)
    have hl2 := hD.lt
    replace hD := hD.mono hb
    replace hDk := hDk.mono hb
    replace hw := grow_trans hw hb
    clear hb
    repeat' (first | (refine is_guarded ?_; first | (refine lw_on rfl rfl rfl ?_)))
    refine lw_call (f := 17) (by kernel_rfl) rfl rfl (crash_is hD (keep := [(1 : Int)]) rfl HK (fun x hx => by injection hx with hx; subst hx; show N6 ≠ B5; omega) rC4) ?_; clear hD; rintro e w1 ⟨rfl, hD, hG⟩; refine ⟨_, rfl, ?_⟩; replace hDk := hDk.gw hG hc1 hc2; replace hw := hG.below hw hN5 hB5; clear hG
    repeat' (first | (refine lw_pure rfl (pv_move rfl) ?_) | (refine is_guarded ?_; first | (refine lw_on rfl rfl rfl ?_)) | ((refine is_bin ?_; first | (refine lw_pure rfl (pv_neq rfl rfl) ?_))) | (refine lw_pure rfl (pv_pick_f rfl rfl rfl) ?_))
    refine lw_call (f := 41) (by kernel_rfl) rfl rfl (one_is (n := sa) (p := sx) (r := emptyB) (c := true) hD (by decide +kernel)) ?_; rintro e w1 ⟨rfl, hb⟩; refine ⟨_, rfl, ?_⟩; replace hD := hD.mono hb; replace hDk := hDk.mono hb; replace hw := grow_trans hw hb; clear hb
    repeat' (first | (refine lw_pure rfl (pv_move rfl) ?_) | (refine is_guarded ?_; first | (refine lw_on rfl rfl rfl ?_)) | ((refine is_un ?_; first | (refine lw_pure rfl (pv_not rfl) ?_))) | (refine lw_pure rfl (pv_pick_f rfl rfl rfl) ?_))
    refine lw_call (f := 30) (by kernel_rfl) rfl rfl (up_is (c := true) hD rfl) ?_; rintro e w1 ⟨rfl, hb⟩; refine ⟨_, rfl, ?_⟩; replace hD := hD.mono hb; replace hDk := hDk.mono hb; replace hw := grow_trans hw hb; clear hb
    repeat' (first | (refine lw_pure rfl (pv_move rfl) ?_) | (refine is_cw ?_; first | (refine cw_seq ?_) | (refine cw_region ?_) | (refine cw_false rfl rfl ?_) | (refine cw_skip ?_)) | (refine is_qw ?_; first | (with_reducible refine qw_then ?_)) | (refine lw_nil ?_) | (refine is_guarded ?_; first | (refine lw_on rfl rfl rfl ?_)) | ((refine is_un ?_; first | (refine lw_pure rfl (pv_not rfl) ?_))) | (refine lw_pure rfl (pv_pick_f rfl rfl rfl) ?_))
    clear hD
    have hD := hDk
    clear hDk
    refine lw_call (f := 35) (by kernel_rfl) rfl rfl (create_is (n := sb) hD (by decide) rA5) ?_; clear hD; rintro e w1 ⟨rfl, hD, hG⟩; refine ⟨_, rfl, ?_⟩; replace hw := hG.below hw hN hB; clear hG
    repeat' (first | (refine lw_pure rfl (pv_move rfl) ?_) | (refine is_guarded ?_; first | (refine lw_on rfl rfl rfl ?_)) | ((refine is_bin ?_; first | (refine lw_pure rfl (pv_eql rfl rfl) ?_))))
    refine lw_call (f := 38) (by kernel_rfl) rfl rfl (rename_is (n := sa) (t := sb) hD (by decide) (by decide) rA6) ?_; clear hD; rintro e w1 ⟨rfl, hD, hG⟩; refine ⟨_, rfl, ?_⟩; replace hw := hG.below hw hN hB; clear hG
    repeat' (first | (refine lw_pure rfl (pv_move rfl) ?_) | (refine is_guarded ?_; first | (refine lw_on rfl rfl rfl ?_)) | ((refine is_bin ?_; first | (refine lw_pure rfl (pv_eql rfl rfl) ?_))) | (refine lw_pure rfl (pv_pick_t rfl rfl rfl) ?_))
    refine lw_call (f := 41) (by kernel_rfl) rfl rfl (one_is (n := sb) (p := sx) (r := syz) (c := true) hD (by decide +kernel)) ?_; rintro e w1 ⟨rfl, hb⟩; refine ⟨_, rfl, ?_⟩; replace hD := hD.mono hb; replace hw := grow_trans hw hb; clear hb
    repeat' (first | (refine lw_pure rfl (pv_move rfl) ?_) | (refine is_guarded ?_; first | (refine lw_on rfl rfl rfl ?_)) | (refine lw_pure rfl (pv_pick_t rfl rfl rfl) ?_))
    refine lw_call (f := 37) (by kernel_rfl) rfl rfl (trim_is (n := sb) hD (by decide) rA7) ?_; clear hD; rintro e w1 ⟨rfl, hD, hG⟩; refine ⟨_, rfl, ?_⟩; replace hw := hG.below hw hN hB; clear hG
    repeat' (first | (refine lw_pure rfl (pv_move rfl) ?_) | (refine is_guarded ?_; first | (refine lw_on rfl rfl rfl ?_)) | ((refine is_bin ?_; first | (refine lw_pure rfl (pv_eql rfl rfl) ?_))) | (refine lw_pure rfl (pv_pick_t rfl rfl rfl) ?_))
    refine lw_call (f := 41) (by kernel_rfl) rfl rfl (one_is (n := sb) (p := emptyB) (r := emptyB) (c := true) hD (by decide +kernel)) ?_; rintro e w1 ⟨rfl, hb⟩; refine ⟨_, rfl, ?_⟩; replace hD := hD.mono hb; replace hw := grow_trans hw hb; clear hb
    repeat' (first | (refine lw_pure rfl (pv_move rfl) ?_) | (refine is_guarded ?_; first | (refine lw_on rfl rfl rfl ?_)) | (refine lw_pure rfl (pv_pick_t rfl rfl rfl) ?_))
    refine lw_call (f := 35) (by kernel_rfl) rfl rfl (create_is (n := sab) hD (by decide) rA8) ?_; clear hD; rintro e w1 ⟨rfl, hD, hG⟩; refine ⟨_, rfl, ?_⟩; replace hw := hG.below hw hN hB; clear hG
    repeat' (first | (refine lw_pure rfl (pv_assign rfl) ?_) | (refine is_cw ?_; first | (refine cw_ret ?_)) | (refine is_qw ?_; first | (with_reducible refine qw_then ?_)) | (refine lw_nil ?_) | (refine is_guarded ?_; first | (refine lw_on rfl rfl rfl ?_)) | ((refine is_bin ?_; first | (refine lw_pure rfl (pv_eql rfl rfl) ?_))) | (refine lw_pure rfl (pv_pick_t rfl rfl rfl) ?_))
    exact qw_ret1 rfl rfl ⟨rfl, hw⟩

theorem is_seqr {P : Program} {n : Nat} {l : Fr} {w : World} {Q : Exit → Act → World → Prop} (i : Nat) {ops : Array Oper} {d : Bool} {y : Code} (h : CW P n (.seq (.region i ops d) y) Q l w) : CW P n (.seq (.region i ops d) y) Q l w := h
theorem free0 {cap : Int} (h : 0 ≤ cap) (h2 : cap ≤ 9223372036854775807) : Free ⟨[], cap, -1, false⟩ := ⟨⟨List.Pairwise.nil, fun f hf => (by cases hf), fun f hf => (by cases hf), (by simp), (by simpa [usedF] using h), h2, (by show (-1 : Int) ≤ -1; omega), (by show (-1 : Int) ≤ 9223372036854775807; omega)⟩, rfl, rfl⟩
theorem free_is {d : Dsk} (h : Free d) {c : Int} (hc : d.cap = c) : (⟨d.fs, c, -1, false⟩ : Dsk) = d := by
  rw [dsk_ext]; exact ⟨rfl, hc.symm, h.left.symm, h.up.symm⟩
theorem same_is {w : World} {N1 B1 N2 B2 : Nat} {a b : Dsk} {c : Bool} (h1 : DkW w N1 B1 a) (h2 : DkW w N2 B2 b) (hr : decide (a = b) = c) : Calls Tryd.prog 26 #[.pointer (some ⟨N1, 0, none⟩), .pointer (some ⟨N2, 0, none⟩)] w fun e w' => e = .returned (.bool c) ∧ Below w.heap.size w w' := by
  have := same_c h1 h2; rw [hr] at this; exact this
theorem load_is {w : World} {cap : Int} {l : List Fil} {n ca : Nat} {a : Option Addr} (hO : SlR encF 3 w a ca l) (hn : l.length = n) (hcap : cap ≤ 9223372036854775807) (hs : ∀ f ∈ l, nameF f.name = true ∧ szF f ≤ 1048576) (hr : loadD cap l = (0, ⟨l, cap, -1, false⟩)) : Calls Tryd.prog 21 #[.int .i64 cap, .slice a n ca] w fun e w' => (∃ N B, e = .returned (.tuple #[.pointer (some ⟨N, 0, none⟩), .int .i64 0]) ∧ w.heap.size ≤ N ∧ w.heap.size ≤ B ∧ DkW w' N B ⟨l, cap, -1, false⟩) ∧ Below w.heap.size w w' := by
  refine (load_c hn hcap (fun f hf => ?_) hO).mono ?_
  · obtain ⟨h1, h2⟩ := hs f hf
    unfold nameF at h1
    simp only [Bool.and_eq_true, decide_eq_true_eq] at h1
    unfold szF at h2
    omega
  · rintro e w' ⟨hL, hb⟩
    rcases hL with ⟨h1, _⟩ | ⟨_, h2⟩
    · rw [hr] at h1; exact absurd rfl h1
    · exact ⟨h2, hb⟩

section
variable {P : Program} {n : Nat} {l : Fr} {w : World} {d : Option Nat} {ty : TypeId} {pos : String} {af : Array Edge} {g : Option (Nat × Bool)} {t t' : TypeId} {x y : Operand}
theorem pv_predn {i : Nat} (hx : ev l x = some (.int .i64 ((i + 1 : Nat) : Int))) (hy : ev l y = some (.int .i64 1)) (h : i < 9223372036854775807) : Pv P n l ⟨d, .binOp .sub t x y t', ty, pos, af, g⟩ (.int .i64 (i : Nat)) w := by
  have e : ((i + 1 : Nat) : Int) - 1 = (i : Int) := by omega
  have := pv_sub (P := P) (n := n) (w := w) (d := d) (ty := ty) (pos := pos) (af := af) (g := g) (t := t) (t' := t') hx hy (by omega)
  rwa [e] at this
end
theorem usedT {l : List Fil} {k : Nat} {f : Fil} (h : l[k]? = some f) : usedF (l.take (k + 1)) = usedF (l.take k) + szF f := by
  rw [List.take_add_one, h, usedF_append]
  show _ + usedF [f] = _
  rw [usedF_cons]
  rfl
theorem usedT_le (l : List Fil) (k : Nat) : usedF (l.take k) ≤ usedF l := by
  have : usedF l = usedF (l.take k) + usedF (l.drop k) := by rw [← usedF_append, List.take_append_drop]
  omega
set_option maxRecDepth 20000 in
set_option maxHeartbeats 8000000 in
theorem rname_c {s : ByteArray} (hs : s.size ≤ 9223372036854775807) (w : World) : Calls Tryd.prog 24 #[.string s] w fun e w' => e = .returned (.bool (nameF s)) ∧ Below w.heap.size w w' := by
  have hw := Below.refl w.heap.size w
  refine fn_enter 57 Tryd.func24 rfl rfl rfl ?_
  repeat' (first | (refine lw_pure rfl (pv_assign rfl) ?_) | (refine is_cw ?_; first | (refine cw_seq ?_) | (refine cw_region ?_) | (refine cw_block ?_)) | (refine is_qw ?_; first | (with_reducible refine qw_then ?_)) | (refine lw_nil ?_))
  refine cw_loop (σ := Nat) (fun k => [(0, .string s), (3, .int .i64 (k : Nat))]) (fun k wr => k ≤ s.size ∧ Below w.heap.size w wr ∧ ∀ b ∈ (bytesI s).take k, letB b = true) (fun k => s.size - k) 0 (by repeat' (first | exact trivial | refine ⟨rfl, ?_⟩)) ⟨Nat.zero_le _, hw, fun b hb => by simp at hb⟩ ?_
  clear hw
  rintro k wr ⟨hk, hw, hgd⟩
  by_cases hlt : k < s.size
  · have hbb := bytesI_bd s _ (bt_mem hlt)
    by_cases hq : letB (bt s k) = true
    · have hgd2 : ∀ b ∈ (bytesI s).take (k + 1), letB b = true := fun b hb => by
        rw [bytesI_take s hlt] at hb
        rcases List.mem_append.1 hb with h1 | h1
        · exact hgd b h1
        · rw [List.mem_singleton] at h1; rw [h1]; exact hq
      have hq2 := of_decide_eq_true hq
      rcases hq2 with ⟨h1, h2⟩ | ⟨h1, h2⟩ | ⟨h1, h2⟩ | h1 | h1 | h1
      all_goals
        repeat' (first | (refine lw_pure rfl (pv_move rfl) ?_) | (refine lw_pure rfl (pv_assign rfl) ?_) | (refine is_cw ?_; first | (refine cw_seq ?_) | (refine cw_region ?_) | (refine cw_false rfl rfl ?_) | (refine cw_true rfl (by first | assumption | exact decide_eq_true (by omega) | exact dec_notT (by omega)) ?_) | (refine cw_false rfl (by first | assumption | exact decide_eq_false (by omega) | exact dec_notF (by omega)) ?_) | (refine cw_skip ?_) | (refine cw_block ?_)) | (refine is_qw ?_; first | (with_reducible refine qw_then ?_) | (with_reducible refine qw_in ?_)) | (refine lw_nil ?_) | (refine is_guarded ?_; first | (refine lw_not rfl rfl rfl rfl ?_) | (refine lw_not_u rfl rfl rfl ?_) | (refine lw_on rfl rfl rfl ?_) | (refine lw_on rfl rfl (by first | assumption | exact decide_eq_true (by omega) | exact decide_eq_false (by omega) | exact dec_notT (by omega) | exact dec_notF (by omega)) ?_) | (refine lw_not rfl rfl rfl (by first | assumption | exact decide_eq_true (by omega) | exact decide_eq_false (by omega) | exact dec_notT (by omega) | exact dec_notF (by omega)) ?_)) | ((refine is_bin ?_; first | (refine lw_pure rfl (pv_lss rfl rfl) ?_) | (refine lw_pure rfl (pv_eql rfl rfl) ?_) | (refine lw_pure rfl (pv_leq rfl rfl) ?_) | (refine lw_pure rfl (pv_geq rfl rfl) ?_) | (refine lw_pure rfl (pv_inc rfl rfl (by omega)) ?_))) | ((refine is_un ?_; first | (refine lw_pure rfl (pv_not rfl) ?_))) | ((refine is_bi ?_; first | (refine lw_pure rfl (pv_lens (tStr rfl) rfl) ?_))) | (refine lw_pure rfl (pv_sidx (tStr rfl) rfl rfl (by omega)) ?_) | (refine lw_pure rfl (pv_pick_t rfl rfl rfl) ?_) | (refine lw_pure rfl (pv_pick_f rfl rfl rfl) ?_) | (refine lw_pure rfl (pv_pick_t rfl (by first | assumption | exact decide_eq_true (by omega) | exact dec_notT (by omega)) rfl) ?_) | (refine lw_pure rfl (pv_pick_f rfl (by first | assumption | exact decide_eq_false (by omega) | exact dec_notF (by omega)) rfl) ?_))
        exact qw_round (k + 1) (by repeat' (first | exact trivial | refine ⟨rfl, ?_⟩)) ⟨by show k + 1 ≤ _; omega, hw, hgd2⟩ (by show s.size - (k + 1) < s.size - k; omega)
    · have e : nameF s = false := by
        unfold nameF
        rw [Bool.and_eq_false_iff]
        refine Or.inr ?_
        rw [List.all_eq_false]
        exact ⟨_, bt_mem hlt, hq⟩
      have hq2 : ¬ ((97 ≤ bt s k ∧ bt s k ≤ 122) ∨ (65 ≤ bt s k ∧ bt s k ≤ 90) ∨ (48 ≤ bt s k ∧ bt s k ≤ 57) ∨ bt s k = 45 ∨ bt s k = 95 ∨ bt s k = 46) := fun h => hq (decide_eq_true h)
      rw [e]
      repeat' (first | (refine lw_pure rfl (pv_move rfl) ?_) | (refine lw_pure rfl (pv_assign rfl) ?_) | (refine is_cw ?_; first | (refine cw_seq ?_) | (refine cw_region ?_) | (refine cw_true rfl (by first | assumption | exact decide_eq_true (by omega) | exact dec_notT (by omega)) ?_) | (refine cw_skip ?_) | (refine cw_block ?_) | (refine cw_ret ?_)) | (refine is_qw ?_; first | (with_reducible refine qw_then ?_) | (with_reducible refine qw_then_ret ?_) | (with_reducible refine qw_in_ret ?_)) | (refine lw_nil ?_) | (refine is_guarded ?_; first | (refine lw_on rfl rfl rfl ?_) | (refine lw_on rfl rfl (by first | assumption | exact decide_eq_true (by omega) | exact decide_eq_false (by omega) | exact dec_notT (by omega) | exact dec_notF (by omega)) ?_) | (refine lw_not rfl rfl rfl (by first | assumption | exact decide_eq_true (by omega) | exact decide_eq_false (by omega) | exact dec_notT (by omega) | exact dec_notF (by omega)) ?_) | (refine lw_gs_t rfl rfl rfl (fun hc => ?_) (fun hc => ?_) <;> (first | replace hc := of_decide_eq_true hc | replace hc := of_decide_eq_false hc | replace hc := dec_nT hc | replace hc := dec_nF hc | skip) <;> (try (exfalso; omega)))) | ((refine is_bin ?_; first | (refine lw_pure rfl (pv_lss rfl rfl) ?_) | (refine lw_pure rfl (pv_eql rfl rfl) ?_) | (refine lw_pure rfl (pv_leq rfl rfl) ?_) | (refine lw_pure rfl (pv_geq rfl rfl) ?_))) | ((refine is_un ?_; first | (refine lw_pure rfl (pv_not rfl) ?_))) | ((refine is_bi ?_; first | (refine lw_pure rfl (pv_lens (tStr rfl) rfl) ?_))) | (refine lw_pure rfl (pv_sidx (tStr rfl) rfl rfl (by omega)) ?_) | (refine lw_pure rfl (pv_pick_f rfl rfl rfl) ?_) | (refine lw_pure rfl (pv_pick_t rfl (by first | assumption | exact decide_eq_true (by omega) | exact dec_notT (by omega)) rfl) ?_) | (refine lw_pure rfl (pv_pick_f rfl (by first | assumption | exact decide_eq_false (by omega) | exact dec_notF (by omega)) rfl) ?_))
      all_goals exact qw_ret1 rfl rfl ⟨rfl, hw⟩
  · have hkl : k = s.size := by omega
    subst hkl
    have ha : (bytesI s).all letB = true := by
      rw [← bytesI_len, List.take_length] at hgd
      exact List.all_eq_true.2 hgd
    by_cases h1 : 1 ≤ s.size ∧ s.size ≤ 24
    · have e : nameF s = true := by unfold nameF; rw [ha, decide_eq_true h1]; rfl
      obtain ⟨h2, h3⟩ := h1
      rw [e]
      repeat' (first | (refine lw_pure rfl (pv_move rfl) ?_) | (refine lw_pure rfl (pv_assign rfl) ?_) | (refine is_cw ?_; first | (refine cw_seq ?_) | (refine cw_region ?_) | (refine cw_false rfl (by first | assumption | exact decide_eq_false (by omega) | exact dec_notF (by omega)) ?_) | (refine cw_exit ?_) | (refine cw_ret ?_)) | (refine is_qw ?_; first | (with_reducible refine qw_then ?_) | (with_reducible refine qw_in_hit ?_) | (with_reducible refine qw_then_exit ?_)) | (refine lw_nil ?_) | (refine is_guarded ?_; first | (refine lw_on rfl rfl (by first | assumption | exact decide_eq_true (by omega) | exact decide_eq_false (by omega) | exact dec_notT (by omega) | exact dec_notF (by omega)) ?_)) | ((refine is_bin ?_; first | (refine lw_pure rfl (pv_lss rfl rfl) ?_) | (refine lw_pure rfl (pv_leq rfl rfl) ?_) | (refine lw_pure rfl (pv_gtr rfl rfl) ?_))) | ((refine is_bi ?_; first | (refine lw_pure rfl (pv_lens (tStr rfl) rfl) ?_))) | (refine lw_pure rfl (pv_pick_t rfl (by first | assumption | exact decide_eq_true (by omega) | exact dec_notT (by omega)) rfl) ?_))
      exact qw_ret1 rfl rfl ⟨by rw [decide_eq_true (show (s.size : Int) ≤ 24 by omega)], hw⟩
    · have e : nameF s = false := by unfold nameF; rw [decide_eq_false h1, Bool.false_and]
      rw [e]
      by_cases h2 : 0 < s.size
      · repeat' (first | (refine lw_pure rfl (pv_move rfl) ?_) | (refine lw_pure rfl (pv_assign rfl) ?_) | (refine is_cw ?_; first | (refine cw_seq ?_) | (refine cw_region ?_) | (refine cw_false rfl (by first | assumption | exact decide_eq_false (by omega) | exact dec_notF (by omega)) ?_) | (refine cw_exit ?_) | (refine cw_ret ?_)) | (refine is_qw ?_; first | (with_reducible refine qw_then ?_) | (with_reducible refine qw_in_hit ?_) | (with_reducible refine qw_then_exit ?_)) | (refine lw_nil ?_) | (refine is_guarded ?_; first | (refine lw_on rfl rfl (by first | assumption | exact decide_eq_true (by omega) | exact decide_eq_false (by omega) | exact dec_notT (by omega) | exact dec_notF (by omega)) ?_)) | ((refine is_bin ?_; first | (refine lw_pure rfl (pv_lss rfl rfl) ?_) | (refine lw_pure rfl (pv_leq rfl rfl) ?_) | (refine lw_pure rfl (pv_gtr rfl rfl) ?_))) | ((refine is_bi ?_; first | (refine lw_pure rfl (pv_lens (tStr rfl) rfl) ?_))) | (refine lw_pure rfl (pv_pick_t rfl (by first | assumption | exact decide_eq_true (by omega) | exact dec_notT (by omega)) rfl) ?_))
        exact qw_ret1 rfl rfl ⟨by rw [decide_eq_false (show ¬ (s.size : Int) ≤ 24 by omega)], hw⟩
      · repeat' (first | (refine lw_pure rfl (pv_move rfl) ?_) | (refine lw_pure rfl (pv_assign rfl) ?_) | (refine is_cw ?_; first | (refine cw_seq ?_) | (refine cw_region ?_) | (refine cw_false rfl (by first | assumption | exact decide_eq_false (by omega) | exact dec_notF (by omega)) ?_) | (refine cw_exit ?_) | (refine cw_ret ?_)) | (refine is_qw ?_; first | (with_reducible refine qw_then ?_) | (with_reducible refine qw_in_hit ?_) | (with_reducible refine qw_then_exit ?_)) | (refine lw_nil ?_) | (refine is_guarded ?_; first | (refine lw_not rfl rfl rfl (by first | assumption | exact decide_eq_true (by omega) | exact decide_eq_false (by omega) | exact dec_notT (by omega) | exact dec_notF (by omega)) ?_)) | ((refine is_bin ?_; first | (refine lw_pure rfl (pv_lss rfl rfl) ?_) | (refine lw_pure rfl (pv_gtr rfl rfl) ?_))) | ((refine is_bi ?_; first | (refine lw_pure rfl (pv_lens (tStr rfl) rfl) ?_))) | (refine lw_pure rfl (pv_pick_f rfl (by first | assumption | exact decide_eq_false (by omega) | exact dec_notF (by omega)) rfl) ?_))
        exact qw_ret1 rfl rfl ⟨rfl, hw⟩
theorem rname_is {s : ByteArray} {b : Bool} (hs : s.size ≤ 9223372036854775807) (hb : nameF s = b) (w : World) : Calls Tryd.prog 24 #[.string s] w fun e w' => e = .returned (.bool b) ∧ Below w.heap.size w w' := by
  have := rname_c hs w
  rwa [hb] at this
set_option maxRecDepth 20000 in
theorem rused_c {w : World} {base N : Nat} {v : Value} {d : Dsk} (h : RkW w base N v d) : Calls Tryd.prog 46 #[.pointer (some ⟨N, 0, none⟩)] w fun e w' => e = .returned (.int .i64 (usedF d.fs : Nat)) ∧ Below w.heap.size w w' := by
  obtain ⟨a, c, rfl, HS, -⟩ := Own.slR encF_len h.own
  have H := h.obj
  have hus := h.ok.used
  have hcp := h.ok.cap
  have hmx := HS.max
  have hle := HS.le
  have hw := Below.refl w.heap.size w
  refine fn_enter 36 Tryd.func46 rfl rfl rfl ?_
  repeat' (first | (refine lw_pure rfl (pv_assign rfl) ?_) | (refine is_cw ?_; first | (refine cw_seq ?_) | (refine cw_region ?_) | (refine cw_block ?_)) | (refine is_qw ?_; first | (with_reducible refine qw_then ?_)) | (refine lw_nil ?_))
  refine cw_loop (σ := Nat × Nat) (fun s => [(0, .pointer (some ⟨N, 0, none⟩)), (3, .int .i64 (s.2 : Nat)), (4, .int .i64 (s.1 : Nat))]) (fun s wr => s.1 ≤ d.fs.length ∧ s.2 = usedF (d.fs.take s.1) ∧ Below w.heap.size w wr) (fun s => d.fs.length - s.1) (0, 0) (by repeat' (first | exact trivial | refine ⟨rfl, ?_⟩)) ⟨Nat.zero_le _, rfl, hw⟩ ?_
  clear hw
  rintro ⟨k, n⟩ wr ⟨hk, hn, hw⟩
  replace hk : k ≤ d.fs.length := hk
  replace hn : n = usedF (d.fs.take k) := hn
  change CW Tryd.prog _ _ _ [(0, .pointer (some ⟨N, 0, none⟩)), (3, .int .i64 (n : Nat)), (4, .int .i64 (k : Nat))] wr
  by_cases hlt : k < d.fs.length
  · have hxk : d.fs[k]? = some d.fs[k] := List.getElem?_eq_getElem hlt
    generalize d.fs[k] = f at hxk
    have hut := usedT hxk
    have hul := usedT_le d.fs (k + 1)
    have hsf : szF f = f.firm.size + f.pend.size := rfl
    obtain ⟨ab, ao, rfl, -, -⟩ := HS.at (by intro h; rw [h] at hlt; simp at hlt)
    repeat' (first | (refine lw_pure rfl (pv_move rfl) ?_) | (refine is_cw ?_; first | (refine cw_seq ?_) | (refine cw_region ?_) | (refine cw_true rfl (by first | assumption | exact decide_eq_true (by omega) | exact dec_notT (by omega)) ?_) | (refine cw_skip ?_) | (refine cw_block ?_)) | (refine is_qw ?_; first | (with_reducible refine qw_then ?_)) | (refine lw_nil ?_) | ((refine is_bin ?_; first | (refine lw_pure rfl (pv_lss rfl rfl) ?_))) | ((refine is_load ?_; first | (refine lw_pure rfl (pv_load (t1 rfl) rfl (by first | exact PT.ld0 (H.mono hw) rfl | exact PT.ld (H.mono hw) rfl)) ?_))) | ((refine is_fa ?_; first | (refine lw_pure rfl (pv_fa (tF rfl) rfl) ?_))) | ((refine is_bi ?_; first | (refine lw_pure rfl (pv_lenl (tS rfl) rfl) ?_))) | (refine lw_pure rfl (pv_nilp rfl) ?_))
    refine cw_drawn (fun w' => Below w.heap.size w w') (by kernel_rfl) (by repeat (first | exact NoPanic.body | with_reducible refine NoPanic.then ?_ | with_reducible refine NoPanic.inBlock ?_)) (fun hNP => ?_)
    have hS := hw.drew
    all_goals (refine at0 0 rfl (fun w' hq => pv_move rfl) ?_)
    all_goals (refine at0 1 rfl (fun w' hq => pv_move rfl) ?_)
    all_goals (refine at0 2 rfl (fun w' hq => pv_nilp rfl) ?_)
    all_goals (refine at0 3 rfl (fun w' hq => pv_fa (tF rfl) rfl) ?_)
    all_goals (refine at0 4 rfl (fun w' hq => pv_load (t1 rfl) rfl (by first | exact PT.ld0 (H.mono hq) rfl | exact PT.ld (H.mono hq) rfl | exact SlR.ld (HS.mono hq) hxk rfl | exact SlR.ld1 (HS.mono hq) hxk rfl)) ?_)
    all_goals (refine at0 5 rfl (fun w' hq => pv_move rfl) ?_)
    all_goals (refine at0 6 rfl (fun w' hq => pv_ian (tS rfl) rfl rfl (by omega)) ?_)
    all_goals (refine at0 7 rfl (fun w' hq => pv_fa (tF rfl) rfl) ?_)
    all_goals (refine at0 8 rfl (fun w' hq => pv_load (t1 rfl) rfl (by first | exact PT.ld0 (H.mono hq) rfl | exact PT.ld (H.mono hq) rfl | exact SlR.ld (HS.mono hq) hxk rfl | exact SlR.ld1 (HS.mono hq) hxk rfl)) ?_)
    all_goals (refine at0 9 rfl (fun w' hq => pv_lens (tStr rfl) rfl) ?_)
    all_goals (refine at0 10 rfl (fun w' hq => pv_add rfl rfl (by omega)) ?_)
    all_goals (refine at0 11 rfl (fun w' hq => pv_move rfl) ?_)
    all_goals (refine at0 12 rfl (fun w' hq => pv_nilp rfl) ?_)
    all_goals (refine at0 13 rfl (fun w' hq => pv_fa (tF rfl) rfl) ?_)
    all_goals (refine at0 14 rfl (fun w' hq => pv_load (t1 rfl) rfl (by first | exact PT.ld0 (H.mono hq) rfl | exact PT.ld (H.mono hq) rfl | exact SlR.ld (HS.mono hq) hxk rfl | exact SlR.ld1 (HS.mono hq) hxk rfl)) ?_)
    all_goals (refine at0 15 rfl (fun w' hq => pv_move rfl) ?_)
    all_goals (refine at0 16 rfl (fun w' hq => pv_ian (tS rfl) rfl rfl (by omega)) ?_)
    all_goals (refine at0 17 rfl (fun w' hq => pv_fa (tF rfl) rfl) ?_)
    all_goals (refine at0 18 rfl (fun w' hq => pv_load (t1 rfl) rfl (by first | exact PT.ld0 (H.mono hq) rfl | exact PT.ld (H.mono hq) rfl | exact SlR.ld (HS.mono hq) hxk rfl | exact SlR.ld1 (HS.mono hq) hxk rfl)) ?_)
    all_goals (refine at0 19 rfl (fun w' hq => pv_lens (tStr rfl) rfl) ?_)
    all_goals (refine at0 20 rfl (fun w' hq => pv_add rfl rfl (by omega)) ?_)
    all_goals (refine at0 21 rfl (fun w' hq => pv_assign rfl) ?_)
    all_goals (refine aw_done (by kernel_rfl) ?_; replace hw := hS; clear hS hNP)
    repeat' (first | (refine lw_pure rfl (pv_move rfl) ?_) | (refine lw_pure rfl (pv_assign rfl) ?_) | (refine is_cw ?_; first | (refine cw_region ?_)) | (refine is_qw ?_; first | (with_reducible refine qw_then ?_) | (with_reducible refine qw_in ?_)) | (refine lw_nil ?_) | ((refine is_bin ?_; first | (refine lw_pure rfl (pv_inc rfl rfl (by omega)) ?_))))
    exact qw_round (k + 1, n + f.firm.size + f.pend.size) (by repeat' (first | exact trivial | refine ⟨rfl, ?_⟩)) ⟨by show k + 1 ≤ _; omega, by show n + f.firm.size + f.pend.size = usedF (d.fs.take (k + 1)); omega, hw⟩ (by show d.fs.length - (k + 1) < d.fs.length - k; omega)
  · have hkl : k = d.fs.length := by omega
    subst hkl
    rw [List.take_length] at hn
    subst hn
    repeat' (first | (refine lw_pure rfl (pv_move rfl) ?_) | (refine lw_pure rfl (pv_assign rfl) ?_) | (refine is_cw ?_; first | (refine cw_seq ?_) | (refine cw_region ?_) | (refine cw_false rfl (by first | assumption | exact decide_eq_false (by omega) | exact dec_notF (by omega)) ?_) | (refine cw_exit ?_) | (refine cw_ret ?_)) | (refine is_qw ?_; first | (with_reducible refine qw_then ?_) | (with_reducible refine qw_in_hit ?_) | (with_reducible refine qw_then_exit ?_)) | (refine lw_nil ?_) | ((refine is_bin ?_; first | (refine lw_pure rfl (pv_lss rfl rfl) ?_))) | ((refine is_load ?_; first | (refine lw_pure rfl (pv_load (t1 rfl) rfl (by first | exact PT.ld0 (H.mono hw) rfl | exact PT.ld (H.mono hw) rfl)) ?_))) | ((refine is_fa ?_; first | (refine lw_pure rfl (pv_fa (tF rfl) rfl) ?_))) | ((refine is_bi ?_; first | (refine lw_pure rfl (pv_lenl (tS rfl) rfl) ?_))) | (refine lw_pure rfl (pv_nilp rfl) ?_))
    exact qw_ret1 rfl rfl ⟨rfl, hw⟩
set_option maxRecDepth 20000 in
theorem rsame_c {w : World} {b1 b2 N1 N2 : Nat} {v1 v2 : Value} {a b : Dsk} (h1 : RkW w b1 N1 v1 a) (h2 : RkW w b2 N2 v2 b) : Calls Tryd.prog 27 #[.pointer (some ⟨N1, 0, none⟩), .pointer (some ⟨N2, 0, none⟩)] w fun e w' => e = .returned (.bool (decide (a = b))) ∧ Below w.heap.size w w' := by
  obtain ⟨a1, c1, rfl, HA, -⟩ := Own.slR encF_len h1.own
  obtain ⟨a2, c2, rfl, HB, -⟩ := Own.slR encF_len h2.own
  have H1 := h1.obj
  have H2 := h2.obj
  have hw := Below.refl w.heap.size w
  refine fn_enter 47 Tryd.func27 rfl rfl rfl ?_
  repeat' (first | (refine lw_pure rfl (pv_assign rfl) ?_) | (refine is_cw ?_; first | (refine cw_seq ?_) | (refine cw_region ?_)) | (refine is_qw ?_; first | (with_reducible refine qw_then ?_)) | (refine lw_nil ?_))
  by_cases hc : a.cap = b.cap
  · by_cases hl : a.left = b.left
    · cases hd : (a.dark == b.dark) with
      | true =>
        have hd2 : a.dark = b.dark := by simpa using hd
        have e : decide (a = b) = decide (a.fs = b.fs) := by rw [decide_eq_decide, dsk_ext]; exact ⟨fun h => h.1, fun h => ⟨h, hc, hl, hd2⟩⟩
        rw [e]
        refine cw_drawn (fun w' => Below w.heap.size w w') (by kernel_rfl) (by repeat (first | exact NoPanic.body | with_reducible refine NoPanic.then ?_ | with_reducible refine NoPanic.inBlock ?_)) (fun hNP => ?_)
        have hS := hw.drew
        all_goals (refine at0 0 rfl (fun w' hq => pv_move rfl) ?_)
        all_goals (refine at0 1 rfl (fun w' hq => pv_nilp rfl) ?_)
        all_goals (refine at0 2 rfl (fun w' hq => pv_fa (tF rfl) rfl) ?_)
        all_goals (refine at0 3 rfl (fun w' hq => pv_load (t1 rfl) rfl (by first | exact PT.ld0 (H1.mono hq) rfl | exact PT.ld (H1.mono hq) rfl | exact PT.ld0 (H2.mono hq) rfl | exact PT.ld (H2.mono hq) rfl)) ?_)
        all_goals (refine at0 4 rfl (fun w' hq => pv_move rfl) ?_)
        all_goals (refine at0 5 rfl (fun w' hq => pv_nilp rfl) ?_)
        all_goals (refine at0 6 rfl (fun w' hq => pv_fa (tF rfl) rfl) ?_)
        all_goals (refine at0 7 rfl (fun w' hq => pv_load (t1 rfl) rfl (by first | exact PT.ld0 (H1.mono hq) rfl | exact PT.ld (H1.mono hq) rfl | exact PT.ld0 (H2.mono hq) rfl | exact PT.ld (H2.mono hq) rfl)) ?_)
        all_goals (refine at0 8 rfl (fun w' hq => pv_eql rfl rfl) ?_)
        all_goals (refine at0 9 rfl (fun w' hq => pv_move rfl) ?_)
        all_goals (refine at2 10 rfl rfl rfl (fun w' hq => pv_move rfl) ?_)
        all_goals (refine at2 11 rfl rfl rfl (fun w' hq => pv_nilp rfl) ?_)
        all_goals (refine at2 12 rfl rfl rfl (fun w' hq => pv_fa (tF rfl) rfl) ?_)
        all_goals (refine at2 13 rfl rfl rfl (fun w' hq => pv_load (t1 rfl) rfl (by first | exact PT.ld0 (H1.mono hq) rfl | exact PT.ld (H1.mono hq) rfl | exact PT.ld0 (H2.mono hq) rfl | exact PT.ld (H2.mono hq) rfl)) ?_)
        all_goals (refine at2 14 rfl rfl rfl (fun w' hq => pv_move rfl) ?_)
        all_goals (refine at2 15 rfl rfl rfl (fun w' hq => pv_nilp rfl) ?_)
        all_goals (refine at2 16 rfl rfl rfl (fun w' hq => pv_fa (tF rfl) rfl) ?_)
        all_goals (refine at2 17 rfl rfl rfl (fun w' hq => pv_load (t1 rfl) rfl (by first | exact PT.ld0 (H1.mono hq) rfl | exact PT.ld (H1.mono hq) rfl | exact PT.ld0 (H2.mono hq) rfl | exact PT.ld (H2.mono hq) rfl)) ?_)
        all_goals (refine at2 18 rfl rfl rfl (fun w' hq => pv_eql rfl rfl) ?_)
        all_goals (refine at0 19 rfl (fun w' hq => pv_pick_t rfl (by first | assumption | exact decide_eq_true (by omega) | exact dec_notT (by omega)) rfl) ?_)
        all_goals (refine at0 20 rfl (fun w' hq => pv_move rfl) ?_)
        all_goals (refine at2 21 rfl rfl rfl (fun w' hq => pv_move rfl) ?_)
        all_goals (refine at2 22 rfl rfl rfl (fun w' hq => pv_nilp rfl) ?_)
        all_goals (refine at2 23 rfl rfl rfl (fun w' hq => pv_fa (tF rfl) rfl) ?_)
        all_goals (refine at2 24 rfl rfl rfl (fun w' hq => pv_load (t1 rfl) rfl (by first | exact PT.ld0 (H1.mono hq) rfl | exact PT.ld (H1.mono hq) rfl | exact PT.ld0 (H2.mono hq) rfl | exact PT.ld (H2.mono hq) rfl)) ?_)
        all_goals (refine at2 25 rfl rfl rfl (fun w' hq => pv_move rfl) ?_)
        all_goals (refine at2 26 rfl rfl rfl (fun w' hq => pv_nilp rfl) ?_)
        all_goals (refine at2 27 rfl rfl rfl (fun w' hq => pv_fa (tF rfl) rfl) ?_)
        all_goals (refine at2 28 rfl rfl rfl (fun w' hq => pv_load (t1 rfl) rfl (by first | exact PT.ld0 (H1.mono hq) rfl | exact PT.ld (H1.mono hq) rfl | exact PT.ld0 (H2.mono hq) rfl | exact PT.ld (H2.mono hq) rfl)) ?_)
        all_goals (refine at2 29 rfl rfl rfl (fun w' hq => pv_beql (tBo rfl) rfl rfl) ?_)
        all_goals (refine at0 30 rfl (fun w' hq => pv_pick_t rfl (by first | assumption | exact decide_eq_true (by omega) | exact dec_notT (by omega)) rfl) ?_)
        all_goals (refine at0 31 rfl (fun w' hq => pv_move rfl) ?_)
        all_goals (refine at2 32 rfl rfl rfl (fun w' hq => pv_move rfl) ?_)
        all_goals (refine at2 33 rfl rfl rfl (fun w' hq => pv_nilp rfl) ?_)
        all_goals (refine at2 34 rfl rfl rfl (fun w' hq => pv_fa (tF rfl) rfl) ?_)
        all_goals (refine at2 35 rfl rfl rfl (fun w' hq => pv_load (t1 rfl) rfl (by first | exact PT.ld0 (H1.mono hq) rfl | exact PT.ld (H1.mono hq) rfl | exact PT.ld0 (H2.mono hq) rfl | exact PT.ld (H2.mono hq) rfl)) ?_)
        all_goals (refine at2 36 rfl rfl rfl (fun w' hq => pv_move rfl) ?_)
        all_goals (refine at2 37 rfl rfl rfl (fun w' hq => pv_nilp rfl) ?_)
        all_goals (refine at2 38 rfl rfl rfl (fun w' hq => pv_fa (tF rfl) rfl) ?_)
        all_goals (refine at2 39 rfl rfl rfl (fun w' hq => pv_load (t1 rfl) rfl (by first | exact PT.ld0 (H1.mono hq) rfl | exact PT.ld (H1.mono hq) rfl | exact PT.ld0 (H2.mono hq) rfl | exact PT.ld (H2.mono hq) rfl)) ?_)
        all_goals first | (refine an3 40 rfl rfl rfl ?_) | (refine an0 40 rfl rfl rfl ?_) | (refine aw_act_g 40 (by kernel_rfl) rfl rfl rfl (by first | rfl | assumption | exact decide_eq_true (by omega) | exact decide_eq_false (by omega) | exact dec_notT (by omega) | exact dec_notF (by omega)) rfl ?_; refine act_call (f := 23) (by kernel_rfl) rfl (rfiles_c rfl rfl (HA.mono hS) (HB.mono hS)) ?_; rintro e w1 ⟨rfl, hb⟩; refine ⟨_, rfl, grow_trans hS hb, fun hS => ?_⟩)
        all_goals (refine at0 41 rfl (fun w' hq => pv_pick_t rfl (by first | assumption | exact decide_eq_true (by omega) | exact dec_notT (by omega)) rfl) ?_)
        all_goals (refine at0 42 rfl (fun w' hq => pv_assign rfl) ?_)
        all_goals (refine aw_done (by kernel_rfl) ?_; replace hw := hS; clear hS hNP)
        repeat' (first | (refine is_cw ?_; first | (refine cw_ret ?_)) | (refine is_qw ?_; first | (with_reducible refine qw_then ?_)))
        exact qw_ret1 rfl rfl ⟨rfl, hw⟩
      | false =>
        have hne : ¬ a = b := fun e => by rw [e] at hd; simp at hd
        rw [decide_eq_false hne]
        refine cw_drawn (fun w' => Below w.heap.size w w') (by kernel_rfl) (by repeat (first | exact NoPanic.body | with_reducible refine NoPanic.then ?_ | with_reducible refine NoPanic.inBlock ?_)) (fun hNP => ?_)
        have hS := hw.drew
        all_goals (refine at0 0 rfl (fun w' hq => pv_move rfl) ?_)
        all_goals (refine at0 1 rfl (fun w' hq => pv_nilp rfl) ?_)
        all_goals (refine at0 2 rfl (fun w' hq => pv_fa (tF rfl) rfl) ?_)
        all_goals (refine at0 3 rfl (fun w' hq => pv_load (t1 rfl) rfl (by first | exact PT.ld0 (H1.mono hq) rfl | exact PT.ld (H1.mono hq) rfl | exact PT.ld0 (H2.mono hq) rfl | exact PT.ld (H2.mono hq) rfl)) ?_)
        all_goals (refine at0 4 rfl (fun w' hq => pv_move rfl) ?_)
        all_goals (refine at0 5 rfl (fun w' hq => pv_nilp rfl) ?_)
        all_goals (refine at0 6 rfl (fun w' hq => pv_fa (tF rfl) rfl) ?_)
        all_goals (refine at0 7 rfl (fun w' hq => pv_load (t1 rfl) rfl (by first | exact PT.ld0 (H1.mono hq) rfl | exact PT.ld (H1.mono hq) rfl | exact PT.ld0 (H2.mono hq) rfl | exact PT.ld (H2.mono hq) rfl)) ?_)
        all_goals (refine at0 8 rfl (fun w' hq => pv_eql rfl rfl) ?_)
        all_goals (refine at0 9 rfl (fun w' hq => pv_move rfl) ?_)
        all_goals (refine at2 10 rfl rfl rfl (fun w' hq => pv_move rfl) ?_)
        all_goals (refine at2 11 rfl rfl rfl (fun w' hq => pv_nilp rfl) ?_)
        all_goals (refine at2 12 rfl rfl rfl (fun w' hq => pv_fa (tF rfl) rfl) ?_)
        all_goals (refine at2 13 rfl rfl rfl (fun w' hq => pv_load (t1 rfl) rfl (by first | exact PT.ld0 (H1.mono hq) rfl | exact PT.ld (H1.mono hq) rfl | exact PT.ld0 (H2.mono hq) rfl | exact PT.ld (H2.mono hq) rfl)) ?_)
        all_goals (refine at2 14 rfl rfl rfl (fun w' hq => pv_move rfl) ?_)
        all_goals (refine at2 15 rfl rfl rfl (fun w' hq => pv_nilp rfl) ?_)
        all_goals (refine at2 16 rfl rfl rfl (fun w' hq => pv_fa (tF rfl) rfl) ?_)
        all_goals (refine at2 17 rfl rfl rfl (fun w' hq => pv_load (t1 rfl) rfl (by first | exact PT.ld0 (H1.mono hq) rfl | exact PT.ld (H1.mono hq) rfl | exact PT.ld0 (H2.mono hq) rfl | exact PT.ld (H2.mono hq) rfl)) ?_)
        all_goals (refine at2 18 rfl rfl rfl (fun w' hq => pv_eql rfl rfl) ?_)
        all_goals (refine at0 19 rfl (fun w' hq => pv_pick_t rfl (by first | assumption | exact decide_eq_true (by omega) | exact dec_notT (by omega)) rfl) ?_)
        all_goals (refine at0 20 rfl (fun w' hq => pv_move rfl) ?_)
        all_goals (refine at2 21 rfl rfl rfl (fun w' hq => pv_move rfl) ?_)
        all_goals (refine at2 22 rfl rfl rfl (fun w' hq => pv_nilp rfl) ?_)
        all_goals (refine at2 23 rfl rfl rfl (fun w' hq => pv_fa (tF rfl) rfl) ?_)
        all_goals (refine at2 24 rfl rfl rfl (fun w' hq => pv_load (t1 rfl) rfl (by first | exact PT.ld0 (H1.mono hq) rfl | exact PT.ld (H1.mono hq) rfl | exact PT.ld0 (H2.mono hq) rfl | exact PT.ld (H2.mono hq) rfl)) ?_)
        all_goals (refine at2 25 rfl rfl rfl (fun w' hq => pv_move rfl) ?_)
        all_goals (refine at2 26 rfl rfl rfl (fun w' hq => pv_nilp rfl) ?_)
        all_goals (refine at2 27 rfl rfl rfl (fun w' hq => pv_fa (tF rfl) rfl) ?_)
        all_goals (refine at2 28 rfl rfl rfl (fun w' hq => pv_load (t1 rfl) rfl (by first | exact PT.ld0 (H1.mono hq) rfl | exact PT.ld (H1.mono hq) rfl | exact PT.ld0 (H2.mono hq) rfl | exact PT.ld (H2.mono hq) rfl)) ?_)
        all_goals (refine at2 29 rfl rfl rfl (fun w' hq => pv_beql (tBo rfl) rfl rfl) ?_)
        all_goals (refine at0 30 rfl (fun w' hq => pv_pick_t rfl (by first | assumption | exact decide_eq_true (by omega) | exact dec_notT (by omega)) rfl) ?_)
        all_goals (refine at0 31 rfl (fun w' hq => pv_move rfl) ?_)
        all_goals (refine an2 32 rfl rfl rfl ?_)
        all_goals (refine an2 33 rfl rfl rfl ?_)
        all_goals (refine an2 34 rfl rfl rfl ?_)
        all_goals (refine an2 35 rfl rfl rfl ?_)
        all_goals (refine an2 36 rfl rfl rfl ?_)
        all_goals (refine an2 37 rfl rfl rfl ?_)
        all_goals (refine an2 38 rfl rfl rfl ?_)
        all_goals (refine an2 39 rfl rfl rfl ?_)
        all_goals first | (refine an3 40 rfl rfl rfl ?_) | (refine an0 40 rfl rfl rfl ?_) | (refine aw_act_g 40 (by kernel_rfl) rfl rfl rfl (by first | rfl | assumption | exact decide_eq_true (by omega) | exact decide_eq_false (by omega) | exact dec_notT (by omega) | exact dec_notF (by omega)) rfl ?_; refine act_call (f := 23) (by kernel_rfl) rfl (rfiles_c rfl rfl (HA.mono hS) (HB.mono hS)) ?_; rintro e w1 ⟨rfl, hb⟩; refine ⟨_, rfl, grow_trans hS hb, fun hS => ?_⟩)
        all_goals (refine at0 41 rfl (fun w' hq => pv_pick_f rfl (by first | assumption | exact decide_eq_false (by omega) | exact dec_notF (by omega)) rfl) ?_)
        all_goals (refine at0 42 rfl (fun w' hq => pv_assign rfl) ?_)
        all_goals (refine aw_done (by kernel_rfl) ?_; replace hw := hS; clear hS hNP)
        repeat' (first | (refine is_cw ?_; first | (refine cw_ret ?_)) | (refine is_qw ?_; first | (with_reducible refine qw_then ?_)))
        exact qw_ret1 rfl rfl ⟨rfl, hw⟩
    · have hne : ¬ a = b := fun e => hl (by rw [e])
      rw [decide_eq_false hne]
      refine cw_drawn (fun w' => Below w.heap.size w w') (by kernel_rfl) (by repeat (first | exact NoPanic.body | with_reducible refine NoPanic.then ?_ | with_reducible refine NoPanic.inBlock ?_)) (fun hNP => ?_)
      have hS := hw.drew
      all_goals (refine at0 0 rfl (fun w' hq => pv_move rfl) ?_)
      all_goals (refine at0 1 rfl (fun w' hq => pv_nilp rfl) ?_)
      all_goals (refine at0 2 rfl (fun w' hq => pv_fa (tF rfl) rfl) ?_)
      all_goals (refine at0 3 rfl (fun w' hq => pv_load (t1 rfl) rfl (by first | exact PT.ld0 (H1.mono hq) rfl | exact PT.ld (H1.mono hq) rfl | exact PT.ld0 (H2.mono hq) rfl | exact PT.ld (H2.mono hq) rfl)) ?_)
      all_goals (refine at0 4 rfl (fun w' hq => pv_move rfl) ?_)
      all_goals (refine at0 5 rfl (fun w' hq => pv_nilp rfl) ?_)
      all_goals (refine at0 6 rfl (fun w' hq => pv_fa (tF rfl) rfl) ?_)
      all_goals (refine at0 7 rfl (fun w' hq => pv_load (t1 rfl) rfl (by first | exact PT.ld0 (H1.mono hq) rfl | exact PT.ld (H1.mono hq) rfl | exact PT.ld0 (H2.mono hq) rfl | exact PT.ld (H2.mono hq) rfl)) ?_)
      all_goals (refine at0 8 rfl (fun w' hq => pv_eql rfl rfl) ?_)
      all_goals (refine at0 9 rfl (fun w' hq => pv_move rfl) ?_)
      all_goals (refine at2 10 rfl rfl rfl (fun w' hq => pv_move rfl) ?_)
      all_goals (refine at2 11 rfl rfl rfl (fun w' hq => pv_nilp rfl) ?_)
      all_goals (refine at2 12 rfl rfl rfl (fun w' hq => pv_fa (tF rfl) rfl) ?_)
      all_goals (refine at2 13 rfl rfl rfl (fun w' hq => pv_load (t1 rfl) rfl (by first | exact PT.ld0 (H1.mono hq) rfl | exact PT.ld (H1.mono hq) rfl | exact PT.ld0 (H2.mono hq) rfl | exact PT.ld (H2.mono hq) rfl)) ?_)
      all_goals (refine at2 14 rfl rfl rfl (fun w' hq => pv_move rfl) ?_)
      all_goals (refine at2 15 rfl rfl rfl (fun w' hq => pv_nilp rfl) ?_)
      all_goals (refine at2 16 rfl rfl rfl (fun w' hq => pv_fa (tF rfl) rfl) ?_)
      all_goals (refine at2 17 rfl rfl rfl (fun w' hq => pv_load (t1 rfl) rfl (by first | exact PT.ld0 (H1.mono hq) rfl | exact PT.ld (H1.mono hq) rfl | exact PT.ld0 (H2.mono hq) rfl | exact PT.ld (H2.mono hq) rfl)) ?_)
      all_goals (refine at2 18 rfl rfl rfl (fun w' hq => pv_eql rfl rfl) ?_)
      all_goals (refine at0 19 rfl (fun w' hq => pv_pick_t rfl (by first | assumption | exact decide_eq_true (by omega) | exact dec_notT (by omega)) rfl) ?_)
      all_goals (refine at0 20 rfl (fun w' hq => pv_move rfl) ?_)
      all_goals (refine an2 21 rfl rfl rfl ?_)
      all_goals (refine an2 22 rfl rfl rfl ?_)
      all_goals (refine an2 23 rfl rfl rfl ?_)
      all_goals (refine an2 24 rfl rfl rfl ?_)
      all_goals (refine an2 25 rfl rfl rfl ?_)
      all_goals (refine an2 26 rfl rfl rfl ?_)
      all_goals (refine an2 27 rfl rfl rfl ?_)
      all_goals (refine an2 28 rfl rfl rfl ?_)
      all_goals (refine an2 29 rfl rfl rfl ?_)
      all_goals (refine at0 30 rfl (fun w' hq => pv_pick_f rfl (by first | assumption | exact decide_eq_false (by omega) | exact dec_notF (by omega)) rfl) ?_)
      all_goals (refine at0 31 rfl (fun w' hq => pv_move rfl) ?_)
      all_goals (refine an1 32 rfl rfl rfl rfl ?_)
      all_goals (refine an1 33 rfl rfl rfl rfl ?_)
      all_goals (refine an1 34 rfl rfl rfl rfl ?_)
      all_goals (refine an1 35 rfl rfl rfl rfl ?_)
      all_goals (refine an1 36 rfl rfl rfl rfl ?_)
      all_goals (refine an1 37 rfl rfl rfl rfl ?_)
      all_goals (refine an1 38 rfl rfl rfl rfl ?_)
      all_goals (refine an1 39 rfl rfl rfl rfl ?_)
      all_goals first | (refine an3 40 rfl rfl rfl ?_) | (refine an0 40 rfl rfl rfl ?_) | (refine aw_act_g 40 (by kernel_rfl) rfl rfl rfl (by first | rfl | assumption | exact decide_eq_true (by omega) | exact decide_eq_false (by omega) | exact dec_notT (by omega) | exact dec_notF (by omega)) rfl ?_; refine act_call (f := 23) (by kernel_rfl) rfl (rfiles_c rfl rfl (HA.mono hS) (HB.mono hS)) ?_; rintro e w1 ⟨rfl, hb⟩; refine ⟨_, rfl, grow_trans hS hb, fun hS => ?_⟩)
      all_goals (refine at0 41 rfl (fun w' hq => pv_pick_f rfl rfl rfl) ?_)
      all_goals (refine at0 42 rfl (fun w' hq => pv_assign rfl) ?_)
      all_goals (refine aw_done (by kernel_rfl) ?_; replace hw := hS; clear hS hNP)
      repeat' (first | (refine is_cw ?_; first | (refine cw_ret ?_)) | (refine is_qw ?_; first | (with_reducible refine qw_then ?_)))
      exact qw_ret1 rfl rfl ⟨rfl, hw⟩
  · have hne : ¬ a = b := fun e => hc (by rw [e])
    rw [decide_eq_false hne]
    refine cw_drawn (fun w' => Below w.heap.size w w') (by kernel_rfl) (by repeat (first | exact NoPanic.body | with_reducible refine NoPanic.then ?_ | with_reducible refine NoPanic.inBlock ?_)) (fun hNP => ?_)
    have hS := hw.drew
    all_goals (refine at0 0 rfl (fun w' hq => pv_move rfl) ?_)
    all_goals (refine at0 1 rfl (fun w' hq => pv_nilp rfl) ?_)
    all_goals (refine at0 2 rfl (fun w' hq => pv_fa (tF rfl) rfl) ?_)
    all_goals (refine at0 3 rfl (fun w' hq => pv_load (t1 rfl) rfl (by first | exact PT.ld0 (H1.mono hq) rfl | exact PT.ld (H1.mono hq) rfl | exact PT.ld0 (H2.mono hq) rfl | exact PT.ld (H2.mono hq) rfl)) ?_)
    all_goals (refine at0 4 rfl (fun w' hq => pv_move rfl) ?_)
    all_goals (refine at0 5 rfl (fun w' hq => pv_nilp rfl) ?_)
    all_goals (refine at0 6 rfl (fun w' hq => pv_fa (tF rfl) rfl) ?_)
    all_goals (refine at0 7 rfl (fun w' hq => pv_load (t1 rfl) rfl (by first | exact PT.ld0 (H1.mono hq) rfl | exact PT.ld (H1.mono hq) rfl | exact PT.ld0 (H2.mono hq) rfl | exact PT.ld (H2.mono hq) rfl)) ?_)
    all_goals (refine at0 8 rfl (fun w' hq => pv_eql rfl rfl) ?_)
    all_goals (refine at0 9 rfl (fun w' hq => pv_move rfl) ?_)
    all_goals (refine an2 10 rfl rfl rfl ?_)
    all_goals (refine an2 11 rfl rfl rfl ?_)
    all_goals (refine an2 12 rfl rfl rfl ?_)
    all_goals (refine an2 13 rfl rfl rfl ?_)
    all_goals (refine an2 14 rfl rfl rfl ?_)
    all_goals (refine an2 15 rfl rfl rfl ?_)
    all_goals (refine an2 16 rfl rfl rfl ?_)
    all_goals (refine an2 17 rfl rfl rfl ?_)
    all_goals (refine an2 18 rfl rfl rfl ?_)
    all_goals (refine at0 19 rfl (fun w' hq => pv_pick_f rfl (by first | assumption | exact decide_eq_false (by omega) | exact dec_notF (by omega)) rfl) ?_)
    all_goals (refine at0 20 rfl (fun w' hq => pv_move rfl) ?_)
    all_goals (refine an1 21 rfl rfl rfl rfl ?_)
    all_goals (refine an1 22 rfl rfl rfl rfl ?_)
    all_goals (refine an1 23 rfl rfl rfl rfl ?_)
    all_goals (refine an1 24 rfl rfl rfl rfl ?_)
    all_goals (refine an1 25 rfl rfl rfl rfl ?_)
    all_goals (refine an1 26 rfl rfl rfl rfl ?_)
    all_goals (refine an1 27 rfl rfl rfl rfl ?_)
    all_goals (refine an1 28 rfl rfl rfl rfl ?_)
    all_goals (refine an1 29 rfl rfl rfl rfl ?_)
    all_goals (refine at0 30 rfl (fun w' hq => pv_pick_f rfl rfl rfl) ?_)
    all_goals (refine at0 31 rfl (fun w' hq => pv_move rfl) ?_)
    all_goals (refine an1 32 rfl rfl rfl rfl ?_)
    all_goals (refine an1 33 rfl rfl rfl rfl ?_)
    all_goals (refine an1 34 rfl rfl rfl rfl ?_)
    all_goals (refine an1 35 rfl rfl rfl rfl ?_)
    all_goals (refine an1 36 rfl rfl rfl rfl ?_)
    all_goals (refine an1 37 rfl rfl rfl rfl ?_)
    all_goals (refine an1 38 rfl rfl rfl rfl ?_)
    all_goals (refine an1 39 rfl rfl rfl rfl ?_)
    all_goals first | (refine an3 40 rfl rfl rfl ?_) | (refine an0 40 rfl rfl rfl ?_) | (refine aw_act_g 40 (by kernel_rfl) rfl rfl rfl (by first | rfl | assumption | exact decide_eq_true (by omega) | exact decide_eq_false (by omega) | exact dec_notT (by omega) | exact dec_notF (by omega)) rfl ?_; refine act_call (f := 23) (by kernel_rfl) rfl (rfiles_c rfl rfl (HA.mono hS) (HB.mono hS)) ?_; rintro e w1 ⟨rfl, hb⟩; refine ⟨_, rfl, grow_trans hS hb, fun hS => ?_⟩)
    all_goals (refine at0 41 rfl (fun w' hq => pv_pick_f rfl rfl rfl) ?_)
    all_goals (refine at0 42 rfl (fun w' hq => pv_assign rfl) ?_)
    all_goals (refine aw_done (by kernel_rfl) ?_; replace hw := hS; clear hS hNP)
    repeat' (first | (refine is_cw ?_; first | (refine cw_ret ?_)) | (refine is_qw ?_; first | (with_reducible refine qw_then ?_)))
    exact qw_ret1 rfl rfl ⟨rfl, hw⟩
def RLoaded (w w' : World) (cap : Int) (l : List Fil) (e : Ending) : Prop := ((loadD cap l).1 ≠ 0 ∧ e = .returned (.tuple #[.pointer none, .int .i64 (loadD cap l).1])) ∨ ((loadD cap l).1 = 0 ∧ ∃ N v, e = .returned (.tuple #[.pointer (some ⟨N, 0, none⟩), .int .i64 0]) ∧ w.heap.size ≤ N ∧ RkW w' w.heap.size N v ⟨l, cap, -1, false⟩)
set_option maxRecDepth 20000 in
set_option maxHeartbeats 2000000 in
theorem rload_c {l : List Fil} {cap : Int} {n : Nat} {a : Option Addr} {ca : Nat} {w : World} (hn : l.length = n) (hcap : cap ≤ 9223372036854775807) (hsz : ∀ f ∈ l, f.name.size ≤ 4611686018427387903 ∧ f.firm.size ≤ 4611686018427387903 ∧ f.pend.size ≤ 4611686018427387903) (HS : SlR encF 3 w a ca l) : Calls Tryd.prog 22 #[.int .i64 cap, .slice a n ca] w fun e w' => RLoaded w w' cap l e ∧ Below w.heap.size w w' := by
  subst hn
  have hle := HS.le
  have hmx := HS.max
  have hw := Below.refl w.heap.size w
  refine fn_enter 76 Tryd.func22 rfl rfl rfl ?_
  by_cases hc : cap < 0
  · have e1 : (loadD cap l).1 = 1 := by unfold loadD; rw [if_pos hc]
    repeat' (first | (refine lw_pure rfl (pv_move rfl) ?_) | (refine lw_pure rfl (pv_assign rfl) ?_) | (refine is_cw ?_; first | (refine cw_seq ?_) | (refine cw_region ?_) | (refine cw_true rfl (by first | assumption | exact decide_eq_true (by omega) | exact dec_notT (by omega)) ?_) | (refine cw_ret ?_)) | (refine is_qw ?_; first | (with_reducible refine qw_then ?_) | (with_reducible refine qw_then_ret ?_)) | (refine lw_nil ?_) | ((refine is_bin ?_; first | (refine lw_pure rfl (pv_lss rfl rfl) ?_))))
    exact qw_ret2 rfl rfl rfl ⟨Or.inl ⟨by rw [e1]; decide, by rw [e1]⟩, hw⟩
  · repeat' (first | (refine lw_pure rfl (pv_move rfl) ?_) | (refine lw_pure rfl (pv_assign rfl) ?_) | (refine is_cw ?_; first | (refine cw_seq ?_) | (refine cw_region ?_) | (refine cw_false rfl (by first | assumption | exact decide_eq_false (by omega) | exact dec_notF (by omega)) ?_) | (refine cw_skip ?_) | (refine cw_block ?_)) | (refine is_qw ?_; first | (with_reducible refine qw_then ?_)) | (refine lw_nil ?_) | ((refine is_bin ?_; first | (refine lw_pure rfl (pv_lss rfl rfl) ?_))))
    refine cw_loop (σ := Nat × ByteArray × Nat) (fun s => [(0, .int .i64 cap), (1, .slice a l.length ca), (6, .int .i64 (s.2.2 : Nat)), (7, .int .i64 (s.1 : Nat))]) (fun s wr => s.1 ≤ l.length ∧ Below w.heap.size w wr ∧ Good l s.1 s.2.1 ∧ s.2.2 = usedF (l.take s.1)) (fun s => l.length - s.1) (0, emptyB, 0) (by repeat' (first | exact trivial | refine ⟨rfl, ?_⟩)) ⟨Nat.zero_le _, hw, ⟨List.Pairwise.nil, fun f hf => (by simp at hf), fun f hf => (by simp at hf), fun h => absurd h (Nat.lt_irrefl _), Or.inl ⟨rfl, rfl⟩⟩, rfl⟩ ?_
    clear hw
    rintro ⟨k, last, n⟩ wr ⟨hk, hw, hgd, hn⟩
    replace hk : k ≤ l.length := hk
    replace hgd : Good l k last := hgd
    replace hn : n = usedF (l.take k) := hn
    change CW Tryd.prog _ _ _ [(0, .int .i64 cap), (1, .slice a l.length ca), (6, .int .i64 (n : Nat)), (7, .int .i64 (k : Nat))] wr
    have hnb : n ≤ 64 * 1048576 := by
      by_cases h0 : 0 < k
      · have h1 := used_le hgd.sizes
        have h2 := hgd.cnt h0
        have h3 : (l.take k).length ≤ 64 := by rw [List.length_take]; omega
        have h4 : (l.take k).length * 1048576 ≤ 64 * 1048576 := Nat.mul_le_mul_right _ h3
        omega
      · have h1 : k = 0 := by omega
        subst h1
        rw [hn]
        exact Nat.zero_le _
    by_cases hlt : k < l.length
    · have hxk : l[k]? = some l[k] := List.getElem?_eq_getElem hlt
      generalize l[k] = f at hxk
      have hfm := List.mem_of_getElem? hxk
      obtain ⟨hz1, hz2, hz3⟩ := hsz f hfm
      have hzf : szF f = f.firm.size + f.pend.size := rfl
      have hut := usedT hxk
      have hnz : f.name.size ≤ 9223372036854775807 := by omega
      obtain ⟨ab, ao, rfl, -, -⟩ := HS.at (by intro h; rw [h] at hlt; simp at hlt)
      repeat' (first | (refine lw_pure rfl (pv_move rfl) ?_) | (refine is_cw ?_; first | (refine cw_seq ?_) | (refine cw_region ?_) | (refine cw_true rfl (by first | assumption | exact decide_eq_true (by omega) | exact dec_notT (by omega)) ?_) | (refine cw_skip ?_) | (refine cw_block ?_)) | (refine is_qw ?_; first | (with_reducible refine qw_then ?_)) | (refine lw_nil ?_) | ((refine is_bin ?_; first | (refine lw_pure rfl (pv_lss rfl rfl) ?_))) | ((refine is_bi ?_; first | (refine lw_pure rfl (pv_lenl (tS rfl) rfl) ?_))))
      refine cw_drawn (fun w' => Below w.heap.size w w') (by kernel_rfl) (by repeat (first | exact NoPanic.body | with_reducible refine NoPanic.then ?_ | with_reducible refine NoPanic.inBlock ?_)) (fun hNP => ?_)
      have hS := hw.drew
      all_goals (refine at0 0 rfl (fun w' hq => pv_move rfl) ?_)
      all_goals (refine at0 1 rfl (fun w' hq => pv_move rfl) ?_)
      all_goals (refine at0 2 rfl (fun w' hq => pv_ian (tS rfl) rfl rfl (by omega)) ?_)
      all_goals (refine at0 3 rfl (fun w' hq => pv_fa (tF rfl) rfl) ?_)
      all_goals (refine at0 4 rfl (fun w' hq => pv_load (t1 rfl) rfl (by first | exact SlR.ld (HS.mono hq) hxk rfl | exact SlR.ld1 (HS.mono hq) hxk rfl)) ?_)
      all_goals (refine at0 5 rfl (fun w' hq => pv_lens (tStr rfl) rfl) ?_)
      all_goals (refine at0 6 rfl (fun w' hq => pv_move rfl) ?_)
      all_goals (refine at0 7 rfl (fun w' hq => pv_move rfl) ?_)
      all_goals (refine at0 8 rfl (fun w' hq => pv_ian (tS rfl) rfl rfl (by omega)) ?_)
      all_goals (refine at0 9 rfl (fun w' hq => pv_fa (tF rfl) rfl) ?_)
      all_goals (refine at0 10 rfl (fun w' hq => pv_load (t1 rfl) rfl (by first | exact SlR.ld (HS.mono hq) hxk rfl | exact SlR.ld1 (HS.mono hq) hxk rfl)) ?_)
      all_goals (refine at0 11 rfl (fun w' hq => pv_lens (tStr rfl) rfl) ?_)
      all_goals (refine at0 12 rfl (fun w' hq => pv_add rfl rfl (by omega)) ?_)
      all_goals (refine at0 13 rfl (fun w' hq => pv_assign rfl) ?_)
      all_goals (refine aw_done (by kernel_rfl) ?_; replace hw := hS; clear hS hNP)
      repeat' (first | (refine is_cw ?_; first | (refine cw_seq ?_)) | (refine is_qw ?_; first | (with_reducible refine qw_then ?_)))
      cases hq : nameF f.name with
      | false =>
        have e4 : (loadD cap l).1 = 4 := by unfold loadD; rw [if_neg hc, if_pos (badF_name hfm hq)]
        refine cw_drawn (fun w' => Below w.heap.size w w') (by kernel_rfl) (by repeat (first | exact NoPanic.body | with_reducible refine NoPanic.then ?_ | with_reducible refine NoPanic.inBlock ?_)) (fun hNP => ?_)
        have hS := hw.drew
        all_goals (refine at0 0 rfl (fun w' hq => pv_move rfl) ?_)
        all_goals (refine at0 1 rfl (fun w' hq => pv_move rfl) ?_)
        all_goals (refine at0 2 rfl (fun w' hq => pv_ian (tS rfl) rfl rfl (by omega)) ?_)
        all_goals (refine at0 3 rfl (fun w' hq => pv_fa (tF rfl) rfl) ?_)
        all_goals (refine at0 4 rfl (fun w' hq => pv_load (t1 rfl) rfl (by first | exact SlR.ld (HS.mono hq) hxk rfl | exact SlR.ld1 (HS.mono hq) hxk rfl)) ?_)
        all_goals (refine aw_act 5 (by kernel_rfl) rfl rfl rfl ?_; refine act_call (f := 24) (by kernel_rfl) rfl (rname_is hnz hq _) ?_; rintro e w1 ⟨rfl, hb⟩; refine ⟨_, rfl, grow_trans hS hb, fun hS => ?_⟩)
        all_goals (refine at0 6 rfl (fun w' hq => pv_not rfl) ?_)
        all_goals (refine at0 7 rfl (fun w' hq => pv_move rfl) ?_)
        all_goals (refine an1 8 rfl rfl rfl rfl ?_)
        all_goals (refine an1 9 rfl rfl rfl rfl ?_)
        all_goals (refine an1 10 rfl rfl rfl rfl ?_)
        all_goals (refine an0 11 rfl rfl rfl ?_)
        all_goals (refine an0 12 rfl rfl rfl ?_)
        all_goals (refine an0 13 rfl rfl rfl ?_)
        all_goals (refine an0 14 rfl rfl rfl ?_)
        all_goals (refine an0 15 rfl rfl rfl ?_)
        all_goals (refine an0 16 rfl rfl rfl ?_)
        all_goals (refine an0 17 rfl rfl rfl ?_)
        all_goals (refine an0 18 rfl rfl rfl ?_)
        all_goals (refine an0 19 rfl rfl rfl ?_)
        all_goals (refine an0 20 rfl rfl rfl ?_)
        all_goals (refine an0 21 rfl rfl rfl ?_)
        all_goals (refine an0 22 rfl rfl rfl ?_)
        all_goals (refine an1 23 rfl rfl rfl rfl ?_)
        all_goals (refine at0 24 rfl (fun w' hq => pv_pick_t rfl rfl rfl) ?_)
        all_goals (refine at0 25 rfl (fun w' hq => pv_move rfl) ?_)
        all_goals (refine an1 26 rfl rfl rfl rfl ?_)
        all_goals (refine an1 27 rfl rfl rfl rfl ?_)
        all_goals (refine at0 28 rfl (fun w' hq => pv_pick_t rfl rfl rfl) ?_)
        all_goals (refine at0 29 rfl (fun w' hq => pv_move rfl) ?_)
        all_goals (refine an1 30 rfl rfl rfl rfl ?_)
        all_goals (refine an1 31 rfl rfl rfl rfl ?_)
        all_goals (refine an1 32 rfl rfl rfl rfl ?_)
        all_goals (refine at0 33 rfl (fun w' hq => pv_pick_t rfl rfl rfl) ?_)
        all_goals (refine aw_done (by kernel_rfl) ?_; replace hw := hS; clear hS hNP)
        repeat' (first | (refine lw_pure rfl (pv_assign rfl) ?_) | (refine is_cw ?_; first | (refine cw_seq ?_) | (refine cw_region ?_) | (refine cw_true rfl rfl ?_) | (refine cw_ret ?_)) | (refine is_qw ?_; first | (with_reducible refine qw_then ?_) | (with_reducible refine qw_then_ret ?_) | (with_reducible refine qw_in_ret ?_)) | (refine lw_nil ?_))
        exact qw_ret2 rfl rfl rfl ⟨Or.inl ⟨by rw [e4]; decide, by rw [e4]⟩, hw⟩
      | true =>
        rcases hgd.last with ⟨hk0, hl0⟩ | ⟨i, g, hki, hgi, hl0⟩
        · have hk0' : k = 0 := hk0
          have hlast : ltN last f.name := by rw [hl0]; exact nameF_ne hq
          by_cases hs : 1048576 < szF f
          · have e4 : (loadD cap l).1 = 4 := by unfold loadD; rw [if_neg hc, if_pos (badF_size hfm hs)]
            refine cw_drawn (fun w' => Below w.heap.size w w') (by kernel_rfl) (by repeat (first | exact NoPanic.body | with_reducible refine NoPanic.then ?_ | with_reducible refine NoPanic.inBlock ?_)) (fun hNP => ?_)
            have hS := hw.drew
            all_goals (refine at0 0 rfl (fun w' hq => pv_move rfl) ?_)
            all_goals (refine at0 1 rfl (fun w' hq => pv_move rfl) ?_)
            all_goals (refine at0 2 rfl (fun w' hq => pv_ian (tS rfl) rfl rfl (by omega)) ?_)
            all_goals (refine at0 3 rfl (fun w' hq => pv_fa (tF rfl) rfl) ?_)
            all_goals (refine at0 4 rfl (fun w' hq => pv_load (t1 rfl) rfl (by first | exact SlR.ld (HS.mono hq) hxk rfl | exact SlR.ld1 (HS.mono hq) hxk rfl)) ?_)
            all_goals (refine aw_act 5 (by kernel_rfl) rfl rfl rfl ?_; refine act_call (f := 24) (by kernel_rfl) rfl (rname_is hnz hq _) ?_; rintro e w1 ⟨rfl, hb⟩; refine ⟨_, rfl, grow_trans hS hb, fun hS => ?_⟩)
            all_goals (refine at0 6 rfl (fun w' hq => pv_not rfl) ?_)
            all_goals (refine at0 7 rfl (fun w' hq => pv_move rfl) ?_)
            all_goals (refine at1 8 rfl rfl rfl rfl (fun w' hq => pv_move rfl) ?_)
            all_goals (refine at1 9 rfl rfl rfl rfl (fun w' hq => pv_gtr rfl rfl) ?_)
            all_goals (refine at1 10 rfl rfl rfl rfl (fun w' hq => pv_move rfl) ?_)
            all_goals (refine an2 11 rfl rfl rfl ?_)
            all_goals (refine an2 12 rfl rfl rfl ?_)
            all_goals (refine an2 13 rfl rfl rfl ?_)
            all_goals (refine an2 14 rfl rfl rfl ?_)
            all_goals (refine an2 15 rfl rfl rfl ?_)
            all_goals (refine an2 16 rfl rfl rfl ?_)
            all_goals (refine an2 17 rfl rfl rfl ?_)
            all_goals (refine an2 18 rfl rfl rfl ?_)
            all_goals (refine an2 19 rfl rfl rfl ?_)
            all_goals (refine an2 20 rfl rfl rfl ?_)
            all_goals (refine an2 21 rfl rfl rfl ?_)
            all_goals (refine an2 22 rfl rfl rfl ?_)
            all_goals (refine at1 23 rfl rfl rfl rfl (fun w' hq => pv_pick_f rfl (by first | assumption | exact decide_eq_false (by omega) | exact dec_notF (by omega)) rfl) ?_)
            all_goals (refine at0 24 rfl (fun w' hq => pv_pick_f rfl rfl rfl) ?_)
            all_goals (refine at0 25 rfl (fun w' hq => pv_move rfl) ?_)
            all_goals (refine at1 26 rfl rfl rfl rfl (fun w' hq => pv_move rfl) ?_)
            all_goals (refine at1 27 rfl rfl rfl rfl (fun w' hq => pv_gtr rfl rfl) ?_)
            all_goals (refine at0 28 rfl (fun w' hq => pv_pick_f rfl rfl rfl) ?_)
            all_goals (refine at0 29 rfl (fun w' hq => pv_move rfl) ?_)
            all_goals (refine an2 30 rfl rfl rfl ?_)
            all_goals (refine an2 31 rfl rfl rfl ?_)
            all_goals (refine an2 32 rfl rfl rfl ?_)
            all_goals (refine at0 33 rfl (fun w' hq => pv_pick_t rfl (by first | assumption | exact decide_eq_true (by omega) | exact dec_notT (by omega)) rfl) ?_)
            all_goals (refine aw_done (by kernel_rfl) ?_; replace hw := hS; clear hS hNP)
            repeat' (first | (refine lw_pure rfl (pv_assign rfl) ?_) | (refine is_cw ?_; first | (refine cw_seq ?_) | (refine cw_region ?_) | (refine cw_true rfl rfl ?_) | (refine cw_ret ?_)) | (refine is_qw ?_; first | (with_reducible refine qw_then ?_) | (with_reducible refine qw_then_ret ?_) | (with_reducible refine qw_in_ret ?_)) | (refine lw_nil ?_))
            exact qw_ret2 rfl rfl rfl ⟨Or.inl ⟨by rw [e4]; decide, by rw [e4]⟩, hw⟩
          · by_cases h64 : 64 < l.length
            · have e4 : (loadD cap l).1 = 4 := by unfold loadD; rw [if_neg hc, if_pos (badF_len h64)]
              refine cw_drawn (fun w' => Below w.heap.size w w') (by kernel_rfl) (by repeat (first | exact NoPanic.body | with_reducible refine NoPanic.then ?_ | with_reducible refine NoPanic.inBlock ?_)) (fun hNP => ?_)
              have hS := hw.drew
              all_goals (refine at0 0 rfl (fun w' hq => pv_move rfl) ?_)
              all_goals (refine at0 1 rfl (fun w' hq => pv_move rfl) ?_)
              all_goals (refine at0 2 rfl (fun w' hq => pv_ian (tS rfl) rfl rfl (by omega)) ?_)
              all_goals (refine at0 3 rfl (fun w' hq => pv_fa (tF rfl) rfl) ?_)
              all_goals (refine at0 4 rfl (fun w' hq => pv_load (t1 rfl) rfl (by first | exact SlR.ld (HS.mono hq) hxk rfl | exact SlR.ld1 (HS.mono hq) hxk rfl)) ?_)
              all_goals (refine aw_act 5 (by kernel_rfl) rfl rfl rfl ?_; refine act_call (f := 24) (by kernel_rfl) rfl (rname_is hnz hq _) ?_; rintro e w1 ⟨rfl, hb⟩; refine ⟨_, rfl, grow_trans hS hb, fun hS => ?_⟩)
              all_goals (refine at0 6 rfl (fun w' hq => pv_not rfl) ?_)
              all_goals (refine at0 7 rfl (fun w' hq => pv_move rfl) ?_)
              all_goals (refine at1 8 rfl rfl rfl rfl (fun w' hq => pv_move rfl) ?_)
              all_goals (refine at1 9 rfl rfl rfl rfl (fun w' hq => pv_gtr rfl rfl) ?_)
              all_goals (refine at1 10 rfl rfl rfl rfl (fun w' hq => pv_move rfl) ?_)
              all_goals (refine an2 11 rfl rfl rfl ?_)
              all_goals (refine an2 12 rfl rfl rfl ?_)
              all_goals (refine an2 13 rfl rfl rfl ?_)
              all_goals (refine an2 14 rfl rfl rfl ?_)
              all_goals (refine an2 15 rfl rfl rfl ?_)
              all_goals (refine an2 16 rfl rfl rfl ?_)
              all_goals (refine an2 17 rfl rfl rfl ?_)
              all_goals (refine an2 18 rfl rfl rfl ?_)
              all_goals (refine an2 19 rfl rfl rfl ?_)
              all_goals (refine an2 20 rfl rfl rfl ?_)
              all_goals (refine an2 21 rfl rfl rfl ?_)
              all_goals (refine an2 22 rfl rfl rfl ?_)
              all_goals (refine at1 23 rfl rfl rfl rfl (fun w' hq => pv_pick_f rfl (by first | assumption | exact decide_eq_false (by omega) | exact dec_notF (by omega)) rfl) ?_)
              all_goals (refine at0 24 rfl (fun w' hq => pv_pick_f rfl rfl rfl) ?_)
              all_goals (refine at0 25 rfl (fun w' hq => pv_move rfl) ?_)
              all_goals (refine at1 26 rfl rfl rfl rfl (fun w' hq => pv_move rfl) ?_)
              all_goals (refine at1 27 rfl rfl rfl rfl (fun w' hq => pv_gtr rfl rfl) ?_)
              all_goals (refine at0 28 rfl (fun w' hq => pv_pick_f rfl rfl rfl) ?_)
              all_goals (refine at0 29 rfl (fun w' hq => pv_move rfl) ?_)
              all_goals (refine at2 30 rfl rfl rfl (fun w' hq => pv_move rfl) ?_)
              all_goals (refine at2 31 rfl rfl rfl (fun w' hq => pv_lenl (tS rfl) rfl) ?_)
              all_goals (refine at2 32 rfl rfl rfl (fun w' hq => pv_gtr rfl rfl) ?_)
              all_goals (refine at0 33 rfl (fun w' hq => pv_pick_f rfl (by first | assumption | exact decide_eq_false (by omega) | exact dec_notF (by omega)) rfl) ?_)
              all_goals (refine aw_done (by kernel_rfl) ?_; replace hw := hS; clear hS hNP)
              repeat' (first | (refine lw_pure rfl (pv_assign rfl) ?_) | (refine is_cw ?_; first | (refine cw_seq ?_) | (refine cw_region ?_) | (refine cw_true rfl (by first | assumption | exact decide_eq_true (by omega) | exact dec_notT (by omega)) ?_) | (refine cw_ret ?_)) | (refine is_qw ?_; first | (with_reducible refine qw_then ?_) | (with_reducible refine qw_then_ret ?_) | (with_reducible refine qw_in_ret ?_)) | (refine lw_nil ?_))
              exact qw_ret2 rfl rfl rfl ⟨Or.inl ⟨by rw [e4]; decide, by rw [e4]⟩, hw⟩
            · skip
              refine cw_drawn (fun w' => Below w.heap.size w w') (by kernel_rfl) (by repeat (first | exact NoPanic.body | with_reducible refine NoPanic.then ?_ | with_reducible refine NoPanic.inBlock ?_)) (fun hNP => ?_)
              have hS := hw.drew
              all_goals (refine at0 0 rfl (fun w' hq => pv_move rfl) ?_)
              all_goals (refine at0 1 rfl (fun w' hq => pv_move rfl) ?_)
              all_goals (refine at0 2 rfl (fun w' hq => pv_ian (tS rfl) rfl rfl (by omega)) ?_)
              all_goals (refine at0 3 rfl (fun w' hq => pv_fa (tF rfl) rfl) ?_)
              all_goals (refine at0 4 rfl (fun w' hq => pv_load (t1 rfl) rfl (by first | exact SlR.ld (HS.mono hq) hxk rfl | exact SlR.ld1 (HS.mono hq) hxk rfl)) ?_)
              all_goals (refine aw_act 5 (by kernel_rfl) rfl rfl rfl ?_; refine act_call (f := 24) (by kernel_rfl) rfl (rname_is hnz hq _) ?_; rintro e w1 ⟨rfl, hb⟩; refine ⟨_, rfl, grow_trans hS hb, fun hS => ?_⟩)
              all_goals (refine at0 6 rfl (fun w' hq => pv_not rfl) ?_)
              all_goals (refine at0 7 rfl (fun w' hq => pv_move rfl) ?_)
              all_goals (refine at1 8 rfl rfl rfl rfl (fun w' hq => pv_move rfl) ?_)
              all_goals (refine at1 9 rfl rfl rfl rfl (fun w' hq => pv_gtr rfl rfl) ?_)
              all_goals (refine at1 10 rfl rfl rfl rfl (fun w' hq => pv_move rfl) ?_)
              all_goals (refine an2 11 rfl rfl rfl ?_)
              all_goals (refine an2 12 rfl rfl rfl ?_)
              all_goals (refine an2 13 rfl rfl rfl ?_)
              all_goals (refine an2 14 rfl rfl rfl ?_)
              all_goals (refine an2 15 rfl rfl rfl ?_)
              all_goals (refine an2 16 rfl rfl rfl ?_)
              all_goals (refine an2 17 rfl rfl rfl ?_)
              all_goals (refine an2 18 rfl rfl rfl ?_)
              all_goals (refine an2 19 rfl rfl rfl ?_)
              all_goals (refine an2 20 rfl rfl rfl ?_)
              all_goals (refine an2 21 rfl rfl rfl ?_)
              all_goals (refine an2 22 rfl rfl rfl ?_)
              all_goals (refine at1 23 rfl rfl rfl rfl (fun w' hq => pv_pick_f rfl (by first | assumption | exact decide_eq_false (by omega) | exact dec_notF (by omega)) rfl) ?_)
              all_goals (refine at0 24 rfl (fun w' hq => pv_pick_f rfl rfl rfl) ?_)
              all_goals (refine at0 25 rfl (fun w' hq => pv_move rfl) ?_)
              all_goals (refine at1 26 rfl rfl rfl rfl (fun w' hq => pv_move rfl) ?_)
              all_goals (refine at1 27 rfl rfl rfl rfl (fun w' hq => pv_gtr rfl rfl) ?_)
              all_goals (refine at0 28 rfl (fun w' hq => pv_pick_f rfl rfl rfl) ?_)
              all_goals (refine at0 29 rfl (fun w' hq => pv_move rfl) ?_)
              all_goals (refine at2 30 rfl rfl rfl (fun w' hq => pv_move rfl) ?_)
              all_goals (refine at2 31 rfl rfl rfl (fun w' hq => pv_lenl (tS rfl) rfl) ?_)
              all_goals (refine at2 32 rfl rfl rfl (fun w' hq => pv_gtr rfl rfl) ?_)
              all_goals (refine at0 33 rfl (fun w' hq => pv_pick_f rfl (by first | assumption | exact decide_eq_false (by omega) | exact dec_notF (by omega)) rfl) ?_)
              all_goals (refine aw_done (by kernel_rfl) ?_; replace hw := hS; clear hS hNP)
              have hgd2 := (hgd.step hxk hq hlast (by omega) (by omega)).1
              repeat' (first | (refine lw_pure rfl (pv_move rfl) ?_) | (refine lw_pure rfl (pv_assign rfl) ?_) | (refine is_cw ?_; first | (refine cw_region ?_) | (refine cw_false rfl (by first | assumption | exact decide_eq_false (by omega) | exact dec_notF (by omega)) ?_) | (refine cw_skip ?_)) | (refine is_qw ?_; first | (with_reducible refine qw_then ?_) | (with_reducible refine qw_in ?_)) | (refine lw_nil ?_) | ((refine is_bin ?_; first | (refine lw_pure rfl (pv_inc rfl rfl (by omega)) ?_) | (refine lw_pure rfl (pv_add rfl rfl (by omega)) ?_))))
              exact qw_round (k + 1, f.name, n + (f.firm.size + f.pend.size)) (by repeat' (first | exact trivial | refine ⟨rfl, ?_⟩)) ⟨by show k + 1 ≤ _; omega, hw, hgd2, by show n + (f.firm.size + f.pend.size) = usedF (l.take (k + 1)); omega⟩ (by show l.length - (k + 1) < l.length - k; omega)
        · subst hki
          by_cases hlast : ltN last f.name
          · have hE : decide (¬ ltN g.name f.name) = false := decide_eq_false (fun h => h (hl0 ▸ hlast))
            by_cases hs : 1048576 < szF f
            · have e4 : (loadD cap l).1 = 4 := by unfold loadD; rw [if_neg hc, if_pos (badF_size hfm hs)]
              refine cw_drawn (fun w' => Below w.heap.size w w') (by kernel_rfl) (by repeat (first | exact NoPanic.body | with_reducible refine NoPanic.then ?_ | with_reducible refine NoPanic.inBlock ?_)) (fun hNP => ?_)
              have hS := hw.drew
              all_goals (refine at0 0 rfl (fun w' hq => pv_move rfl) ?_)
              all_goals (refine at0 1 rfl (fun w' hq => pv_move rfl) ?_)
              all_goals (refine at0 2 rfl (fun w' hq => pv_ian (tS rfl) rfl rfl (by omega)) ?_)
              all_goals (refine at0 3 rfl (fun w' hq => pv_fa (tF rfl) rfl) ?_)
              all_goals (refine at0 4 rfl (fun w' hq => pv_load (t1 rfl) rfl (by first | exact SlR.ld (HS.mono hq) hxk rfl | exact SlR.ld1 (HS.mono hq) hxk rfl | exact SlR.ld (HS.mono hq) hgi rfl | exact SlR.ld1 (HS.mono hq) hgi rfl)) ?_)
              all_goals (refine aw_act 5 (by kernel_rfl) rfl rfl rfl ?_; refine act_call (f := 24) (by kernel_rfl) rfl (rname_is hnz hq _) ?_; rintro e w1 ⟨rfl, hb⟩; refine ⟨_, rfl, grow_trans hS hb, fun hS => ?_⟩)
              all_goals (refine at0 6 rfl (fun w' hq => pv_not rfl) ?_)
              all_goals (refine at0 7 rfl (fun w' hq => pv_move rfl) ?_)
              all_goals (refine at1 8 rfl rfl rfl rfl (fun w' hq => pv_move rfl) ?_)
              all_goals (refine at1 9 rfl rfl rfl rfl (fun w' hq => pv_gtr rfl rfl) ?_)
              all_goals (refine at1 10 rfl rfl rfl rfl (fun w' hq => pv_move rfl) ?_)
              all_goals (refine at2 11 rfl rfl rfl (fun w' hq => pv_move rfl) ?_)
              all_goals (refine at2 12 rfl rfl rfl (fun w' hq => pv_move rfl) ?_)
              all_goals (refine at2 13 rfl rfl rfl (fun w' hq => pv_ian (tS rfl) rfl rfl (by omega)) ?_)
              all_goals (refine at2 14 rfl rfl rfl (fun w' hq => pv_fa (tF rfl) rfl) ?_)
              all_goals (refine at2 15 rfl rfl rfl (fun w' hq => pv_load (t1 rfl) rfl (by first | exact SlR.ld (HS.mono hq) hxk rfl | exact SlR.ld1 (HS.mono hq) hxk rfl | exact SlR.ld (HS.mono hq) hgi rfl | exact SlR.ld1 (HS.mono hq) hgi rfl)) ?_)
              all_goals (refine at2 16 rfl rfl rfl (fun w' hq => pv_move rfl) ?_)
              all_goals (refine at2 17 rfl rfl rfl (fun w' hq => pv_move rfl) ?_)
              all_goals (refine at2 18 rfl rfl rfl (fun w' hq => pv_predn rfl rfl (by omega)) ?_)
              all_goals (refine at2 19 rfl rfl rfl (fun w' hq => pv_ian (tS rfl) rfl rfl (by omega)) ?_)
              all_goals (refine at2 20 rfl rfl rfl (fun w' hq => pv_fa (tF rfl) rfl) ?_)
              all_goals (refine at2 21 rfl rfl rfl (fun w' hq => pv_load (t1 rfl) rfl (by first | exact SlR.ld (HS.mono hq) hxk rfl | exact SlR.ld1 (HS.mono hq) hxk rfl | exact SlR.ld (HS.mono hq) hgi rfl | exact SlR.ld1 (HS.mono hq) hgi rfl)) ?_)
              all_goals (refine at2 22 rfl rfl rfl (fun w' hq => pv_sleq rfl rfl) ?_)
              all_goals (refine at1 23 rfl rfl rfl rfl (fun w' hq => pv_pick_t rfl (by first | assumption | exact decide_eq_true (by omega) | exact dec_notT (by omega)) rfl) ?_)
              all_goals (refine at0 24 rfl (fun w' hq => pv_pick_f rfl rfl rfl) ?_)
              all_goals (refine at0 25 rfl (fun w' hq => pv_move rfl) ?_)
              all_goals (refine at2 26 rfl rfl rfl (fun w' hq => pv_move rfl) ?_)
              all_goals (refine at2 27 rfl rfl rfl (fun w' hq => pv_gtr rfl rfl) ?_)
              all_goals (refine at0 28 rfl (fun w' hq => pv_pick_f rfl (by first | assumption | exact decide_eq_false (by omega) | exact dec_notF (by omega)) rfl) ?_)
              all_goals (refine at0 29 rfl (fun w' hq => pv_move rfl) ?_)
              all_goals (refine an2 30 rfl rfl rfl ?_)
              all_goals (refine an2 31 rfl rfl rfl ?_)
              all_goals (refine an2 32 rfl rfl rfl ?_)
              all_goals (refine at0 33 rfl (fun w' hq => pv_pick_t rfl (by first | assumption | exact decide_eq_true (by omega) | exact dec_notT (by omega)) rfl) ?_)
              all_goals (refine aw_done (by kernel_rfl) ?_; replace hw := hS; clear hS hNP)
              repeat' (first | (refine lw_pure rfl (pv_assign rfl) ?_) | (refine is_cw ?_; first | (refine cw_seq ?_) | (refine cw_region ?_) | (refine cw_true rfl rfl ?_) | (refine cw_ret ?_)) | (refine is_qw ?_; first | (with_reducible refine qw_then ?_) | (with_reducible refine qw_then_ret ?_) | (with_reducible refine qw_in_ret ?_)) | (refine lw_nil ?_))
              exact qw_ret2 rfl rfl rfl ⟨Or.inl ⟨by rw [e4]; decide, by rw [e4]⟩, hw⟩
            · by_cases h64 : 64 < l.length
              · have e4 : (loadD cap l).1 = 4 := by unfold loadD; rw [if_neg hc, if_pos (badF_len h64)]
                refine cw_drawn (fun w' => Below w.heap.size w w') (by kernel_rfl) (by repeat (first | exact NoPanic.body | with_reducible refine NoPanic.then ?_ | with_reducible refine NoPanic.inBlock ?_)) (fun hNP => ?_)
                have hS := hw.drew
                all_goals (refine at0 0 rfl (fun w' hq => pv_move rfl) ?_)
                all_goals (refine at0 1 rfl (fun w' hq => pv_move rfl) ?_)
                all_goals (refine at0 2 rfl (fun w' hq => pv_ian (tS rfl) rfl rfl (by omega)) ?_)
                all_goals (refine at0 3 rfl (fun w' hq => pv_fa (tF rfl) rfl) ?_)
                all_goals (refine at0 4 rfl (fun w' hq => pv_load (t1 rfl) rfl (by first | exact SlR.ld (HS.mono hq) hxk rfl | exact SlR.ld1 (HS.mono hq) hxk rfl | exact SlR.ld (HS.mono hq) hgi rfl | exact SlR.ld1 (HS.mono hq) hgi rfl)) ?_)
                all_goals (refine aw_act 5 (by kernel_rfl) rfl rfl rfl ?_; refine act_call (f := 24) (by kernel_rfl) rfl (rname_is hnz hq _) ?_; rintro e w1 ⟨rfl, hb⟩; refine ⟨_, rfl, grow_trans hS hb, fun hS => ?_⟩)
                all_goals (refine at0 6 rfl (fun w' hq => pv_not rfl) ?_)
                all_goals (refine at0 7 rfl (fun w' hq => pv_move rfl) ?_)
                all_goals (refine at1 8 rfl rfl rfl rfl (fun w' hq => pv_move rfl) ?_)
                all_goals (refine at1 9 rfl rfl rfl rfl (fun w' hq => pv_gtr rfl rfl) ?_)
                all_goals (refine at1 10 rfl rfl rfl rfl (fun w' hq => pv_move rfl) ?_)
                all_goals (refine at2 11 rfl rfl rfl (fun w' hq => pv_move rfl) ?_)
                all_goals (refine at2 12 rfl rfl rfl (fun w' hq => pv_move rfl) ?_)
                all_goals (refine at2 13 rfl rfl rfl (fun w' hq => pv_ian (tS rfl) rfl rfl (by omega)) ?_)
                all_goals (refine at2 14 rfl rfl rfl (fun w' hq => pv_fa (tF rfl) rfl) ?_)
                all_goals (refine at2 15 rfl rfl rfl (fun w' hq => pv_load (t1 rfl) rfl (by first | exact SlR.ld (HS.mono hq) hxk rfl | exact SlR.ld1 (HS.mono hq) hxk rfl | exact SlR.ld (HS.mono hq) hgi rfl | exact SlR.ld1 (HS.mono hq) hgi rfl)) ?_)
                all_goals (refine at2 16 rfl rfl rfl (fun w' hq => pv_move rfl) ?_)
                all_goals (refine at2 17 rfl rfl rfl (fun w' hq => pv_move rfl) ?_)
                all_goals (refine at2 18 rfl rfl rfl (fun w' hq => pv_predn rfl rfl (by omega)) ?_)
                all_goals (refine at2 19 rfl rfl rfl (fun w' hq => pv_ian (tS rfl) rfl rfl (by omega)) ?_)
                all_goals (refine at2 20 rfl rfl rfl (fun w' hq => pv_fa (tF rfl) rfl) ?_)
                all_goals (refine at2 21 rfl rfl rfl (fun w' hq => pv_load (t1 rfl) rfl (by first | exact SlR.ld (HS.mono hq) hxk rfl | exact SlR.ld1 (HS.mono hq) hxk rfl | exact SlR.ld (HS.mono hq) hgi rfl | exact SlR.ld1 (HS.mono hq) hgi rfl)) ?_)
                all_goals (refine at2 22 rfl rfl rfl (fun w' hq => pv_sleq rfl rfl) ?_)
                all_goals (refine at1 23 rfl rfl rfl rfl (fun w' hq => pv_pick_t rfl (by first | assumption | exact decide_eq_true (by omega) | exact dec_notT (by omega)) rfl) ?_)
                all_goals (refine at0 24 rfl (fun w' hq => pv_pick_f rfl rfl rfl) ?_)
                all_goals (refine at0 25 rfl (fun w' hq => pv_move rfl) ?_)
                all_goals (refine at2 26 rfl rfl rfl (fun w' hq => pv_move rfl) ?_)
                all_goals (refine at2 27 rfl rfl rfl (fun w' hq => pv_gtr rfl rfl) ?_)
                all_goals (refine at0 28 rfl (fun w' hq => pv_pick_f rfl (by first | assumption | exact decide_eq_false (by omega) | exact dec_notF (by omega)) rfl) ?_)
                all_goals (refine at0 29 rfl (fun w' hq => pv_move rfl) ?_)
                all_goals (refine at2 30 rfl rfl rfl (fun w' hq => pv_move rfl) ?_)
                all_goals (refine at2 31 rfl rfl rfl (fun w' hq => pv_lenl (tS rfl) rfl) ?_)
                all_goals (refine at2 32 rfl rfl rfl (fun w' hq => pv_gtr rfl rfl) ?_)
                all_goals (refine at0 33 rfl (fun w' hq => pv_pick_f rfl (by first | assumption | exact decide_eq_false (by omega) | exact dec_notF (by omega)) rfl) ?_)
                all_goals (refine aw_done (by kernel_rfl) ?_; replace hw := hS; clear hS hNP)
                repeat' (first | (refine lw_pure rfl (pv_assign rfl) ?_) | (refine is_cw ?_; first | (refine cw_seq ?_) | (refine cw_region ?_) | (refine cw_true rfl (by first | assumption | exact decide_eq_true (by omega) | exact dec_notT (by omega)) ?_) | (refine cw_ret ?_)) | (refine is_qw ?_; first | (with_reducible refine qw_then ?_) | (with_reducible refine qw_then_ret ?_) | (with_reducible refine qw_in_ret ?_)) | (refine lw_nil ?_))
                exact qw_ret2 rfl rfl rfl ⟨Or.inl ⟨by rw [e4]; decide, by rw [e4]⟩, hw⟩
              · skip
                refine cw_drawn (fun w' => Below w.heap.size w w') (by kernel_rfl) (by repeat (first | exact NoPanic.body | with_reducible refine NoPanic.then ?_ | with_reducible refine NoPanic.inBlock ?_)) (fun hNP => ?_)
                have hS := hw.drew
                all_goals (refine at0 0 rfl (fun w' hq => pv_move rfl) ?_)
                all_goals (refine at0 1 rfl (fun w' hq => pv_move rfl) ?_)
                all_goals (refine at0 2 rfl (fun w' hq => pv_ian (tS rfl) rfl rfl (by omega)) ?_)
                all_goals (refine at0 3 rfl (fun w' hq => pv_fa (tF rfl) rfl) ?_)
                all_goals (refine at0 4 rfl (fun w' hq => pv_load (t1 rfl) rfl (by first | exact SlR.ld (HS.mono hq) hxk rfl | exact SlR.ld1 (HS.mono hq) hxk rfl | exact SlR.ld (HS.mono hq) hgi rfl | exact SlR.ld1 (HS.mono hq) hgi rfl)) ?_)
                all_goals (refine aw_act 5 (by kernel_rfl) rfl rfl rfl ?_; refine act_call (f := 24) (by kernel_rfl) rfl (rname_is hnz hq _) ?_; rintro e w1 ⟨rfl, hb⟩; refine ⟨_, rfl, grow_trans hS hb, fun hS => ?_⟩)
                all_goals (refine at0 6 rfl (fun w' hq => pv_not rfl) ?_)
                all_goals (refine at0 7 rfl (fun w' hq => pv_move rfl) ?_)
                all_goals (refine at1 8 rfl rfl rfl rfl (fun w' hq => pv_move rfl) ?_)
                all_goals (refine at1 9 rfl rfl rfl rfl (fun w' hq => pv_gtr rfl rfl) ?_)
                all_goals (refine at1 10 rfl rfl rfl rfl (fun w' hq => pv_move rfl) ?_)
                all_goals (refine at2 11 rfl rfl rfl (fun w' hq => pv_move rfl) ?_)
                all_goals (refine at2 12 rfl rfl rfl (fun w' hq => pv_move rfl) ?_)
                all_goals (refine at2 13 rfl rfl rfl (fun w' hq => pv_ian (tS rfl) rfl rfl (by omega)) ?_)
                all_goals (refine at2 14 rfl rfl rfl (fun w' hq => pv_fa (tF rfl) rfl) ?_)
                all_goals (refine at2 15 rfl rfl rfl (fun w' hq => pv_load (t1 rfl) rfl (by first | exact SlR.ld (HS.mono hq) hxk rfl | exact SlR.ld1 (HS.mono hq) hxk rfl | exact SlR.ld (HS.mono hq) hgi rfl | exact SlR.ld1 (HS.mono hq) hgi rfl)) ?_)
                all_goals (refine at2 16 rfl rfl rfl (fun w' hq => pv_move rfl) ?_)
                all_goals (refine at2 17 rfl rfl rfl (fun w' hq => pv_move rfl) ?_)
                all_goals (refine at2 18 rfl rfl rfl (fun w' hq => pv_predn rfl rfl (by omega)) ?_)
                all_goals (refine at2 19 rfl rfl rfl (fun w' hq => pv_ian (tS rfl) rfl rfl (by omega)) ?_)
                all_goals (refine at2 20 rfl rfl rfl (fun w' hq => pv_fa (tF rfl) rfl) ?_)
                all_goals (refine at2 21 rfl rfl rfl (fun w' hq => pv_load (t1 rfl) rfl (by first | exact SlR.ld (HS.mono hq) hxk rfl | exact SlR.ld1 (HS.mono hq) hxk rfl | exact SlR.ld (HS.mono hq) hgi rfl | exact SlR.ld1 (HS.mono hq) hgi rfl)) ?_)
                all_goals (refine at2 22 rfl rfl rfl (fun w' hq => pv_sleq rfl rfl) ?_)
                all_goals (refine at1 23 rfl rfl rfl rfl (fun w' hq => pv_pick_t rfl (by first | assumption | exact decide_eq_true (by omega) | exact dec_notT (by omega)) rfl) ?_)
                all_goals (refine at0 24 rfl (fun w' hq => pv_pick_f rfl rfl rfl) ?_)
                all_goals (refine at0 25 rfl (fun w' hq => pv_move rfl) ?_)
                all_goals (refine at2 26 rfl rfl rfl (fun w' hq => pv_move rfl) ?_)
                all_goals (refine at2 27 rfl rfl rfl (fun w' hq => pv_gtr rfl rfl) ?_)
                all_goals (refine at0 28 rfl (fun w' hq => pv_pick_f rfl (by first | assumption | exact decide_eq_false (by omega) | exact dec_notF (by omega)) rfl) ?_)
                all_goals (refine at0 29 rfl (fun w' hq => pv_move rfl) ?_)
                all_goals (refine at2 30 rfl rfl rfl (fun w' hq => pv_move rfl) ?_)
                all_goals (refine at2 31 rfl rfl rfl (fun w' hq => pv_lenl (tS rfl) rfl) ?_)
                all_goals (refine at2 32 rfl rfl rfl (fun w' hq => pv_gtr rfl rfl) ?_)
                all_goals (refine at0 33 rfl (fun w' hq => pv_pick_f rfl (by first | assumption | exact decide_eq_false (by omega) | exact dec_notF (by omega)) rfl) ?_)
                all_goals (refine aw_done (by kernel_rfl) ?_; replace hw := hS; clear hS hNP)
                have hgd2 := (hgd.step hxk hq hlast (by omega) (by omega)).1
                repeat' (first | (refine lw_pure rfl (pv_move rfl) ?_) | (refine lw_pure rfl (pv_assign rfl) ?_) | (refine is_cw ?_; first | (refine cw_region ?_) | (refine cw_false rfl (by first | assumption | exact decide_eq_false (by omega) | exact dec_notF (by omega)) ?_) | (refine cw_skip ?_)) | (refine is_qw ?_; first | (with_reducible refine qw_then ?_) | (with_reducible refine qw_in ?_)) | (refine lw_nil ?_) | ((refine is_bin ?_; first | (refine lw_pure rfl (pv_inc rfl rfl (by omega)) ?_) | (refine lw_pure rfl (pv_add rfl rfl (by omega)) ?_))))
                exact qw_round (i + 1 + 1, f.name, n + (f.firm.size + f.pend.size)) (by repeat' (first | exact trivial | refine ⟨rfl, ?_⟩)) ⟨by show i + 1 + 1 ≤ _; omega, hw, hgd2, by show n + (f.firm.size + f.pend.size) = usedF (l.take (i + 1 + 1)); omega⟩ (by show l.length - (i + 1 + 1) < l.length - (i + 1); omega)
          · have hE : decide (¬ ltN g.name f.name) = true := decide_eq_true (fun h => hlast (hl0 ▸ h))
            have e4 : (loadD cap l).1 = 4 := by unfold loadD; rw [if_neg hc, if_pos (badF_srt (hgd.bad hxk hq hlast))]
            refine cw_drawn (fun w' => Below w.heap.size w w') (by kernel_rfl) (by repeat (first | exact NoPanic.body | with_reducible refine NoPanic.then ?_ | with_reducible refine NoPanic.inBlock ?_)) (fun hNP => ?_)
            have hS := hw.drew
            all_goals (refine at0 0 rfl (fun w' hq => pv_move rfl) ?_)
            all_goals (refine at0 1 rfl (fun w' hq => pv_move rfl) ?_)
            all_goals (refine at0 2 rfl (fun w' hq => pv_ian (tS rfl) rfl rfl (by omega)) ?_)
            all_goals (refine at0 3 rfl (fun w' hq => pv_fa (tF rfl) rfl) ?_)
            all_goals (refine at0 4 rfl (fun w' hq => pv_load (t1 rfl) rfl (by first | exact SlR.ld (HS.mono hq) hxk rfl | exact SlR.ld1 (HS.mono hq) hxk rfl | exact SlR.ld (HS.mono hq) hgi rfl | exact SlR.ld1 (HS.mono hq) hgi rfl)) ?_)
            all_goals (refine aw_act 5 (by kernel_rfl) rfl rfl rfl ?_; refine act_call (f := 24) (by kernel_rfl) rfl (rname_is hnz hq _) ?_; rintro e w1 ⟨rfl, hb⟩; refine ⟨_, rfl, grow_trans hS hb, fun hS => ?_⟩)
            all_goals (refine at0 6 rfl (fun w' hq => pv_not rfl) ?_)
            all_goals (refine at0 7 rfl (fun w' hq => pv_move rfl) ?_)
            all_goals (refine at1 8 rfl rfl rfl rfl (fun w' hq => pv_move rfl) ?_)
            all_goals (refine at1 9 rfl rfl rfl rfl (fun w' hq => pv_gtr rfl rfl) ?_)
            all_goals (refine at1 10 rfl rfl rfl rfl (fun w' hq => pv_move rfl) ?_)
            all_goals (refine at2 11 rfl rfl rfl (fun w' hq => pv_move rfl) ?_)
            all_goals (refine at2 12 rfl rfl rfl (fun w' hq => pv_move rfl) ?_)
            all_goals (refine at2 13 rfl rfl rfl (fun w' hq => pv_ian (tS rfl) rfl rfl (by omega)) ?_)
            all_goals (refine at2 14 rfl rfl rfl (fun w' hq => pv_fa (tF rfl) rfl) ?_)
            all_goals (refine at2 15 rfl rfl rfl (fun w' hq => pv_load (t1 rfl) rfl (by first | exact SlR.ld (HS.mono hq) hxk rfl | exact SlR.ld1 (HS.mono hq) hxk rfl | exact SlR.ld (HS.mono hq) hgi rfl | exact SlR.ld1 (HS.mono hq) hgi rfl)) ?_)
            all_goals (refine at2 16 rfl rfl rfl (fun w' hq => pv_move rfl) ?_)
            all_goals (refine at2 17 rfl rfl rfl (fun w' hq => pv_move rfl) ?_)
            all_goals (refine at2 18 rfl rfl rfl (fun w' hq => pv_predn rfl rfl (by omega)) ?_)
            all_goals (refine at2 19 rfl rfl rfl (fun w' hq => pv_ian (tS rfl) rfl rfl (by omega)) ?_)
            all_goals (refine at2 20 rfl rfl rfl (fun w' hq => pv_fa (tF rfl) rfl) ?_)
            all_goals (refine at2 21 rfl rfl rfl (fun w' hq => pv_load (t1 rfl) rfl (by first | exact SlR.ld (HS.mono hq) hxk rfl | exact SlR.ld1 (HS.mono hq) hxk rfl | exact SlR.ld (HS.mono hq) hgi rfl | exact SlR.ld1 (HS.mono hq) hgi rfl)) ?_)
            all_goals (refine at2 22 rfl rfl rfl (fun w' hq => pv_sleq rfl rfl) ?_)
            all_goals (refine at1 23 rfl rfl rfl rfl (fun w' hq => pv_pick_t rfl (by first | assumption | exact decide_eq_true (by omega) | exact dec_notT (by omega)) rfl) ?_)
            all_goals (refine at0 24 rfl (fun w' hq => pv_pick_f rfl rfl rfl) ?_)
            all_goals (refine at0 25 rfl (fun w' hq => pv_move rfl) ?_)
            all_goals (refine an2 26 rfl rfl rfl ?_)
            all_goals (refine an2 27 rfl rfl rfl ?_)
            all_goals (refine at0 28 rfl (fun w' hq => pv_pick_t rfl (by first | assumption | exact decide_eq_true (by omega) | exact dec_notT (by omega)) rfl) ?_)
            all_goals (refine at0 29 rfl (fun w' hq => pv_move rfl) ?_)
            all_goals (refine an1 30 rfl rfl rfl rfl ?_)
            all_goals (refine an1 31 rfl rfl rfl rfl ?_)
            all_goals (refine an1 32 rfl rfl rfl rfl ?_)
            all_goals (refine at0 33 rfl (fun w' hq => pv_pick_t rfl rfl rfl) ?_)
            all_goals (refine aw_done (by kernel_rfl) ?_; replace hw := hS; clear hS hNP)
            repeat' (first | (refine lw_pure rfl (pv_assign rfl) ?_) | (refine is_cw ?_; first | (refine cw_seq ?_) | (refine cw_region ?_) | (refine cw_true rfl rfl ?_) | (refine cw_ret ?_)) | (refine is_qw ?_; first | (with_reducible refine qw_then ?_) | (with_reducible refine qw_then_ret ?_) | (with_reducible refine qw_in_ret ?_)) | (refine lw_nil ?_))
            exact qw_ret2 rfl rfl rfl ⟨Or.inl ⟨by rw [e4]; decide, by rw [e4]⟩, hw⟩
    · have hkl : k = l.length := by omega
      subst hkl
      have hok := hgd.ok
      have h1 := hgd.srt
      have h2 := hgd.names
      have h3 := hgd.sizes
      rw [List.take_length] at h1 h2 h3 hn
      have h64 : l.length ≤ 64 := by
        by_cases h0 : 0 < l.length
        · exact hgd.cnt h0
        · omega
      subst hn
      by_cases hu : cap < usedF l
      · have e4 : (loadD cap l).1 = 44 := by unfold loadD; rw [if_neg hc, hok, if_neg (by simp), if_pos hu]
        repeat' (first | (refine lw_pure rfl (pv_move rfl) ?_) | (refine lw_pure rfl (pv_assign rfl) ?_) | (refine is_cw ?_; first | (refine cw_seq ?_) | (refine cw_region ?_) | (refine cw_true rfl (by first | assumption | exact decide_eq_true (by omega) | exact dec_notT (by omega)) ?_) | (refine cw_false rfl (by first | assumption | exact decide_eq_false (by omega) | exact dec_notF (by omega)) ?_) | (refine cw_exit ?_) | (refine cw_ret ?_)) | (refine is_qw ?_; first | (with_reducible refine qw_then ?_) | (with_reducible refine qw_in_hit ?_) | (with_reducible refine qw_then_exit ?_) | (with_reducible refine qw_then_ret ?_)) | (refine lw_nil ?_) | ((refine is_bin ?_; first | (refine lw_pure rfl (pv_lss rfl rfl) ?_) | (refine lw_pure rfl (pv_gtr rfl rfl) ?_))) | ((refine is_bi ?_; first | (refine lw_pure rfl (pv_lenl (tS rfl) rfl) ?_))))
        exact qw_ret2 rfl rfl rfl ⟨Or.inl ⟨by rw [e4]; decide, by rw [e4]⟩, hw⟩
      · have e0 : (loadD cap l).1 = 0 := by unfold loadD; rw [if_neg hc, hok, if_neg (by simp), if_neg hu]
        repeat' (first | (refine lw_pure rfl (pv_move rfl) ?_) | (refine is_cw ?_; first | (refine cw_seq ?_) | (refine cw_region ?_) | (refine cw_false rfl (by first | assumption | exact decide_eq_false (by omega) | exact dec_notF (by omega)) ?_) | (refine cw_skip ?_) | (refine cw_exit ?_)) | (refine is_qw ?_; first | (with_reducible refine qw_then ?_) | (with_reducible refine qw_in_hit ?_) | (with_reducible refine qw_then_exit ?_)) | (refine lw_nil ?_) | ((refine is_bin ?_; first | (refine lw_pure rfl (pv_lss rfl rfl) ?_) | (refine lw_pure rfl (pv_gtr rfl rfl) ?_))) | ((refine is_bi ?_; first | (refine lw_pure rfl (pv_lenl (tS rfl) rfl) ?_))))
        refine lw_bs0 (enc := encF) elemF rfl ?_; intro wn hO hb hz
        have hB := grow_trans hw hb
        repeat' (first | (refine lw_pure rfl (pv_move rfl) ?_))
        refine lw_app elemF encF_len encF_one rfl rfl rfl hO (HS.mono hB) rfl (by omega) (by simp; omega) (by simp [maxLen]; omega) ?_; intro v2 w2 hO2 hg hb2
        have hs2 := hw.size
        replace hw := hB.trans (hb2.mono hw.size)
        have hO1 : Own encF 3 35 wr.heap.size w2 v2 l := by simpa using hO2
        have hO4 := hO1.weaken hs2
        obtain ⟨a2, c2, rfl, -, -⟩ := Own.slR encF_len hO1
        clear hO1 hO2 hO hg hb2 hB hb hz
        repeat' (first | (refine lw_pure rfl (pv_move rfl) ?_) | ((refine is_bd ?_; first | (refine lw_pure rfl (tyB_87 rfl rfl rfl) ?_))))
        refine lw_boxN rfl rfl (cs := [.slice a2 l.length c2, .int .i64 cap, .int .i64 (-1), .bool false]) rfl ?_; intro N w5 hN H hb
        have hO3 := hO4.mono hb
        replace hN := Nat.le_trans hw.size hN
        replace hw := grow_trans hw hb
        repeat' (first | (refine lw_pure rfl (pv_assign rfl) ?_) | (refine is_cw ?_; first | (refine cw_ret ?_)) | (refine is_qw ?_; first | (with_reducible refine qw_then ?_)) | (refine lw_nil ?_))
        exact qw_ret2 rfl rfl rfl ⟨Or.inr ⟨e0, N, .slice a2 l.length c2, rfl, hN, ⟨H, hO3, ⟨h1, h2, h3, h64, by show (usedF l : Int) ≤ cap; omega, hcap, by show (-1 : Int) ≤ -1; omega, by show (-1 : Int) ≤ _; omega⟩⟩⟩, hw⟩

theorem rfiles_is {xs ys : List Fil} {n m : Nat} {a b : Option Addr} {ca cb : Nat} {w : World} {c : Bool} (hn : xs.length = n) (hm : ys.length = m) (HS : SlR encF 3 w a ca xs) (HT : SlR encF 3 w b cb ys) (hr : decide (xs = ys) = c) : Calls Tryd.prog 23 #[.slice a n ca, .slice b m cb] w fun e w' => e = .returned (.bool c) ∧ Below w.heap.size w w' := by
  have := rfiles_c hn hm HS HT
  rwa [hr] at this
set_option maxRecDepth 20000 in
set_option maxHeartbeats 1000000 in
theorem like_c {w : World} {N B base M : Nat} {v : Value} {d : Dsk} (hD : DkW w N B d) (hR : RkW w base M v d) : Calls Tryd.prog 25 #[.pointer (some ⟨N, 0, none⟩), .pointer (some ⟨M, 0, none⟩)] w fun e w' => e = .returned (.bool true) ∧ Below w.heap.size w w' := by
  obtain ⟨ra, rc, rfl, HR, -⟩ := Own.slR encF_len hR.own
  have H := hR.obj
  have hw := Below.refl w.heap.size w
  refine fn_enter 53 Tryd.func25 rfl rfl rfl ?_
  repeat' (first | (refine lw_pure rfl (pv_move rfl) ?_) | (refine lw_pure rfl (pv_assign rfl) ?_) | (refine is_cw ?_; first | (refine cw_seq ?_) | (refine cw_region ?_)) | (refine is_qw ?_; first | (with_reducible refine qw_then ?_)) | (refine lw_nil ?_))
  refine lw_call (f := 13) (by kernel_rfl) rfl rfl (files_c hD) ?_; rintro e w2 ⟨⟨v2, rfl, hO⟩, hb⟩; refine ⟨_, rfl, ?_⟩
  obtain ⟨na, nc, hv2, HN, -⟩ := Own.slR encF_len hO
  subst hv2
  have hNm := HN.max
  have hNl := HN.le
  have hw0 := grow_trans hw hb
  have hD2 := hD.mono hw0
  have hR2 := hR.mono hw0
  have H2 := H.mono hw0
  have HR2 := HR.mono hw0
  clear hw hb
  have hw := Below.refl w2.heap.size w2
  repeat' (first | (refine lw_pure rfl (pv_assign rfl) ?_) | (refine is_cw ?_; first | (refine cw_seq ?_)) | (refine is_qw ?_; first | (with_reducible refine qw_then ?_)) | (refine lw_nil ?_))
  have hg1 : ((!d.dark) == (!d.dark)) = true := by simp
  refine cw_drawn (fun w' => Below w2.heap.size w2 w') (by kernel_rfl) (by repeat (first | exact NoPanic.body | with_reducible refine NoPanic.then ?_ | with_reducible refine NoPanic.inBlock ?_)) (fun hNP => ?_)
  have hS := hw.drew
  all_goals (refine at0 0 rfl (fun w' hq => pv_move rfl) ?_)
  all_goals (refine at0 1 rfl (fun w' hq => pv_move rfl) ?_)
  all_goals (refine at0 2 rfl (fun w' hq => pv_nilp rfl) ?_)
  all_goals (refine at0 3 rfl (fun w' hq => pv_fa (tF rfl) rfl) ?_)
  all_goals (refine at0 4 rfl (fun w' hq => pv_load (t1 rfl) rfl (by first | exact PT.ld0 (H2.mono hq) rfl | exact PT.ld (H2.mono hq) rfl)) ?_)
  all_goals (refine aw_act 5 (by kernel_rfl) rfl rfl rfl ?_; refine act_call (f := 23) (by kernel_rfl) rfl (rfiles_is (c := true) rfl rfl (HN.mono hS) (HR2.mono hS) (decide_eq_true rfl)) ?_; rintro e w1 ⟨rfl, hb⟩; refine ⟨_, rfl, grow_trans hS hb, fun hS => ?_⟩)
  all_goals (refine at0 6 rfl (fun w' hq => pv_move rfl) ?_)
  all_goals (refine at1 7 rfl rfl rfl rfl (fun w' hq => pv_move rfl) ?_)
  all_goals (refine at1 9 rfl rfl rfl rfl (fun w' hq => pv_move rfl) ?_)
  all_goals (refine at1 10 rfl rfl rfl rfl (fun w' hq => pv_nilp rfl) ?_)
  all_goals (refine at1 11 rfl rfl rfl rfl (fun w' hq => pv_fa (tF rfl) rfl) ?_)
  all_goals (refine at1 12 rfl rfl rfl rfl (fun w' hq => pv_load (t1 rfl) rfl (by first | exact PT.ld0 (H2.mono hq) rfl | exact PT.ld (H2.mono hq) rfl)) ?_)
  all_goals (refine at1 13 rfl rfl rfl rfl (fun w' hq => pv_not rfl) ?_)
  all_goals first | (refine an3 8 rfl rfl rfl ?_) | (refine an0 8 rfl rfl rfl ?_) | (refine aw_act_g 8 (by kernel_rfl) rfl rfl rfl (by first | rfl | assumption | exact decide_eq_true (by omega) | exact decide_eq_false (by omega) | exact dec_notT (by omega) | exact dec_notF (by omega)) rfl ?_; refine act_call (f := 30) (by kernel_rfl) rfl (up_c (hD2.mono hS)) ?_; rintro e w1 ⟨rfl, hb⟩; refine ⟨_, rfl, grow_trans hS hb, fun hS => ?_⟩)
  all_goals (refine at1 14 rfl rfl rfl rfl (fun w' hq => pv_beql (tBo rfl) rfl rfl) ?_)
  all_goals (refine at0 15 rfl (fun w' hq => pv_pick_t rfl rfl rfl) ?_)
  all_goals (refine at0 16 rfl (fun w' hq => pv_move rfl) ?_)
  all_goals (refine at2 17 rfl rfl rfl (fun w' hq => pv_move rfl) ?_)
  all_goals (refine at2 19 rfl rfl rfl (fun w' hq => pv_move rfl) ?_)
  all_goals first | (refine an3 18 rfl rfl rfl ?_) | (refine an0 18 rfl rfl rfl ?_) | (refine aw_act_g 18 (by kernel_rfl) rfl rfl rfl (by first | rfl | assumption | exact decide_eq_true (by omega) | exact decide_eq_false (by omega) | exact dec_notT (by omega) | exact dec_notF (by omega)) rfl ?_; refine act_call (f := 32) (by kernel_rfl) rfl (used_c (hD2.mono hS)) ?_; rintro e w1 ⟨rfl, hb⟩; refine ⟨_, rfl, grow_trans hS hb, fun hS => ?_⟩)
  all_goals first | (refine an3 20 rfl rfl rfl ?_) | (refine an0 20 rfl rfl rfl ?_) | (refine aw_act_g 20 (by kernel_rfl) rfl rfl rfl (by first | rfl | assumption | exact decide_eq_true (by omega) | exact decide_eq_false (by omega) | exact dec_notT (by omega) | exact dec_notF (by omega)) rfl ?_; refine act_call (f := 46) (by kernel_rfl) rfl (rused_c (hR2.mono hS)) ?_; rintro e w1 ⟨rfl, hb⟩; refine ⟨_, rfl, grow_trans hS hb, fun hS => ?_⟩)
  all_goals (refine at2 21 rfl rfl rfl (fun w' hq => pv_eql rfl rfl) ?_)
  all_goals (refine at0 22 rfl (fun w' hq => pv_pick_t rfl (by first | assumption | exact decide_eq_true (by omega) | exact dec_notT (by omega)) rfl) ?_)
  all_goals (refine at0 23 rfl (fun w' hq => pv_move rfl) ?_)
  all_goals (refine at2 24 rfl rfl rfl (fun w' hq => pv_move rfl) ?_)
  all_goals (refine at2 26 rfl rfl rfl (fun w' hq => pv_move rfl) ?_)
  all_goals (refine at2 27 rfl rfl rfl (fun w' hq => pv_nilp rfl) ?_)
  all_goals (refine at2 28 rfl rfl rfl (fun w' hq => pv_fa (tF rfl) rfl) ?_)
  all_goals (refine at2 29 rfl rfl rfl (fun w' hq => pv_load (t1 rfl) rfl (by first | exact PT.ld0 (H2.mono hq) rfl | exact PT.ld (H2.mono hq) rfl)) ?_)
  all_goals first | (refine an3 25 rfl rfl rfl ?_) | (refine an0 25 rfl rfl rfl ?_) | (refine aw_act_g 25 (by kernel_rfl) rfl rfl rfl (by first | rfl | assumption | exact decide_eq_true (by omega) | exact decide_eq_false (by omega) | exact dec_notT (by omega) | exact dec_notF (by omega)) rfl ?_; refine act_call (f := 33) (by kernel_rfl) rfl (cap_c (hD2.mono hS)) ?_; rintro e w1 ⟨rfl, hb⟩; refine ⟨_, rfl, grow_trans hS hb, fun hS => ?_⟩)
  all_goals (refine at2 30 rfl rfl rfl (fun w' hq => pv_eql rfl rfl) ?_)
  all_goals (refine at0 31 rfl (fun w' hq => pv_pick_t rfl (by first | assumption | exact decide_eq_true (by omega) | exact dec_notT (by omega)) rfl) ?_)
  all_goals (refine at0 32 rfl (fun w' hq => pv_assign rfl) ?_)
  all_goals (refine aw_done (by kernel_rfl) ?_; replace hw := hS; clear hS hNP)
  repeat' (first | (refine lw_pure rfl (pv_assign rfl) ?_) | (refine is_cw ?_; first | (refine cw_seq ?_) | (refine cw_region ?_) | (refine cw_block ?_)) | (refine is_qw ?_; first | (with_reducible refine qw_then ?_)) | (refine lw_nil ?_))
  have hO2 := hO.mono hw
  have hwA := grow_trans hw0 hw
  clear hw
  refine cw_loop (σ := Nat × List Fil) (fun s => [(5, .slice na d.fs.length nc), (6, .bool (decide (d.cap = d.cap))), (7, .int .i64 (s.1 : Nat))]) (fun s wr => s.1 ≤ d.fs.length ∧ s.2.length = d.fs.length ∧ Below w.heap.size w wr ∧ Own encF 3 35 w.heap.size wr (.slice na d.fs.length nc) s.2) (fun s => d.fs.length - s.1) (0, d.fs) (by repeat' (first | exact trivial | refine ⟨rfl, ?_⟩)) ⟨Nat.zero_le _, rfl, hwA, hO2⟩ ?_
  clear hwA hO2
  rintro ⟨i, ys⟩ wr ⟨hi, hl, hw, hO2⟩
  replace hi : i ≤ d.fs.length := hi
  replace hl : ys.length = d.fs.length := hl
  replace hO2 : Own encF 3 35 w.heap.size wr (.slice na d.fs.length nc) ys := hO2
  change CW Tryd.prog _ _ _ [(5, .slice na d.fs.length nc), (6, .bool (decide (d.cap = d.cap))), (7, .int .i64 (i : Nat))] wr
  by_cases hlt : i < d.fs.length
  · obtain ⟨f, hf⟩ : ∃ f, ys[i]? = some f := ⟨_, List.getElem?_eq_getElem (by omega)⟩
    obtain ⟨ya, yc, e, HY, hY⟩ := Own.slR encF_len hO2
    injection e with e1 e2 e3
    subst e1 e3
    obtain ⟨b, off, rfl, -, -⟩ := HY.at (by intro h; rw [h] at hl; simp at hl; omega)
    obtain ⟨hge, ho0⟩ := hY _ rfl
    replace ho0 : off = 0 := ho0
    subst ho0
    repeat' (first | (refine lw_pure rfl (pv_move rfl) ?_) | (refine is_cw ?_; first | (refine cw_seq ?_) | (refine cw_region ?_) | (refine cw_true rfl (by first | assumption | exact decide_eq_true (by omega) | exact dec_notT (by omega)) ?_) | (refine cw_skip ?_) | (refine cw_block ?_)) | (refine is_qw ?_; first | (with_reducible refine qw_then ?_)) | (refine lw_nil ?_) | ((refine is_bin ?_; first | (refine lw_pure rfl (pv_lss rfl rfl) ?_))) | ((refine is_fa ?_; first | (refine lw_pure rfl (pv_fa (tF rfl) rfl) ?_))) | ((refine is_ia ?_; first | (refine lw_pure rfl (pv_ian (tS rfl) rfl rfl (by omega)) ?_))) | ((refine is_bi ?_; first | (refine lw_pure rfl (pv_lenl (tS rfl) rfl) ?_))))
    rw [← hl] at hO2
    refine lw_storeF (i := i) (f := 1) (u := ⟨f.name, (⟨#[115, 112, 111, 105, 108, 116]⟩ : ByteArray), f.pend⟩) encF_len rfl rfl (by omega) rfl rfl hO2 hf rfl (by omega) ?_; intro w5 hO5 hg5 hz5
    replace hw := st_hw hw hg5 hge
    rw [hl] at hO5
    repeat' (first | (refine lw_pure rfl (pv_move rfl) ?_) | (refine lw_pure rfl (pv_assign rfl) ?_) | (refine is_cw ?_; first | (refine cw_region ?_)) | (refine is_qw ?_; first | (with_reducible refine qw_then ?_) | (with_reducible refine qw_in ?_)) | (refine lw_nil ?_) | ((refine is_bin ?_; first | (refine lw_pure rfl (pv_inc rfl rfl (by omega)) ?_))))
    exact qw_round (i + 1, ys.set i ⟨f.name, (⟨#[115, 112, 111, 105, 108, 116]⟩ : ByteArray), f.pend⟩) (by repeat' (first | exact trivial | refine ⟨rfl, ?_⟩)) ⟨by show i + 1 ≤ _; omega, by show (ys.set i _).length = _; rw [List.length_set]; exact hl, hw, hO5⟩ (by show d.fs.length - (i + 1) < d.fs.length - i; omega)
  · repeat' (first | (refine lw_pure rfl (pv_move rfl) ?_) | (refine lw_pure rfl (pv_assign rfl) ?_) | (refine is_cw ?_; first | (refine cw_seq ?_) | (refine cw_region ?_) | (refine cw_false rfl (by first | assumption | exact decide_eq_false (by omega) | exact dec_notF (by omega)) ?_) | (refine cw_exit ?_) | (refine cw_ret ?_)) | (refine is_qw ?_; first | (with_reducible refine qw_then ?_) | (with_reducible refine qw_in_hit ?_) | (with_reducible refine qw_then_exit ?_)) | (refine lw_nil ?_) | ((refine is_bin ?_; first | (refine lw_pure rfl (pv_lss rfl rfl) ?_))) | ((refine is_bi ?_; first | (refine lw_pure rfl (pv_lenl (tS rfl) rfl) ?_))))
    exact qw_ret1 rfl rfl ⟨by rw [decide_eq_true rfl], hw⟩

structure FilB (f : Fil) : Prop where
  name : f.name.size ≤ 140737488355328
  firm : f.firm.size ≤ 140737488355328
  pend : f.pend.size ≤ 140737488355328
def allF (l : List Fil) : Nat := (l.map fun f => f.name.size + (f.firm.size + f.pend.size)).sum
theorem allF_take {l : List Fil} {k : Nat} {f : Fil} (h : l[k]? = some f) : allF (l.take (k + 1)) = allF (l.take k) + (f.name.size + (f.firm.size + f.pend.size)) := by
  unfold allF
  rw [List.take_add_one, h, List.map_append, List.sum_append_nat]
  simp
theorem allF_mem {l : List Fil} {f : Fil} (h : f ∈ l) : f.name.size + (f.firm.size + f.pend.size) ≤ allF l := by
  unfold allF
  induction l with
  | nil => cases h
  | cons a r ih =>
    rw [List.map_cons, List.sum_cons]
    rcases List.mem_cons.1 h with rfl | h
    · omega
    · have := ih h; omega
def LP (w : World) (lo : Nat) (cap : Int) (l : List Fil) (p q : Value) : Prop := ((loadD cap l).1 ≠ 0 ∧ p = .pointer none ∧ q = .pointer none) ∨ ((loadD cap l).1 = 0 ∧ ∃ N B M v, p = .pointer (some ⟨N, 0, none⟩) ∧ q = .pointer (some ⟨M, 0, none⟩) ∧ (lo ≤ N ∧ lo ≤ B ∧ lo ≤ M) ∧ DkW w N B ⟨l, cap, -1, false⟩ ∧ RkW w lo M v ⟨l, cap, -1, false⟩)
theorem LP.mono {w w' : World} {lo : Nat} {cap : Int} {l : List Fil} {p q : Value} (h : LP w lo cap l p q) (hb : Below w.heap.size w w') : LP w' lo cap l p q := by
  rcases h with h | ⟨h1, N, B, M, v, hp, hq, hl, hD, hR⟩
  · exact Or.inl h
  · exact Or.inr ⟨h1, N, B, M, v, hp, hq, hl, hD.mono hb, hR.mono hb⟩
theorem LP.gw {w w' : World} {lo g : Nat} {cap : Int} {l : List Fil} {p q : Value} (h : LP w lo cap l p q) (hg : Gw g g w w') (hlo : g < lo) : LP w' lo cap l p q := by
  rcases h with h | ⟨h1, N, B, M, v, hp, hq, hl, hD, hR⟩
  · exact Or.inl h
  · refine Or.inr ⟨h1, N, B, M, v, hp, hq, hl, hD.gw hg ⟨by omega, by omega⟩ ⟨by omega, by omega⟩, hR.gw hg ⟨by omega, by omega⟩ ?_⟩
    have : v.ownBlock ≠ some g := fun e => by have := (hR.own.lt g e).1; omega
    exact ⟨this, this⟩
theorem load_p {l : List Fil} {cap : Int} {n : Nat} {a : Option Addr} {ca : Nat} {w : World} (hn : l.length = n) (hcap : cap ≤ 9223372036854775807) (hsz : ∀ f ∈ l, f.name.size ≤ 4611686018427387903 ∧ f.firm.size ≤ 4611686018427387903 ∧ f.pend.size ≤ 4611686018427387903) (HS : SlR encF 3 w a ca l) : Calls Tryd.prog 21 #[.int .i64 cap, .slice a n ca] w fun e w' => (∃ p, e = .returned (.tuple #[p, .int .i64 (loadD cap l).1]) ∧ (((loadD cap l).1 ≠ 0 ∧ p = .pointer none) ∨ ((loadD cap l).1 = 0 ∧ ∃ N B, p = .pointer (some ⟨N, 0, none⟩) ∧ w.heap.size ≤ N ∧ w.heap.size ≤ B ∧ DkW w' N B ⟨l, cap, -1, false⟩))) ∧ Below w.heap.size w w' := by
  refine (load_c hn hcap hsz HS).mono fun e w' ⟨h, hb⟩ => ⟨?_, hb⟩
  rcases h with ⟨h1, h2⟩ | ⟨h1, N, B, h2, h3, h4, h5⟩
  · exact ⟨_, h2, Or.inl ⟨h1, rfl⟩⟩
  · exact ⟨_, by rw [h1]; exact h2, Or.inr ⟨h1, N, B, rfl, h3, h4, h5⟩⟩
theorem rload_p {l : List Fil} {cap : Int} {n : Nat} {a : Option Addr} {ca : Nat} {w : World} (hn : l.length = n) (hcap : cap ≤ 9223372036854775807) (hsz : ∀ f ∈ l, f.name.size ≤ 4611686018427387903 ∧ f.firm.size ≤ 4611686018427387903 ∧ f.pend.size ≤ 4611686018427387903) (HS : SlR encF 3 w a ca l) : Calls Tryd.prog 22 #[.int .i64 cap, .slice a n ca] w fun e w' => (∃ p, e = .returned (.tuple #[p, .int .i64 (loadD cap l).1]) ∧ (((loadD cap l).1 ≠ 0 ∧ p = .pointer none) ∨ ((loadD cap l).1 = 0 ∧ ∃ M v, p = .pointer (some ⟨M, 0, none⟩) ∧ w.heap.size ≤ M ∧ RkW w' w.heap.size M v ⟨l, cap, -1, false⟩))) ∧ Below w.heap.size w w' := by
  refine (rload_c hn hcap hsz HS).mono fun e w' ⟨h, hb⟩ => ⟨?_, hb⟩
  rcases h with ⟨h1, h2⟩ | ⟨h1, M, v, h2, h3, h4⟩
  · exact ⟨_, h2, Or.inl ⟨h1, rfl⟩⟩
  · exact ⟨_, by rw [h1]; exact h2, Or.inr ⟨h1, M, v, rfl, h3, h4⟩⟩
theorem LP.of {w2 w3 w4 : World} {lo : Nat} {cap : Int} {l : List Fil} {p q : Value} (hlo : lo ≤ w2.heap.size) (h23 : w2.heap.size ≤ w3.heap.size) (hb : Below w3.heap.size w3 w4)
    (hp : ((loadD cap l).1 ≠ 0 ∧ p = .pointer none) ∨ ((loadD cap l).1 = 0 ∧ ∃ N B, p = .pointer (some ⟨N, 0, none⟩) ∧ w2.heap.size ≤ N ∧ w2.heap.size ≤ B ∧ DkW w3 N B ⟨l, cap, -1, false⟩))
    (hq : ((loadD cap l).1 ≠ 0 ∧ q = .pointer none) ∨ ((loadD cap l).1 = 0 ∧ ∃ M v, q = .pointer (some ⟨M, 0, none⟩) ∧ w3.heap.size ≤ M ∧ RkW w4 w3.heap.size M v ⟨l, cap, -1, false⟩)) : LP w4 lo cap l p q := by
  rcases hp with ⟨h1, rfl⟩ | ⟨h1, N, B, rfl, hN, hB, hD⟩
  · rcases hq with ⟨_, rfl⟩ | ⟨h2, _⟩
    · exact Or.inl ⟨h1, rfl, rfl⟩
    · exact absurd h2 h1
  · rcases hq with ⟨h2, _⟩ | ⟨_, M, v, rfl, hM, hR⟩
    · exact absurd h1 h2
    · exact Or.inr ⟨h1, N, B, M, v, rfl, rfl, ⟨by omega, by omega, by omega⟩, hD.mono hb, ⟨hR.obj, hR.own.weaken (by omega), hR.ok⟩⟩
set_option maxRecDepth 20000 in
set_option maxHeartbeats 8000000 in
theorem loadlaw_c {l m : List Fil} {nl nm : Nat} {a b : Option Addr} {ca cb : Nat} {ka kb : Int} {tn : ByteArray} {w : World} (hl0 : l.length = nl) (hm0 : m.length = nm) (HL : SlR encF 3 w a ca l) (HM : SlR encF 3 w b cb m) (bL : ∀ f ∈ l, FilB f) (bM : ∀ f ∈ m, FilB f) (hka : ka ≤ 9223372036854775807) (hkb : kb ≤ 9223372036854775807) : Calls Tryd.prog 5 #[.int .i64 ka, .int .i64 kb, .slice a nl ca, .slice b nm cb, .string tn] w fun e w' => e = .returned (.bool true) ∧ Below w.heap.size w w' := by
  subst hl0 hm0
  have hle := HL.le
  have hmx := HL.max
  have hle2 := HM.le
  have hmx2 := HM.max
  have hw := Below.refl w.heap.size w
  refine fn_enter 216 Tryd.func5 rfl rfl rfl ?_
  by_cases h1 : 80 < l.length
  · repeat' (first | (refine lw_pure rfl (pv_move rfl) ?_) | (refine lw_pure rfl (pv_assign rfl) ?_) | ((refine lw_call (f := 11) (by kernel_rfl) rfl rfl (awake_c _) ?_; rintro e1 wz ⟨rfl, hb⟩; refine ⟨_, rfl, ?_⟩; replace hw := grow_trans hw hb; clear hb)) | (refine is_cw ?_; first | (refine cw_seq ?_) | (refine cw_region ?_) | (refine cw_true rfl rfl ?_) | (refine cw_ret ?_)) | (refine is_qw ?_; first | (with_reducible refine qw_then ?_) | (with_reducible refine qw_then_ret ?_)) | (refine lw_nil ?_) | (refine is_guarded ?_; first | (refine lw_not rfl rfl rfl rfl ?_) | (refine lw_not rfl rfl rfl (by first | assumption | exact decide_eq_true (by omega) | exact decide_eq_false (by omega) | exact dec_notT (by omega) | exact dec_notF (by omega)) ?_)) | ((refine is_bin ?_; first | (refine lw_pure rfl (pv_gtr rfl rfl) ?_))) | ((refine is_bi ?_; first | (refine lw_pure rfl (pv_lenl (tS rfl) rfl) ?_))) | (refine lw_pure rfl (pv_pick_t rfl rfl rfl) ?_) | (refine lw_pure rfl (pv_pick_t rfl (by first | assumption | exact decide_eq_true (by omega) | exact dec_notT (by omega)) rfl) ?_))
    exact qw_ret1 rfl rfl ⟨rfl, hw⟩
  by_cases h2 : 80 < m.length
  · repeat' (first | (refine lw_pure rfl (pv_move rfl) ?_) | (refine lw_pure rfl (pv_assign rfl) ?_) | ((refine lw_call (f := 11) (by kernel_rfl) rfl rfl (awake_c _) ?_; rintro e1 wz ⟨rfl, hb⟩; refine ⟨_, rfl, ?_⟩; replace hw := grow_trans hw hb; clear hb)) | (refine is_cw ?_; first | (refine cw_seq ?_) | (refine cw_region ?_) | (refine cw_true rfl rfl ?_) | (refine cw_ret ?_)) | (refine is_qw ?_; first | (with_reducible refine qw_then ?_) | (with_reducible refine qw_then_ret ?_)) | (refine lw_nil ?_) | (refine is_guarded ?_; first | (refine lw_on rfl rfl (by first | assumption | exact decide_eq_true (by omega) | exact decide_eq_false (by omega) | exact dec_notT (by omega) | exact dec_notF (by omega)) ?_) | (refine lw_not rfl rfl rfl (by first | assumption | exact decide_eq_true (by omega) | exact decide_eq_false (by omega) | exact dec_notT (by omega) | exact dec_notF (by omega)) ?_)) | ((refine is_bin ?_; first | (refine lw_pure rfl (pv_gtr rfl rfl) ?_))) | ((refine is_bi ?_; first | (refine lw_pure rfl (pv_lenl (tS rfl) rfl) ?_))) | (refine lw_pure rfl (pv_pick_t rfl (by first | assumption | exact decide_eq_true (by omega) | exact dec_notT (by omega)) rfl) ?_) | (refine lw_pure rfl (pv_pick_f rfl (by first | assumption | exact decide_eq_false (by omega) | exact dec_notF (by omega)) rfl) ?_))
    exact qw_ret1 rfl rfl ⟨rfl, hw⟩
  by_cases h3 : 200 < tn.size
  · repeat' (first | (refine lw_pure rfl (pv_move rfl) ?_) | (refine lw_pure rfl (pv_assign rfl) ?_) | ((refine lw_call (f := 11) (by kernel_rfl) rfl rfl (awake_c _) ?_; rintro e1 wz ⟨rfl, hb⟩; refine ⟨_, rfl, ?_⟩; replace hw := grow_trans hw hb; clear hb)) | (refine is_cw ?_; first | (refine cw_seq ?_) | (refine cw_region ?_) | (refine cw_true rfl (by first | assumption | exact decide_eq_true (by omega) | exact dec_notT (by omega)) ?_) | (refine cw_ret ?_)) | (refine is_qw ?_; first | (with_reducible refine qw_then ?_) | (with_reducible refine qw_then_ret ?_)) | (refine lw_nil ?_) | (refine is_guarded ?_; first | (refine lw_on rfl rfl (by first | assumption | exact decide_eq_true (by omega) | exact decide_eq_false (by omega) | exact dec_notT (by omega) | exact dec_notF (by omega)) ?_)) | ((refine is_bin ?_; first | (refine lw_pure rfl (pv_gtr rfl rfl) ?_))) | ((refine is_bi ?_; first | (refine lw_pure rfl (pv_lenl (tS rfl) rfl) ?_) | (refine lw_pure rfl (pv_lens (tStr rfl) rfl) ?_))) | (refine lw_pure rfl (pv_pick_f rfl (by first | assumption | exact decide_eq_false (by omega) | exact dec_notF (by omega)) rfl) ?_))
    exact qw_ret1 rfl rfl ⟨rfl, hw⟩
  repeat' ((fail_if_success (refine is_seqb ?_)); (fail_if_success (refine is_blk ?_)); first | (refine lw_pure rfl (pv_move rfl) ?_) | (refine lw_pure rfl (pv_assign rfl) ?_) | (refine is_cw ?_; first | (refine cw_seq ?_) | (refine cw_region ?_) | (refine cw_false rfl (by first | assumption | exact decide_eq_false (by omega) | exact dec_notF (by omega)) ?_) | (refine cw_skip ?_)) | (refine is_qw ?_; first | (with_reducible refine qw_then ?_)) | (refine lw_nil ?_) | (refine is_guarded ?_; first | (refine lw_on rfl rfl (by first | assumption | exact decide_eq_true (by omega) | exact decide_eq_false (by omega) | exact dec_notT (by omega) | exact dec_notF (by omega)) ?_)) | ((refine is_bin ?_; first | (refine lw_pure rfl (pv_gtr rfl rfl) ?_))) | ((refine is_bi ?_; first | (refine lw_pure rfl (pv_lenl (tS rfl) rfl) ?_) | (refine lw_pure rfl (pv_lens (tStr rfl) rfl) ?_))) | (refine lw_pure rfl (pv_pick_f rfl (by first | assumption | exact decide_eq_false (by omega) | exact dec_notF (by omega)) rfl) ?_))
  refine cw_cutq (σ := Nat) (fun n => [(0, .int .i64 ka), (1, .int .i64 kb), (2, .slice a l.length ca), (3, .slice b m.length cb), (4, .string tn), (11, .int .i64 (n : Nat))]) (fun n wr => n ≤ 4500000 + 4 * 140737488355328 ∧ (n ≤ 4194304 → n = allF l) ∧ Below w.heap.size w wr) ?_ ?_
  · repeat' (first | (refine is_cw ?_; first | (refine cw_block ?_)))
    refine cw_loop (σ := Nat × Nat) (fun s => [(0, .int .i64 ka), (1, .int .i64 kb), (2, .slice a l.length ca), (3, .slice b m.length cb), (4, .string tn), (11, .int .i64 (s.2 : Nat)), (12, .int .i64 (s.1 : Nat))]) (fun s wr => s.1 ≤ l.length ∧ s.2 = allF (l.take s.1) ∧ s.2 ≤ 4500000 + 4 * 140737488355328 ∧ Below w.heap.size w wr) (fun s => l.length - s.1) (0, 0) (by repeat' (first | exact trivial | refine ⟨rfl, ?_⟩)) ⟨Nat.zero_le _, rfl, Nat.zero_le _, hw⟩ ?_
    clear hw
    rintro ⟨i, n⟩ wr ⟨hi, hn, hnb, hw⟩
    replace hi : i ≤ l.length := hi
    replace hn : n = allF (l.take i) := hn
    replace hnb : n ≤ 4500000 + 4 * 140737488355328 := hnb
    change CW Tryd.prog _ _ _ [(0, .int .i64 ka), (1, .int .i64 kb), (2, .slice a l.length ca), (3, .slice b m.length cb), (4, .string tn), (11, .int .i64 (n : Nat)), (12, .int .i64 (i : Nat))] wr
    by_cases hlt : i < l.length
    · by_cases hsm : n ≤ 4194304
      · have hfi : l[i]? = some l[i] := List.getElem?_eq_getElem hlt
        generalize l[i] = f at hfi
        have hat := allF_take hfi
        obtain ⟨z1, z2, z3⟩ := bL f (List.mem_of_getElem? hfi)
        obtain ⟨ab, ao, rfl, -, -⟩ := HL.at (by intro h; rw [h] at hlt; simp at hlt)
        repeat' (first | (refine lw_pure rfl (pv_move rfl) ?_) | (refine is_cw ?_; first | (refine cw_seq ?_) | (refine cw_region ?_) | (refine cw_true rfl (by first | assumption | exact decide_eq_true (by omega) | exact dec_notT (by omega)) ?_) | (refine cw_skip ?_) | (refine cw_block ?_)) | (refine is_qw ?_; first | (with_reducible refine qw_then ?_)) | (refine lw_nil ?_) | (refine is_guarded ?_; first | (refine lw_on rfl rfl (by first | assumption | exact decide_eq_true (by omega) | exact decide_eq_false (by omega) | exact dec_notT (by omega) | exact dec_notF (by omega)) ?_)) | ((refine is_bin ?_; first | (refine lw_pure rfl (pv_lss rfl rfl) ?_) | (refine lw_pure rfl (pv_leq rfl rfl) ?_))) | ((refine is_bi ?_; first | (refine lw_pure rfl (pv_lenl (tS rfl) rfl) ?_))) | (refine lw_pure rfl (pv_pick_t rfl (by first | assumption | exact decide_eq_true (by omega) | exact dec_notT (by omega)) rfl) ?_))
        refine cw_drawn (fun w' => Below w.heap.size w w') (by kernel_rfl) (by repeat (first | exact NoPanic.body | with_reducible refine NoPanic.then ?_ | with_reducible refine NoPanic.inBlock ?_)) (fun hNP => ?_)
        have hS := hw.drew
        all_goals (refine at0 0 rfl (fun w' hq => pv_move rfl) ?_)
        all_goals (refine at0 1 rfl (fun w' hq => pv_move rfl) ?_)
        all_goals (refine at0 2 rfl (fun w' hq => pv_move rfl) ?_)
        all_goals (refine at0 3 rfl (fun w' hq => pv_ian (tS rfl) rfl rfl (by omega)) ?_)
        all_goals (refine at0 4 rfl (fun w' hq => pv_fa (tF rfl) rfl) ?_)
        all_goals (refine at0 5 rfl (fun w' hq => pv_load (t1 rfl) rfl (by first | exact SlR.ld (HL.mono hq) hfi rfl | exact SlR.ld1 (HL.mono hq) hfi rfl)) ?_)
        all_goals (refine at0 6 rfl (fun w' hq => pv_lens (tStr rfl) rfl) ?_)
        all_goals (refine at0 7 rfl (fun w' hq => pv_add rfl rfl (by omega)) ?_)
        all_goals (refine at0 8 rfl (fun w' hq => pv_move rfl) ?_)
        all_goals (refine at0 9 rfl (fun w' hq => pv_move rfl) ?_)
        all_goals (refine at0 10 rfl (fun w' hq => pv_ian (tS rfl) rfl rfl (by omega)) ?_)
        all_goals (refine at0 11 rfl (fun w' hq => pv_fa (tF rfl) rfl) ?_)
        all_goals (refine at0 12 rfl (fun w' hq => pv_load (t1 rfl) rfl (by first | exact SlR.ld (HL.mono hq) hfi rfl | exact SlR.ld1 (HL.mono hq) hfi rfl)) ?_)
        all_goals (refine at0 13 rfl (fun w' hq => pv_lens (tStr rfl) rfl) ?_)
        all_goals (refine at0 14 rfl (fun w' hq => pv_add rfl rfl (by omega)) ?_)
        all_goals (refine at0 15 rfl (fun w' hq => pv_move rfl) ?_)
        all_goals (refine at0 16 rfl (fun w' hq => pv_move rfl) ?_)
        all_goals (refine at0 17 rfl (fun w' hq => pv_ian (tS rfl) rfl rfl (by omega)) ?_)
        all_goals (refine at0 18 rfl (fun w' hq => pv_fa (tF rfl) rfl) ?_)
        all_goals (refine at0 19 rfl (fun w' hq => pv_load (t1 rfl) rfl (by first | exact SlR.ld (HL.mono hq) hfi rfl | exact SlR.ld1 (HL.mono hq) hfi rfl)) ?_)
        all_goals (refine at0 20 rfl (fun w' hq => pv_lens (tStr rfl) rfl) ?_)
        all_goals (refine at0 21 rfl (fun w' hq => pv_add rfl rfl (by omega)) ?_)
        all_goals (refine at0 22 rfl (fun w' hq => pv_assign rfl) ?_)
        all_goals (refine aw_done (by kernel_rfl) ?_; replace hw := hS; clear hS hNP)
        repeat' (first | (refine lw_pure rfl (pv_move rfl) ?_) | (refine lw_pure rfl (pv_assign rfl) ?_) | (refine is_cw ?_; first | (refine cw_region ?_)) | (refine is_qw ?_; first | (with_reducible refine qw_then ?_) | (with_reducible refine qw_in ?_)) | (refine lw_nil ?_) | ((refine is_bin ?_; first | (refine lw_pure rfl (pv_inc rfl rfl (by omega)) ?_))))
        exact qw_round (i + 1, n + f.name.size + f.firm.size + f.pend.size) (by repeat' (first | exact trivial | refine ⟨rfl, ?_⟩)) ⟨by show i + 1 ≤ _; omega, by show n + f.name.size + f.firm.size + f.pend.size = allF (l.take (i + 1)); omega, by show n + f.name.size + f.firm.size + f.pend.size ≤ _; omega, hw⟩ (by show l.length - (i + 1) < l.length - i; omega)
      · repeat' (first | (refine lw_pure rfl (pv_move rfl) ?_) | (refine is_cw ?_; first | (refine cw_seq ?_) | (refine cw_region ?_) | (refine cw_false rfl (by first | assumption | exact decide_eq_false (by omega) | exact dec_notF (by omega)) ?_) | (refine cw_exit ?_)) | (refine is_qw ?_; first | (with_reducible refine qw_then ?_) | (with_reducible refine qw_in_hit ?_) | (with_reducible refine qw_then_exit ?_)) | (refine lw_nil ?_) | (refine is_guarded ?_; first | (refine lw_on rfl rfl (by first | assumption | exact decide_eq_true (by omega) | exact decide_eq_false (by omega) | exact dec_notT (by omega) | exact dec_notF (by omega)) ?_)) | ((refine is_bin ?_; first | (refine lw_pure rfl (pv_lss rfl rfl) ?_) | (refine lw_pure rfl (pv_leq rfl rfl) ?_))) | ((refine is_bi ?_; first | (refine lw_pure rfl (pv_lenl (tS rfl) rfl) ?_))) | (refine lw_pure rfl (pv_pick_t rfl (by first | assumption | exact decide_eq_true (by omega) | exact dec_notT (by omega)) rfl) ?_))
        exact qw_join n (by repeat' (first | exact trivial | refine ⟨rfl, ?_⟩)) ⟨hnb, fun h => absurd h hsm, hw⟩
    · have hil : i = l.length := by omega
      subst hil
      rw [List.take_length] at hn
      repeat' (first | (refine lw_pure rfl (pv_move rfl) ?_) | (refine is_cw ?_; first | (refine cw_seq ?_) | (refine cw_region ?_) | (refine cw_false rfl rfl ?_) | (refine cw_exit ?_)) | (refine is_qw ?_; first | (with_reducible refine qw_then ?_) | (with_reducible refine qw_in_hit ?_) | (with_reducible refine qw_then_exit ?_)) | (refine lw_nil ?_) | (refine is_guarded ?_; first | (refine lw_not rfl rfl rfl (by first | assumption | exact decide_eq_true (by omega) | exact decide_eq_false (by omega) | exact dec_notT (by omega) | exact dec_notF (by omega)) ?_)) | ((refine is_bin ?_; first | (refine lw_pure rfl (pv_lss rfl rfl) ?_))) | ((refine is_bi ?_; first | (refine lw_pure rfl (pv_lenl (tS rfl) rfl) ?_))) | (refine lw_pure rfl (pv_pick_f rfl (by first | assumption | exact decide_eq_false (by omega) | exact dec_notF (by omega)) rfl) ?_))
      exact qw_join n (by repeat' (first | exact trivial | refine ⟨rfl, ?_⟩)) ⟨hnb, fun _ => hn, hw⟩
  · clear hw
    rintro n0 wr ⟨hn0, hna, hw⟩
    repeat' ((fail_if_success (refine is_seqb ?_)); (fail_if_success (refine is_blk ?_)); first | (refine lw_pure rfl (pv_assign rfl) ?_) | (refine is_cw ?_; first | (refine cw_seq ?_) | (refine cw_region ?_)) | (refine is_qw ?_; first | (with_reducible refine qw_then ?_)) | (refine lw_nil ?_))
    refine cw_cutq (σ := Nat) (fun n => [(0, .int .i64 ka), (1, .int .i64 kb), (2, .slice a l.length ca), (3, .slice b m.length cb), (4, .string tn), (11, .int .i64 (n : Nat))]) (fun n wr => n ≤ 4500000 + 8 * 140737488355328 ∧ (n ≤ 4194304 → n = allF l + allF m) ∧ Below w.heap.size w wr) ?_ ?_
    · repeat' (first | (refine is_cw ?_; first | (refine cw_block ?_)))
      refine cw_loop (σ := Nat × Nat) (fun s => [(0, .int .i64 ka), (1, .int .i64 kb), (2, .slice a l.length ca), (3, .slice b m.length cb), (4, .string tn), (11, .int .i64 (s.2 : Nat)), (13, .int .i64 (s.1 : Nat))]) (fun s wr => s.1 ≤ m.length ∧ s.2 = n0 + allF (m.take s.1) ∧ s.2 ≤ 4500000 + 8 * 140737488355328 ∧ Below w.heap.size w wr) (fun s => m.length - s.1) (0, n0) (by repeat' (first | exact trivial | refine ⟨rfl, ?_⟩)) ⟨Nat.zero_le _, rfl, by show n0 ≤ _; omega, hw⟩ ?_
      clear hw
      rintro ⟨i, n⟩ wr ⟨hi, hn, hnb, hw⟩
      replace hi : i ≤ m.length := hi
      replace hn : n = n0 + allF (m.take i) := hn
      replace hnb : n ≤ 4500000 + 8 * 140737488355328 := hnb
      change CW Tryd.prog _ _ _ [(0, .int .i64 ka), (1, .int .i64 kb), (2, .slice a l.length ca), (3, .slice b m.length cb), (4, .string tn), (11, .int .i64 (n : Nat)), (13, .int .i64 (i : Nat))] wr
      by_cases hlt : i < m.length
      · by_cases hsm : n ≤ 4194304
        · have hfi : m[i]? = some m[i] := List.getElem?_eq_getElem hlt
          generalize m[i] = f at hfi
          have hat := allF_take hfi
          obtain ⟨z1, z2, z3⟩ := bM f (List.mem_of_getElem? hfi)
          obtain ⟨bb, bo, rfl, -, -⟩ := HM.at (by intro h; rw [h] at hlt; simp at hlt)
          repeat' (first | (refine lw_pure rfl (pv_move rfl) ?_) | (refine is_cw ?_; first | (refine cw_seq ?_) | (refine cw_region ?_) | (refine cw_true rfl (by first | assumption | exact decide_eq_true (by omega) | exact dec_notT (by omega)) ?_) | (refine cw_skip ?_) | (refine cw_block ?_)) | (refine is_qw ?_; first | (with_reducible refine qw_then ?_)) | (refine lw_nil ?_) | (refine is_guarded ?_; first | (refine lw_on rfl rfl (by first | assumption | exact decide_eq_true (by omega) | exact decide_eq_false (by omega) | exact dec_notT (by omega) | exact dec_notF (by omega)) ?_)) | ((refine is_bin ?_; first | (refine lw_pure rfl (pv_lss rfl rfl) ?_) | (refine lw_pure rfl (pv_leq rfl rfl) ?_))) | ((refine is_bi ?_; first | (refine lw_pure rfl (pv_lenl (tS rfl) rfl) ?_))) | (refine lw_pure rfl (pv_pick_t rfl (by first | assumption | exact decide_eq_true (by omega) | exact dec_notT (by omega)) rfl) ?_))
          refine cw_drawn (fun w' => Below w.heap.size w w') (by kernel_rfl) (by repeat (first | exact NoPanic.body | with_reducible refine NoPanic.then ?_ | with_reducible refine NoPanic.inBlock ?_)) (fun hNP => ?_)
          have hS := hw.drew
          all_goals (refine at0 0 rfl (fun w' hq => pv_move rfl) ?_)
          all_goals (refine at0 1 rfl (fun w' hq => pv_move rfl) ?_)
          all_goals (refine at0 2 rfl (fun w' hq => pv_move rfl) ?_)
          all_goals (refine at0 3 rfl (fun w' hq => pv_ian (tS rfl) rfl rfl (by omega)) ?_)
          all_goals (refine at0 4 rfl (fun w' hq => pv_fa (tF rfl) rfl) ?_)
          all_goals (refine at0 5 rfl (fun w' hq => pv_load (t1 rfl) rfl (by first | exact SlR.ld (HM.mono hq) hfi rfl | exact SlR.ld1 (HM.mono hq) hfi rfl)) ?_)
          all_goals (refine at0 6 rfl (fun w' hq => pv_lens (tStr rfl) rfl) ?_)
          all_goals (refine at0 7 rfl (fun w' hq => pv_add rfl rfl (by omega)) ?_)
          all_goals (refine at0 8 rfl (fun w' hq => pv_move rfl) ?_)
          all_goals (refine at0 9 rfl (fun w' hq => pv_move rfl) ?_)
          all_goals (refine at0 10 rfl (fun w' hq => pv_ian (tS rfl) rfl rfl (by omega)) ?_)
          all_goals (refine at0 11 rfl (fun w' hq => pv_fa (tF rfl) rfl) ?_)
          all_goals (refine at0 12 rfl (fun w' hq => pv_load (t1 rfl) rfl (by first | exact SlR.ld (HM.mono hq) hfi rfl | exact SlR.ld1 (HM.mono hq) hfi rfl)) ?_)
          all_goals (refine at0 13 rfl (fun w' hq => pv_lens (tStr rfl) rfl) ?_)
          all_goals (refine at0 14 rfl (fun w' hq => pv_add rfl rfl (by omega)) ?_)
          all_goals (refine at0 15 rfl (fun w' hq => pv_move rfl) ?_)
          all_goals (refine at0 16 rfl (fun w' hq => pv_move rfl) ?_)
          all_goals (refine at0 17 rfl (fun w' hq => pv_ian (tS rfl) rfl rfl (by omega)) ?_)
          all_goals (refine at0 18 rfl (fun w' hq => pv_fa (tF rfl) rfl) ?_)
          all_goals (refine at0 19 rfl (fun w' hq => pv_load (t1 rfl) rfl (by first | exact SlR.ld (HM.mono hq) hfi rfl | exact SlR.ld1 (HM.mono hq) hfi rfl)) ?_)
          all_goals (refine at0 20 rfl (fun w' hq => pv_lens (tStr rfl) rfl) ?_)
          all_goals (refine at0 21 rfl (fun w' hq => pv_add rfl rfl (by omega)) ?_)
          all_goals (refine at0 22 rfl (fun w' hq => pv_assign rfl) ?_)
          all_goals (refine aw_done (by kernel_rfl) ?_; replace hw := hS; clear hS hNP)
          repeat' (first | (refine lw_pure rfl (pv_move rfl) ?_) | (refine lw_pure rfl (pv_assign rfl) ?_) | (refine is_cw ?_; first | (refine cw_region ?_)) | (refine is_qw ?_; first | (with_reducible refine qw_then ?_) | (with_reducible refine qw_in ?_)) | (refine lw_nil ?_) | ((refine is_bin ?_; first | (refine lw_pure rfl (pv_inc rfl rfl (by omega)) ?_))))
          exact qw_round (i + 1, n + f.name.size + f.firm.size + f.pend.size) (by repeat' (first | exact trivial | refine ⟨rfl, ?_⟩)) ⟨by show i + 1 ≤ _; omega, by show n + f.name.size + f.firm.size + f.pend.size = n0 + allF (m.take (i + 1)); omega, by show n + f.name.size + f.firm.size + f.pend.size ≤ _; omega, hw⟩ (by show m.length - (i + 1) < m.length - i; omega)
        · repeat' (first | (refine lw_pure rfl (pv_move rfl) ?_) | (refine is_cw ?_; first | (refine cw_seq ?_) | (refine cw_region ?_) | (refine cw_false rfl (by first | assumption | exact decide_eq_false (by omega) | exact dec_notF (by omega)) ?_) | (refine cw_exit ?_)) | (refine is_qw ?_; first | (with_reducible refine qw_then ?_) | (with_reducible refine qw_in_hit ?_) | (with_reducible refine qw_then_exit ?_)) | (refine lw_nil ?_) | (refine is_guarded ?_; first | (refine lw_on rfl rfl (by first | assumption | exact decide_eq_true (by omega) | exact decide_eq_false (by omega) | exact dec_notT (by omega) | exact dec_notF (by omega)) ?_)) | ((refine is_bin ?_; first | (refine lw_pure rfl (pv_lss rfl rfl) ?_) | (refine lw_pure rfl (pv_leq rfl rfl) ?_))) | ((refine is_bi ?_; first | (refine lw_pure rfl (pv_lenl (tS rfl) rfl) ?_))) | (refine lw_pure rfl (pv_pick_t rfl (by first | assumption | exact decide_eq_true (by omega) | exact dec_notT (by omega)) rfl) ?_))
          exact qw_join n (by repeat' (first | exact trivial | refine ⟨rfl, ?_⟩)) ⟨hnb, fun h => absurd h hsm, hw⟩
      · have hil : i = m.length := by omega
        subst hil
        rw [List.take_length] at hn
        repeat' (first | (refine lw_pure rfl (pv_move rfl) ?_) | (refine is_cw ?_; first | (refine cw_seq ?_) | (refine cw_region ?_) | (refine cw_false rfl rfl ?_) | (refine cw_exit ?_)) | (refine is_qw ?_; first | (with_reducible refine qw_then ?_) | (with_reducible refine qw_in_hit ?_) | (with_reducible refine qw_then_exit ?_)) | (refine lw_nil ?_) | (refine is_guarded ?_; first | (refine lw_not rfl rfl rfl (by first | assumption | exact decide_eq_true (by omega) | exact decide_eq_false (by omega) | exact dec_notT (by omega) | exact dec_notF (by omega)) ?_)) | ((refine is_bin ?_; first | (refine lw_pure rfl (pv_lss rfl rfl) ?_))) | ((refine is_bi ?_; first | (refine lw_pure rfl (pv_lenl (tS rfl) rfl) ?_))) | (refine lw_pure rfl (pv_pick_f rfl (by first | assumption | exact decide_eq_false (by omega) | exact dec_notF (by omega)) rfl) ?_))
        exact qw_join n (by repeat' (first | exact trivial | refine ⟨rfl, ?_⟩)) ⟨hnb, fun h => by have := hna (by omega); omega, hw⟩
    · clear hw
      rintro n wr ⟨hn1, hnm, hw⟩
      by_cases h22 : 4194304 < n
      · repeat' (first | (refine lw_pure rfl (pv_move rfl) ?_) | (refine lw_pure rfl (pv_assign rfl) ?_) | ((refine lw_call (f := 11) (by kernel_rfl) rfl rfl (awake_c _) ?_; rintro e1 wz ⟨rfl, hb⟩; refine ⟨_, rfl, ?_⟩; replace hw := grow_trans hw hb; clear hb)) | (refine is_cw ?_; first | (refine cw_seq ?_) | (refine cw_region ?_) | (refine cw_true rfl (by first | assumption | exact decide_eq_true (by omega) | exact dec_notT (by omega)) ?_) | (refine cw_ret ?_)) | (refine is_qw ?_; first | (with_reducible refine qw_then ?_) | (with_reducible refine qw_then_ret ?_)) | (refine lw_nil ?_) | ((refine is_bin ?_; first | (refine lw_pure rfl (pv_gtr rfl rfl) ?_))))
        exact qw_ret1 rfl rfl ⟨rfl, hw⟩
      replace hnm := hnm (by omega)
      have hsl : ∀ f ∈ l, f.name.size ≤ 4611686018427387903 ∧ f.firm.size ≤ 4611686018427387903 ∧ f.pend.size ≤ 4611686018427387903 := fun f hf => by
        have := allF_mem hf
        exact ⟨by omega, by omega, by omega⟩
      have hsm : ∀ f ∈ m, f.name.size ≤ 4611686018427387903 ∧ f.firm.size ≤ 4611686018427387903 ∧ f.pend.size ≤ 4611686018427387903 := fun f hf => by
        have := allF_mem hf
        exact ⟨by omega, by omega, by omega⟩
      repeat' (first | (refine lw_pure rfl (pv_move rfl) ?_) | (refine is_cw ?_; first | (refine cw_seq ?_) | (refine cw_region ?_) | (refine cw_false rfl (by first | assumption | exact decide_eq_false (by omega) | exact dec_notF (by omega)) ?_) | (refine cw_skip ?_)) | (refine is_qw ?_; first | (with_reducible refine qw_then ?_)) | (refine lw_nil ?_) | ((refine is_bin ?_; first | (refine lw_pure rfl (pv_gtr rfl rfl) ?_))))
      refine lw_bs0 (enc := encF) elemF rfl ?_; intro wn hO hb hz
      have hB := grow_trans hw hb
      repeat' (first | (refine lw_pure rfl (pv_move rfl) ?_))
      refine lw_app elemF encF_len encF_one rfl rfl rfl hO (HL.mono hB) rfl (by omega) (by simp; omega) (by simp [maxLen]; omega) ?_; intro v2 w2 hO2 hg2 hb2
      have hO1 : Own encF 3 35 wr.heap.size w2 v2 l := by simpa using hO2
      replace hO1 := hO1.weaken hw.size
      replace hw := hB.trans (hb2.mono hw.size)
      clear hO hO2 hg2 hb2 hB hb hz
      obtain ⟨ga, gc, rfl, HG, hga⟩ := Own.slR encF_len hO1
      have hG0 : ∀ y, ga = some y → w.heap.size ≤ y.block ∧ y.block < w2.heap.size := fun y hy => hO1.lt y.block (by rw [hy]; rfl)
      clear hga
      repeat' (first | (refine lw_pure rfl (pv_move rfl) ?_) | (refine lw_pure rfl (pv_assign rfl) ?_) | (refine is_cw ?_; first | (refine cw_seq ?_) | (refine cw_region ?_)) | (refine is_qw ?_; first | (with_reducible refine qw_then ?_)) | (refine lw_nil ?_))
      refine lw_call (f := 21) (by kernel_rfl) rfl rfl (load_p rfl hka hsl HG) ?_; rintro e w3 ⟨⟨p1, rfl, hp1⟩, hb⟩; refine ⟨_, rfl, ?_⟩
      have hs23 := hb.size
      replace hO1 := hO1.mono hb
      replace HG := HG.mono hb
      replace hw := grow_trans hw hb
      clear hb
      repeat' (first | (refine lw_pure rfl (pv_move rfl) ?_) | (refine lw_pure rfl (pv_assign rfl) ?_) | (refine is_cw ?_; first | (refine cw_seq ?_) | (refine cw_region ?_)) | (refine is_qw ?_; first | (with_reducible refine qw_then ?_)) | (refine lw_nil ?_) | (refine lw_pure rfl (pv_extract rfl rfl) ?_))
      refine lw_call (f := 22) (by kernel_rfl) rfl rfl (rload_p rfl hka hsl (HL.mono hw)) ?_; rintro e w4 ⟨⟨q1, rfl, hq1⟩, hb⟩; refine ⟨_, rfl, ?_⟩
      have hP := LP.of (Nat.le_refl _) hs23 hb hp1 hq1
      have hs34 := hb.size
      replace hO1 := hO1.mono hb
      replace HG := HG.mono hb
      replace hw := grow_trans hw hb
      clear hb hp1 hq1
      repeat' (first | (refine lw_pure rfl (pv_move rfl) ?_) | (refine lw_pure rfl (pv_assign rfl) ?_) | (refine is_cw ?_; first | (refine cw_seq ?_) | (refine cw_region ?_)) | (refine is_qw ?_; first | (with_reducible refine qw_then ?_)) | (refine lw_nil ?_) | (refine lw_pure rfl (pv_extract rfl rfl) ?_))
      refine lw_call (f := 21) (by kernel_rfl) rfl rfl (load_p rfl hkb hsm (HM.mono hw)) ?_; rintro e w5 ⟨⟨p2, rfl, hp2⟩, hb⟩; refine ⟨_, rfl, ?_⟩
      have hs45 := hb.size
      replace hO1 := hO1.mono hb
      replace HG := HG.mono hb
      replace hP := hP.mono hb
      replace hw := grow_trans hw hb
      clear hb
      repeat' (first | (refine lw_pure rfl (pv_move rfl) ?_) | (refine lw_pure rfl (pv_assign rfl) ?_) | (refine is_cw ?_; first | (refine cw_seq ?_) | (refine cw_region ?_)) | (refine is_qw ?_; first | (with_reducible refine qw_then ?_)) | (refine lw_nil ?_) | (refine lw_pure rfl (pv_extract rfl rfl) ?_))
      refine lw_call (f := 22) (by kernel_rfl) rfl rfl (rload_p rfl hkb hsm (HM.mono hw)) ?_; rintro e w6 ⟨⟨q2, rfl, hq2⟩, hb⟩; refine ⟨_, rfl, ?_⟩
      have hQ := LP.of (lo := w2.heap.size) (Nat.le_trans hs23 hs34) hs45 hb hp2 hq2
      replace hO1 := hO1.mono hb
      replace HG := HG.mono hb
      replace hP := hP.mono hb
      replace hw := grow_trans hw hb
      clear hb hp2 hq2
      have hz3 : tn.size ≤ 9223372036854775807 := by omega
      have hgn : (nameF tn != nameF tn) = false := by simp
      repeat' (first | (refine lw_pure rfl (pv_move rfl) ?_) | (refine lw_pure rfl (pv_assign rfl) ?_) | (refine is_cw ?_; first | (refine cw_seq ?_) | (refine cw_region ?_)) | (refine is_qw ?_; first | (with_reducible refine qw_then ?_)) | (refine lw_nil ?_) | (refine is_guarded ?_; first | (refine lw_on rfl rfl (by first | assumption | exact decide_eq_true (by omega) | exact decide_eq_false (by omega) | exact dec_notT (by omega) | exact dec_notF (by omega)) ?_)) | ((refine is_bin ?_; first | (refine lw_pure rfl (pv_neq rfl rfl) ?_))) | (refine lw_pure rfl (pv_pick_f rfl (by first | assumption | exact decide_eq_false (by omega) | exact dec_notF (by omega)) rfl) ?_) | (refine lw_pure rfl (pv_extract rfl rfl) ?_))
      refine lw_call (f := 23) (by kernel_rfl) rfl rfl (rfiles_is (c := true) rfl rfl HG (HL.mono hw) (decide_eq_true rfl)) ?_; rintro e w1 ⟨rfl, hb⟩; refine ⟨_, rfl, ?_⟩; (replace hO1 := hO1.mono hb; replace hP := hP.mono hb; replace hQ := hQ.mono hb); replace hw := grow_trans hw hb; clear hb
      clear HG
      repeat' (first | (refine lw_pure rfl (pv_move rfl) ?_) | (refine is_guarded ?_; first | (refine lw_on rfl rfl rfl ?_) | (refine lw_on rfl rfl (by first | assumption | exact decide_eq_true (by omega) | exact decide_eq_false (by omega) | exact dec_notT (by omega) | exact dec_notF (by omega)) ?_)) | ((refine is_un ?_; first | (refine lw_pure rfl (pv_not rfl) ?_))) | (refine lw_pure rfl (pv_pick_f rfl (by first | assumption | exact decide_eq_false (by omega) | exact dec_notF (by omega)) rfl) ?_))
      refine lw_call (f := 18) (by kernel_rfl) rfl rfl (name_c hz3 _) ?_; rintro e w1 ⟨rfl, hb⟩; refine ⟨_, rfl, ?_⟩; (replace hO1 := hO1.mono hb; replace hP := hP.mono hb; replace hQ := hQ.mono hb); replace hw := grow_trans hw hb; clear hb
      repeat' (first | (refine lw_pure rfl (pv_move rfl) ?_) | (refine is_guarded ?_; first | (refine lw_on rfl rfl rfl ?_)))
      refine lw_call (f := 24) (by kernel_rfl) rfl rfl (rname_c hz3 _) ?_; rintro e w1 ⟨rfl, hb⟩; refine ⟨_, rfl, ?_⟩; (replace hO1 := hO1.mono hb; replace hP := hP.mono hb; replace hQ := hQ.mono hb); replace hw := grow_trans hw hb; clear hb
      repeat' ((fail_if_success (refine is_seqr 21 ?_)); first | (refine is_cw ?_; first | (refine cw_seq ?_) | (refine cw_false rfl (by first | assumption | exact decide_eq_false (by omega) | exact dec_notF (by omega)) ?_) | (refine cw_skip ?_)) | (refine is_qw ?_; first | (with_reducible refine qw_then ?_)) | (refine lw_nil ?_) | (refine is_guarded ?_; first | (refine lw_on rfl rfl rfl ?_)) | ((refine is_bin ?_; first | (refine lw_pure rfl (pv_bneq (tBo rfl) rfl rfl) ?_))) | (refine lw_pure rfl (pv_pick_f rfl rfl rfl) ?_))
      refine cw_seq ?_
      refine cw_cutq (σ := Unit) (fun _ => [(14, .slice ga l.length gc), (15, p1), (16, .int .i64 (loadD ka l).1), (17, q1), (19, p2), (20, .int .i64 (loadD kb m).1), (21, q2), (168, .bool false)]) (fun _ wr => Below w.heap.size w wr ∧ Own encF 3 35 w.heap.size wr (.slice ga l.length gc) l ∧ LP wr w2.heap.size ka l p1 q1 ∧ LP wr w2.heap.size kb m p2 q2) ?_ ?_
      · rcases id hP with ⟨h0, rfl, rfl⟩ | ⟨h0, N, B, M, v, rfl, rfl, hlo, hD, hR⟩
        · repeat' (first | (refine lw_pure rfl (pv_move rfl) ?_) | (refine is_cw ?_; first | (refine cw_region ?_)) | (refine lw_nil ?_) | (refine is_guarded ?_; first | (refine lw_on rfl rfl rfl ?_) | (refine lw_on rfl rfl (by first | assumption | exact decide_eq_true (by omega) | exact decide_eq_false (by omega) | exact dec_notT (by omega) | exact dec_notF (by omega)) ?_) | (refine lw_not rfl rfl rfl (by first | assumption | exact decide_eq_true (by omega) | exact decide_eq_false (by omega) | exact dec_notT (by omega) | exact dec_notF (by omega)) ?_)) | ((refine is_bin ?_; first | (refine lw_pure rfl (pv_pnnil tpD rfl rfl) ?_) | (refine lw_pure rfl (pv_eql rfl rfl) ?_) | (refine lw_pure rfl (pv_neq rfl rfl) ?_))) | (refine lw_pure rfl (pv_pick_f rfl rfl rfl) ?_) | (refine lw_pure rfl (pv_pick_t rfl (by first | assumption | exact decide_eq_true (by omega) | exact dec_notT (by omega)) rfl) ?_) | (refine lw_pure rfl (pv_pick_f rfl (by first | assumption | exact decide_eq_false (by omega) | exact dec_notF (by omega)) rfl) ?_))
          exact qw_join () (by repeat' (first | exact trivial | refine ⟨rfl, ?_⟩)) ⟨hw, hO1, hP, hQ⟩
        · repeat' (first | (refine lw_pure rfl (pv_move rfl) ?_) | (refine is_cw ?_; first | (refine cw_region ?_)) | (refine is_guarded ?_; first | (refine lw_on rfl rfl (by first | assumption | exact decide_eq_true (by omega) | exact decide_eq_false (by omega) | exact dec_notT (by omega) | exact dec_notF (by omega)) ?_)) | ((refine is_bin ?_; first | (refine lw_pure rfl (pv_eql rfl rfl) ?_))))
          refine lw_call (f := 25) (by kernel_rfl) rfl rfl (like_c hD hR) ?_; rintro e w1 ⟨rfl, hb⟩; refine ⟨_, rfl, ?_⟩; (replace hO1 := hO1.mono hb; replace hP := hP.mono hb; replace hQ := hQ.mono hb); replace hw := grow_trans hw hb; clear hb
          repeat' (first | (refine lw_pure rfl (pv_move rfl) ?_) | (refine lw_nil ?_) | (refine is_guarded ?_; first | (refine lw_on rfl rfl rfl ?_) | (refine lw_on rfl rfl (by first | assumption | exact decide_eq_true (by omega) | exact decide_eq_false (by omega) | exact dec_notT (by omega) | exact dec_notF (by omega)) ?_) | (refine lw_not rfl rfl rfl (by first | assumption | exact decide_eq_true (by omega) | exact decide_eq_false (by omega) | exact dec_notT (by omega) | exact dec_notF (by omega)) ?_)) | ((refine is_bin ?_; first | (refine lw_pure rfl (pv_neq rfl rfl) ?_))) | ((refine is_un ?_; first | (refine lw_pure rfl (pv_not rfl) ?_))) | (refine lw_pure rfl (pv_pick_f rfl rfl rfl) ?_) | (refine lw_pure rfl (pv_pick_t rfl (by first | assumption | exact decide_eq_true (by omega) | exact dec_notT (by omega)) rfl) ?_) | (refine lw_pure rfl (pv_pick_f rfl (by first | assumption | exact decide_eq_false (by omega) | exact dec_notF (by omega)) rfl) ?_))
          exact qw_join () (by repeat' (first | exact trivial | refine ⟨rfl, ?_⟩)) ⟨hw, hO1, hP, hQ⟩
      · clear hw hO1 hP hQ
        rintro _ wr2 ⟨hw, hO1, hP, hQ⟩
        repeat' (first | (refine lw_pure rfl (pv_assign rfl) ?_) | (refine is_cw ?_; first | (refine cw_seq ?_) | (refine cw_region ?_) | (refine cw_false rfl rfl ?_) | (refine cw_skip ?_) | (refine cw_block ?_)) | (refine is_qw ?_; first | (with_reducible refine qw_then ?_)) | (refine lw_nil ?_))
        refine cw_loop (σ := Nat × List Fil) (fun s => [(14, .slice ga l.length gc), (15, p1), (16, .int .i64 (loadD ka l).1), (17, q1), (19, p2), (20, .int .i64 (loadD kb m).1), (21, q2), (23, .int .i64 (s.1 : Nat))]) (fun s wr => s.1 ≤ l.length ∧ s.2.length = l.length ∧ Below w.heap.size w wr ∧ Own encF 3 35 w.heap.size wr (.slice ga l.length gc) s.2 ∧ LP wr w2.heap.size ka l p1 q1 ∧ LP wr w2.heap.size kb m p2 q2) (fun s => l.length - s.1) (0, l) (by repeat' (first | exact trivial | refine ⟨rfl, ?_⟩)) ⟨Nat.zero_le _, rfl, hw, hO1, hP, hQ⟩ ?_
        clear hw hO1 hP hQ
        rintro ⟨i, ys⟩ wr ⟨hi, hl, hw, hO2, hP, hQ⟩
        replace hi : i ≤ l.length := hi
        replace hl : ys.length = l.length := hl
        replace hO2 : Own encF 3 35 w.heap.size wr (.slice ga l.length gc) ys := hO2
        change CW Tryd.prog _ _ _ [(14, .slice ga l.length gc), (15, p1), (16, .int .i64 (loadD ka l).1), (17, q1), (19, p2), (20, .int .i64 (loadD kb m).1), (21, q2), (23, .int .i64 (i : Nat))] wr
        by_cases hlt : i < l.length
        · obtain ⟨f, hf⟩ : ∃ f, ys[i]? = some f := ⟨_, List.getElem?_eq_getElem (by omega)⟩
          obtain ⟨ya, yc, e, HY, hY⟩ := Own.slR encF_len hO2
          injection e with e1 e2 e3
          subst e1 e3
          obtain ⟨g, off, rfl, -, -⟩ := HY.at (by intro h; rw [h] at hl; simp at hl; omega)
          obtain ⟨hge, ho0⟩ := hY _ rfl
          replace ho0 : off = 0 := ho0
          subst ho0
          have hlt2 := (hG0 _ rfl).2
          replace hlt2 : g < w2.heap.size := hlt2
          repeat' (first | (refine lw_pure rfl (pv_move rfl) ?_) | (refine is_cw ?_; first | (refine cw_seq ?_) | (refine cw_region ?_) | (refine cw_true rfl (by first | assumption | exact decide_eq_true (by omega) | exact dec_notT (by omega)) ?_) | (refine cw_skip ?_) | (refine cw_block ?_)) | (refine is_qw ?_; first | (with_reducible refine qw_then ?_)) | (refine lw_nil ?_) | ((refine is_bin ?_; first | (refine lw_pure rfl (pv_lss rfl rfl) ?_))) | ((refine is_fa ?_; first | (refine lw_pure rfl (pv_fa (tF rfl) rfl) ?_))) | ((refine is_ia ?_; first | (refine lw_pure rfl (pv_ian (tS rfl) rfl rfl (by omega)) ?_))) | ((refine is_bi ?_; first | (refine lw_pure rfl (pv_lenl (tS rfl) rfl) ?_))))
          rw [← hl] at hO2
          refine lw_storeF (i := i) (f := 1) (u := ⟨f.name, (⟨#[115, 112, 111, 105, 108, 116]⟩ : ByteArray), f.pend⟩) encF_len rfl rfl (by omega) rfl rfl hO2 hf rfl (by omega) ?_; intro w5 hO5 hg5 hz5
          replace hP := hP.gw (Gw.of_b hg5) hlt2
          replace hQ := hQ.gw (Gw.of_b hg5) hlt2
          replace hw := st_hw hw hg5 hge
          rw [hl] at hO5
          repeat' (first | (refine lw_pure rfl (pv_move rfl) ?_) | (refine lw_pure rfl (pv_assign rfl) ?_) | (refine is_cw ?_; first | (refine cw_region ?_)) | (refine is_qw ?_; first | (with_reducible refine qw_then ?_) | (with_reducible refine qw_in ?_)) | (refine lw_nil ?_) | ((refine is_bin ?_; first | (refine lw_pure rfl (pv_inc rfl rfl (by omega)) ?_))))
          exact qw_round (i + 1, ys.set i ⟨f.name, (⟨#[115, 112, 111, 105, 108, 116]⟩ : ByteArray), f.pend⟩) (by repeat' (first | exact trivial | refine ⟨rfl, ?_⟩)) ⟨by show i + 1 ≤ _; omega, by show (ys.set i _).length = _; rw [List.length_set]; exact hl, hw, hO5, hP, hQ⟩ (by show l.length - (i + 1) < l.length - i; omega)
        · clear hO2
          repeat' ((fail_if_success (refine is_seqr 27 ?_)); first | (refine lw_pure rfl (pv_move rfl) ?_) | (refine is_cw ?_; first | (refine cw_seq ?_) | (refine cw_region ?_) | (refine cw_false rfl (by first | assumption | exact decide_eq_false (by omega) | exact dec_notF (by omega)) ?_) | (refine cw_exit ?_)) | (refine is_qw ?_; first | (with_reducible refine qw_then ?_) | (with_reducible refine qw_in_hit ?_) | (with_reducible refine qw_then_exit ?_)) | (refine lw_nil ?_) | ((refine is_bin ?_; first | (refine lw_pure rfl (pv_lss rfl rfl) ?_))) | ((refine is_bi ?_; first | (refine lw_pure rfl (pv_lenl (tS rfl) rfl) ?_))))
          refine cw_seq ?_
          refine cw_cutq (σ := Unit) (fun _ => [(15, p1), (16, .int .i64 (loadD ka l).1), (17, q1), (19, p2), (20, .int .i64 (loadD kb m).1), (21, q2), (186, .bool false)]) (fun _ wr => Below w.heap.size w wr ∧ LP wr w2.heap.size ka l p1 q1 ∧ LP wr w2.heap.size kb m p2 q2) ?_ ?_
          · rcases id hP with ⟨h0, rfl, rfl⟩ | ⟨h0, N, B, M, v, rfl, rfl, hlo, hD, hR⟩
            · repeat' (first | (refine lw_pure rfl (pv_move rfl) ?_) | (refine is_cw ?_; first | (refine cw_region ?_)) | (refine lw_nil ?_) | (refine is_guarded ?_; first | (refine lw_not rfl rfl rfl (by first | assumption | exact decide_eq_true (by omega) | exact decide_eq_false (by omega) | exact dec_notT (by omega) | exact dec_notF (by omega)) ?_)) | ((refine is_bin ?_; first | (refine lw_pure rfl (pv_eql rfl rfl) ?_))) | (refine lw_pure rfl (pv_pick_f rfl (by first | assumption | exact decide_eq_false (by omega) | exact dec_notF (by omega)) rfl) ?_))
              exact qw_join () (by repeat' (first | exact trivial | refine ⟨rfl, ?_⟩)) ⟨hw, hP, hQ⟩
            · repeat' (first | (refine lw_pure rfl (pv_move rfl) ?_) | (refine is_cw ?_; first | (refine cw_region ?_)) | (refine is_guarded ?_; first | (refine lw_on rfl rfl (by first | assumption | exact decide_eq_true (by omega) | exact decide_eq_false (by omega) | exact dec_notT (by omega) | exact dec_notF (by omega)) ?_)) | ((refine is_bin ?_; first | (refine lw_pure rfl (pv_eql rfl rfl) ?_))))
              refine lw_call (f := 25) (by kernel_rfl) rfl rfl (like_c hD hR) ?_; rintro e w1 ⟨rfl, hb⟩; refine ⟨_, rfl, ?_⟩; (replace hP := hP.mono hb; replace hQ := hQ.mono hb); replace hw := grow_trans hw hb; clear hb
              repeat' (first | (refine lw_nil ?_) | (refine is_guarded ?_; first | (refine lw_on rfl rfl (by first | assumption | exact decide_eq_true (by omega) | exact decide_eq_false (by omega) | exact dec_notT (by omega) | exact dec_notF (by omega)) ?_)) | ((refine is_un ?_; first | (refine lw_pure rfl (pv_not rfl) ?_))) | (refine lw_pure rfl (pv_pick_t rfl (by first | assumption | exact decide_eq_true (by omega) | exact dec_notT (by omega)) rfl) ?_))
              exact qw_join () (by repeat' (first | exact trivial | refine ⟨rfl, ?_⟩)) ⟨hw, hP, hQ⟩
          · clear hw hP hQ
            rintro _ wr3 ⟨hw, hP, hQ⟩
            rcases hP with ⟨h0, rfl, rfl⟩ | ⟨h0, N, B, M, v, rfl, rfl, hlo, hD, hR⟩
            · rcases hQ with ⟨h9, rfl, rfl⟩ | ⟨h9, N2, B2, M2, v2, rfl, rfl, hlo2, hD2, hR2⟩
              · have hgx : (true == !decide ((loadD kb m).1 = 0)) = true := by rw [decide_eq_false h9]; rfl
                repeat' (first | (refine lw_pure rfl (pv_move rfl) ?_) | (refine is_cw ?_; first | (refine cw_seq ?_) | (refine cw_region ?_) | (refine cw_true rfl rfl ?_) | (refine cw_false rfl rfl ?_) | (refine cw_skip ?_)) | (refine is_qw ?_; first | (with_reducible refine qw_then ?_)) | (refine lw_nil ?_) | (refine is_guarded ?_; first | (refine lw_not rfl rfl rfl (by first | assumption | exact decide_eq_true (by omega) | exact decide_eq_false (by omega) | exact dec_notT (by omega) | exact dec_notF (by omega)) ?_)) | ((refine is_bin ?_; first | (refine lw_pure rfl (pv_neq rfl rfl) ?_))) | (refine lw_pure rfl (pv_pick_t rfl (by first | assumption | exact decide_eq_true (by omega) | exact dec_notT (by omega)) rfl) ?_))
                refine lw_call (f := 26) (by kernel_rfl) rfl rfl (same00_c _) ?_; rintro e w1 ⟨rfl, hb⟩; refine ⟨_, rfl, ?_⟩; skip; replace hw := grow_trans hw hb; clear hb
                repeat' (first | (refine lw_pure rfl (pv_move rfl) ?_) | (refine lw_pure rfl (pv_assign rfl) ?_) | ((refine lw_call (f := 11) (by kernel_rfl) rfl rfl (awake_c _) ?_; rintro e1 wz ⟨rfl, hb⟩; refine ⟨_, rfl, ?_⟩; replace hw := grow_trans hw hb; clear hb)) | (refine is_cw ?_; first | (refine cw_ret ?_)) | (refine is_qw ?_; first | (with_reducible refine qw_then ?_) | (with_reducible refine qw_then_ret ?_)) | (refine lw_nil ?_) | (refine is_guarded ?_; first | (refine lw_on rfl rfl (by first | assumption | exact decide_eq_true (by omega) | exact decide_eq_false (by omega) | exact dec_notT (by omega) | exact dec_notF (by omega)) ?_)) | ((refine is_bin ?_; first | (refine lw_pure rfl (pv_neq rfl rfl) ?_) | (refine lw_pure rfl (pv_beql (tBo rfl) rfl rfl) ?_))) | (refine lw_pure rfl (pv_pick_t rfl (by first | assumption | exact decide_eq_true (by omega) | exact dec_notT (by omega)) rfl) ?_))
                exact qw_ret1 rfl rfl ⟨rfl, hw⟩
              · have hgx : (false == !decide ((loadD kb m).1 = 0)) = true := by rw [decide_eq_true h9]; rfl
                repeat' (first | (refine lw_pure rfl (pv_move rfl) ?_) | (refine is_cw ?_; first | (refine cw_seq ?_) | (refine cw_region ?_) | (refine cw_true rfl rfl ?_) | (refine cw_false rfl rfl ?_) | (refine cw_skip ?_)) | (refine is_qw ?_; first | (with_reducible refine qw_then ?_)) | (refine lw_nil ?_) | (refine is_guarded ?_; first | (refine lw_not rfl rfl rfl (by first | assumption | exact decide_eq_true (by omega) | exact decide_eq_false (by omega) | exact dec_notT (by omega) | exact dec_notF (by omega)) ?_)) | ((refine is_bin ?_; first | (refine lw_pure rfl (pv_neq rfl rfl) ?_))) | (refine lw_pure rfl (pv_pick_t rfl (by first | assumption | exact decide_eq_true (by omega) | exact dec_notT (by omega)) rfl) ?_))
                refine lw_call (f := 26) (by kernel_rfl) rfl rfl (same01_c N2 _) ?_; rintro e w1 ⟨rfl, hb⟩; refine ⟨_, rfl, ?_⟩; skip; replace hw := grow_trans hw hb; clear hb
                repeat' (first | (refine lw_pure rfl (pv_move rfl) ?_) | (refine lw_pure rfl (pv_assign rfl) ?_) | ((refine lw_call (f := 11) (by kernel_rfl) rfl rfl (awake_c _) ?_; rintro e1 wz ⟨rfl, hb⟩; refine ⟨_, rfl, ?_⟩; replace hw := grow_trans hw hb; clear hb)) | (refine is_cw ?_; first | (refine cw_ret ?_)) | (refine is_qw ?_; first | (with_reducible refine qw_then ?_) | (with_reducible refine qw_then_ret ?_)) | (refine lw_nil ?_) | (refine is_guarded ?_; first | (refine lw_on rfl rfl (by first | assumption | exact decide_eq_true (by omega) | exact decide_eq_false (by omega) | exact dec_notT (by omega) | exact dec_notF (by omega)) ?_)) | ((refine is_bin ?_; first | (refine lw_pure rfl (pv_neq rfl rfl) ?_) | (refine lw_pure rfl (pv_beql (tBo rfl) rfl rfl) ?_))) | (refine lw_pure rfl (pv_pick_t rfl (by first | assumption | exact decide_eq_true (by omega) | exact dec_notT (by omega)) rfl) ?_))
                exact qw_ret1 rfl rfl ⟨rfl, hw⟩
            · rcases hQ with ⟨h9, rfl, rfl⟩ | ⟨h9, N2, B2, M2, v2, rfl, rfl, hlo2, hD2, hR2⟩
              · repeat' (first | (refine lw_pure rfl (pv_move rfl) ?_) | (refine is_cw ?_; first | (refine cw_seq ?_) | (refine cw_region ?_) | (refine cw_false rfl rfl ?_) | (refine cw_true rfl (by first | assumption | exact decide_eq_true (by omega) | exact dec_notT (by omega)) ?_) | (refine cw_skip ?_)) | (refine is_qw ?_; first | (with_reducible refine qw_then ?_)) | (refine lw_nil ?_) | (refine is_guarded ?_; first | (refine lw_on rfl rfl (by first | assumption | exact decide_eq_true (by omega) | exact decide_eq_false (by omega) | exact dec_notT (by omega) | exact dec_notF (by omega)) ?_)) | ((refine is_bin ?_; first | (refine lw_pure rfl (pv_neq rfl rfl) ?_))) | (refine lw_pure rfl (pv_pick_f rfl (by first | assumption | exact decide_eq_false (by omega) | exact dec_notF (by omega)) rfl) ?_))
                refine lw_call (f := 26) (by kernel_rfl) rfl rfl (same10_c N _) ?_; rintro e w1 ⟨rfl, hb⟩; refine ⟨_, rfl, ?_⟩; skip; replace hw := grow_trans hw hb; clear hb
                repeat' (first | (refine lw_pure rfl (pv_move rfl) ?_) | (refine lw_pure rfl (pv_assign rfl) ?_) | ((refine lw_call (f := 11) (by kernel_rfl) rfl rfl (awake_c _) ?_; rintro e1 wz ⟨rfl, hb⟩; refine ⟨_, rfl, ?_⟩; replace hw := grow_trans hw hb; clear hb)) | (refine is_cw ?_; first | (refine cw_ret ?_)) | (refine is_qw ?_; first | (with_reducible refine qw_then ?_) | (with_reducible refine qw_then_ret ?_)) | (refine lw_nil ?_) | (refine is_guarded ?_; first | (refine lw_on rfl rfl rfl ?_) | (refine lw_not rfl rfl rfl (by first | assumption | exact decide_eq_true (by omega) | exact decide_eq_false (by omega) | exact dec_notT (by omega) | exact dec_notF (by omega)) ?_)) | ((refine is_bin ?_; first | (refine lw_pure rfl (pv_neq rfl rfl) ?_) | (refine lw_pure rfl (pv_beql (tBo rfl) rfl rfl) ?_))) | (refine lw_pure rfl (pv_pick_t rfl rfl rfl) ?_) | (refine lw_pure rfl (pv_pick_f rfl (by first | assumption | exact decide_eq_false (by omega) | exact dec_notF (by omega)) rfl) ?_))
                exact qw_ret1 rfl rfl ⟨rfl, hw⟩
              · have hgs : (decide ((⟨l, ka, -1, false⟩ : Dsk) = ⟨m, kb, -1, false⟩) == decide ((⟨l, ka, -1, false⟩ : Dsk) = ⟨m, kb, -1, false⟩)) = true := by simp
                repeat' (first | (refine lw_pure rfl (pv_move rfl) ?_) | (refine is_cw ?_; first | (refine cw_seq ?_) | (refine cw_region ?_) | (refine cw_false rfl rfl ?_) | (refine cw_false rfl (by first | assumption | exact decide_eq_false (by omega) | exact dec_notF (by omega)) ?_) | (refine cw_skip ?_)) | (refine is_qw ?_; first | (with_reducible refine qw_then ?_)) | (refine lw_nil ?_) | (refine is_guarded ?_; first | (refine lw_on rfl rfl (by first | assumption | exact decide_eq_true (by omega) | exact decide_eq_false (by omega) | exact dec_notT (by omega) | exact dec_notF (by omega)) ?_)) | ((refine is_bin ?_; first | (refine lw_pure rfl (pv_neq rfl rfl) ?_))) | (refine lw_pure rfl (pv_pick_f rfl (by first | assumption | exact decide_eq_false (by omega) | exact dec_notF (by omega)) rfl) ?_))
                refine lw_call (f := 26) (by kernel_rfl) rfl rfl (same_c hD hD2) ?_; rintro e w1 ⟨rfl, hb⟩; refine ⟨_, rfl, ?_⟩; (replace hR := hR.mono hb; replace hR2 := hR2.mono hb); replace hw := grow_trans hw hb; clear hb
                repeat' (first | (refine lw_pure rfl (pv_move rfl) ?_))
                refine lw_call (f := 27) (by kernel_rfl) rfl rfl (rsame_c hR hR2) ?_; rintro e w1 ⟨rfl, hb⟩; refine ⟨_, rfl, ?_⟩; skip; replace hw := grow_trans hw hb; clear hb
                repeat' (first | (refine lw_pure rfl (pv_move rfl) ?_) | (refine lw_pure rfl (pv_assign rfl) ?_) | ((refine lw_call (f := 11) (by kernel_rfl) rfl rfl (awake_c _) ?_; rintro e1 wz ⟨rfl, hb⟩; refine ⟨_, rfl, ?_⟩; replace hw := grow_trans hw hb; clear hb)) | (refine is_cw ?_; first | (refine cw_ret ?_)) | (refine is_qw ?_; first | (with_reducible refine qw_then ?_)) | (refine lw_nil ?_) | (refine is_guarded ?_; first | (refine lw_on rfl rfl (by first | assumption | exact decide_eq_true (by omega) | exact decide_eq_false (by omega) | exact dec_notT (by omega) | exact dec_notF (by omega)) ?_)) | ((refine is_bin ?_; first | (refine lw_pure rfl (pv_beql (tBo rfl) rfl rfl) ?_))) | (refine lw_pure rfl (pv_pick_t rfl (by first | assumption | exact decide_eq_true (by omega) | exact dec_notT (by omega)) rfl) ?_))
                exact qw_ret1 rfl rfl ⟨rfl, hw⟩
end Go.Proofs.YtncicecmhibpcaaDoor
namespace Go.Proofs.YtncicecmhibpcaaDoor
open Go.ChangeShapes Go.WideShapes Go.ChangeAt Go.RowKit Go.Deep Go.WideElems Go.Joins
section
variable {H : Type} {enc : TypeId × Value → H} {P : Program} {w : World} {base : Nat} {held : Bool}
theorem cell_in {a : Addr} {v : Value} (h : w.cell? a = some v) : a.spot = none ∧ a.block < w.heap.size := by
  unfold World.cell? at h
  cases hb : w.heap[a.block]? with
  | none => rw [hb] at h; cases h
  | some o =>
    refine ⟨?_, (Array.getElem?_eq_some_iff.1 hb).1⟩
    rw [hb] at h
    cases o <;> first | (cases h; done) | (cases hs : a.spot with | none => rfl | some s => rw [hs] at h; simp at h)
theorem open_slT {α : Type} (encE : α → List Value) (k : Nat) (Pr : α → DataW H → Prop) {t e : TypeId} {fuel : Nat} {c : Value} {x : DataW H × List MemPlace} (hk : ∀ x, (encE x).length = k) (hk0 : 0 < k) (ht : P.underlying t = some (.slice e)) (hC : P.cellsOf e = k)
    (hdec : ∀ n cs y, DataW.trod enc P w base (fun _ => true) held n e cs = some y → ∃ x : α, cs = encE x ∧ Pr x y.1)
    (h : DataW.trod enc P w base (fun _ => true) held fuel t [c] = some x) : ∃ a cap, ∃ xs : List α, c = .slice a xs.length cap ∧ SlR encE k w a cap xs ∧ ∀ z ∈ xs, ∃ ds rest, x.1 = .slice ds rest ∧ ∃ y ∈ ds, Pr z y := by
  rcases open_slice ht h with ⟨h0, _⟩ | ⟨a, len, cap, m, n, D, Pl, hcs, hb, hl, hm, hmm, hx, hi⟩
  · simp only [List.cons.injEq, and_true] at h0
    exact ⟨none, 0, [], h0, SlR.nil w, by simp⟩
  · simp only [List.cons.injEq, and_true] at hcs
    subst hcs
    simp only [if_true] at hmm
    subst hmm
    have hE : ∀ i, i < len → ∃ x : α, w.cells? base (a.add (i * P.cellsOf e)) (P.cellsOf e) = some (encE x) ∧ Pr x (D i) := fun i h => by
      obtain ⟨cs', h1, h2⟩ := hi i (by omega)
      obtain ⟨x, rfl, hp⟩ := hdec _ _ _ h2
      exact ⟨x, h1, hp⟩
    have hL : ∀ m, m ≤ len → ∃ xs : List α, xs.length = m ∧ (∀ j x, xs[j]? = some x → w.cells? base (a.add (j * P.cellsOf e)) (P.cellsOf e) = some (encE x)) ∧ ∀ x ∈ xs, ∃ i, i < len ∧ Pr x (D i) := by
      intro m hm
      induction m with
      | zero => exact ⟨[], rfl, fun j x hx => by simp at hx, by simp⟩
      | succ m ih =>
        obtain ⟨xs, h1, h2, h3⟩ := ih (by omega)
        obtain ⟨x, hx, hp⟩ := hE m (by omega)
        refine ⟨xs ++ [x], by simp [h1], fun j y hy => ?_, fun y hy => ?_⟩
        · by_cases hj : j < xs.length
          · rw [List.getElem?_append_left hj] at hy; exact h2 j y hy
          · rw [List.getElem?_append_right (by omega)] at hy
            have : j - xs.length = 0 := by
              have := (List.getElem?_eq_some_iff.1 hy).1; simp at this; omega
            rw [this] at hy; simp at hy; subst hy
            have : j = m := by omega
            subst this; exact hx
        · rcases List.mem_append.1 hy with hy | hy
          · exact h3 y hy
          · simp at hy; subst hy; exact ⟨m, by omega, hp⟩
    obtain ⟨xs, hlen, hxs, hpr⟩ := hL len (Nat.le_refl _)
    refine ⟨some a, _, xs, by rw [hlen], ⟨by omega, by simpa [maxLen] using hm, (fun h => by cases h), fun ad had hc => ?_⟩, fun x hx2 => ?_⟩
    · cases had
      obtain ⟨cs0, h1, _⟩ := hi 0 hc
      obtain ⟨_, h2, h3⟩ := World.cells?_some h1
      have h4 := h3 0 (by rw [hC]; exact hk0)
      rw [List.getElem?_eq_getElem (by rw [h2, hC]; exact hk0)] at h4
      obtain ⟨hsp, hlt⟩ := cell_in h4
      obtain ⟨b, off, sp⟩ := a
      have e0 : ((⟨b, off, sp⟩ : Addr).add (0 * P.cellsOf e)).add 0 = ⟨b, off, sp⟩ := by simp [Addr.add]
      rw [e0] at hsp hlt
      have hsp0 : sp = none := hsp
      subst hsp0
      refine ⟨rfl, hlt, fun j x hx i v hv => ?_⟩
      obtain ⟨_, h1, h2⟩ := World.cells?_some (hxs j x hx)
      have hik : i < k := by have := (List.getElem?_eq_some_iff.1 hv).1; rwa [hk] at this
      have h3 := h2 i (by rw [hC]; exact hik)
      rw [hv] at h3
      rw [hC] at h3
      rwa [Addr.add_lit, Addr.add_lit] at h3
    · obtain ⟨i, hi2, hp⟩ := hpr x hx2
      subst hx
      exact ⟨_, _, rfl, D i, List.mem_map.2 ⟨i, List.mem_range.2 hi2, rfl⟩, hp⟩
end
section
variable {H : Type} {P : Program}
theorem mem_weightsAll {e : TypeId} {n : Nat} {y : DataW H} (hn : n ∈ DataW.weights P e y) : ∀ {ds : List (DataW H)}, y ∈ ds → n ∈ DataW.weightsAll P e ds
  | [], h => by cases h
  | d :: r, h => by
    rw [DataW.weightsAll]
    rcases List.mem_cons.1 h with rfl | h
    · exact List.mem_append_left _ hn
    · exact List.mem_append_right _ (mem_weightsAll hn h)
end
theorem wt_in {H : Type} {P : Program} {n : Nat} : ∀ {ts : List TypeId} {ds : List (DataW H)} {j : Nat} {t : TypeId} {d : DataW H}, ts[j]? = some t → ds[j]? = some d → n ∈ DataW.weights P t d → n ∈ DataW.weightsEach P ts ds
  | t :: ts, d :: ds, 0, _, _, h1, h2, hn => by
    simp at h1 h2; subst h1 h2
    rw [DataW.weightsEach]; exact List.mem_append_left _ hn
  | t :: ts, d :: ds, j + 1, _, _, h1, h2, hn => by
    rw [DataW.weightsEach]; exact List.mem_append_right _ (wt_in (by simpa using h1) (by simpa using h2) hn)
  | [], _, _, _, _, h1, _, _ => by simp at h1
  | _ :: _, [], _, _, _, _, h2, _ => by simp at h2
theorem wt_of {H : Type} {P : Program} {ts us : List TypeId} {ds gs : List (DataW H)} (hZ : ((DataW.weightsEach P (ts ++ us) (ds ++ gs)).all fun x => decide (x ≤ reachBytes)) = true) {j : Nat} {t : TypeId} {d : DataW H} (ht : ts[j]? = some t) (hd : ds[j]? = some d) : ∀ n ∈ DataW.weights P t d, n ≤ reachBytes := fun n hn => by
  have h1 : (ts ++ us)[j]? = some t := by rw [List.getElem?_append_left (List.getElem?_eq_some_iff.1 ht).1]; exact ht
  have h2 : (ds ++ gs)[j]? = some d := by rw [List.getElem?_append_left (List.getElem?_eq_some_iff.1 hd).1]; exact hd
  exact of_decide_eq_true (List.all_eq_true.1 hZ n (wt_in h1 h2 hn))
section
variable {H : Type} {enc : TypeId × Value → H} {W : World} {base : Nat} {held : Bool} {b0 : Nat} {v : Value} {d : DataW H} {p : List MemPlace}
abbrev bndW (t : TypeId) (d : DataW H) : Prop := ∀ n ∈ DataW.weights Tryd.prog t d, n ≤ reachBytes
theorem trod_strD {P : Program} {w : World} {spare : Nat → Bool} {fuel : Nat} {t : TypeId} {c : Value} {x : DataW H × List MemPlace} (ht : P.underlying t = some .string) (h : DataW.trod enc P w base spare held fuel t [c] = some x) : ∃ s : ByteArray, c = .string s ∧ x.1 = .lit (.string s.data.toList) := by
  obtain ⟨s, e, hx⟩ := DataW.trod_string ht h
  simp only [List.cons.injEq, and_true] at e
  exact ⟨s, e, by rw [hx.1]⟩
set_option maxRecDepth 20000 in
theorem fil_dec (n : Nat) (cs : List Value) (y : DataW H × List MemPlace) (h : DataW.trod enc Tryd.prog W base (fun _ => true) held n 35 cs = some y) : ∃ r : Fil, cs = encF r ∧ (bndW 35 y.1 → FilB r) := by
  obtain ⟨xs, m, _, hx, hl, hlen, hfi⟩ := DataW.trod_struct Tryd.underlying35 h
  rw [show Tryd.prog.cellsOf 35 = 3 by kernel_rfl] at hl
  have hl2 : cs.length = 3 := hl
  match xs, hlen, cs, hl2 with
  | [y0, y1, y2], _, [c0, c1, c2], _ =>
    obtain ⟨s0, rfl, e0⟩ := trod_strD (c := c0) Tryd.underlying9 (hfi 0 _ rfl)
    obtain ⟨s1, rfl, e1⟩ := trod_strD (c := c1) Tryd.underlying9 (hfi 1 _ rfl)
    obtain ⟨s2, rfl, e2⟩ := trod_strD (c := c2) Tryd.underlying9 (hfi 2 _ rfl)
    have h7 : reachBytes ≤ 140737488355328 := by decide
    refine ⟨⟨s0, s1, s2⟩, rfl, fun hwt => ?_⟩
    have hs : ∀ s : ByteArray, s.size ∈ DataW.weights (H := H) Tryd.prog 9 (.lit (.string s.data.toList)) := fun s => by
      rw [DataW.weights]
      exact List.mem_singleton.2 Array.length_toList.symm
    have hw : ∀ z, z ∈ DataW.weightsEach Tryd.prog [9, 9, 9] [y0.1, y1.1, y2.1] → z ≤ reachBytes := fun z hz => hwt z (by
      rw [hx, DataW.weights, Tryd.underlying35]
      exact hz)
    simp only [DataW.weightsEach] at hw
    refine ⟨?_, ?_, ?_⟩
    · exact Nat.le_trans (hw _ (List.mem_append_left _ (by rw [e0]; exact hs s0))) h7
    · exact Nat.le_trans (hw _ (List.mem_append_right _ (List.mem_append_left _ (by rw [e1]; exact hs s1)))) h7
    · exact Nat.le_trans (hw _ (List.mem_append_right _ (List.mem_append_right _ (List.mem_append_left _ (by rw [e2]; exact hs s2))))) h7
set_option maxRecDepth 20000 in
theorem fils_open (hv : Value.okWide Tryd.prog W .any b0 30 v) (h : DataW.Trod enc Tryd.prog W base (fun _ => true) held 30 v d p) (hwt : bndW 30 d) : ∃ a cap, ∃ xs : List Fil, v = .slice a xs.length cap ∧ SlR encF 3 W a cap xs ∧ ∀ f ∈ xs, FilB f := by
  obtain ⟨i, j, k, rfl⟩ := okWide_slice Tryd.underlying30 hv
  obtain ⟨fuel, hf⟩ := h
  obtain ⟨a, cap, zs, e1, S1, h1⟩ := open_slT encF 3 (fun x y => bndW 35 y → FilB x) encF_len (by omega) Tryd.underlying30 (by kernel_rfl) fil_dec hf
  refine ⟨a, cap, zs, e1, S1, fun z hz => ?_⟩
  obtain ⟨ds, rest, e2, y, hy, hp⟩ := h1 z hz
  refine hp fun n hn => hwt n ?_
  dsimp only at e2
  rw [e2, DataW.weights, Tryd.underlying30]
  exact List.mem_cons_of_mem _ (List.mem_append_left _ (mem_weightsAll hn hy))
end
end Go.Proofs.YtncicecmhibpcaaDoor
namespace Go.Proofs.YtncicecmhibpcaaDoor
open Go.ChangeShapes Go.WideShapes Go.ChangeAt Go.RowKit

set_option maxRecDepth 100000 in
theorem diskLoads_lifted (os : Os) (started : os.Started) (H : Type) (enc : TypeId × Value → H) :
    ReturnsInHanded {} Tryd.checked os 5 .any (fun w args => (Rows.diskLoadsSpec.pre enc Tryd.prog Tryd.f5 [] false w args ∧ laidMetH Tryd.prog Rows.diskLoadsRow.laid w) ∧ sizedMet enc Tryd.prog Tryd.f5 (OpenSpec.ofChange Rows.diskLoadsSpec) false w args)
      (Rows.diskLoadsSpec.post enc Tryd.prog Tryd.f5 false true false false) := by
  refine returnsInHanded_of_change_and (C := Tryd.checked) (X := fun w _ => laidMetH Tryd.prog Rows.diskLoadsRow.laid w) (fun _ _ _ hh h => h.of_heap hh) seatOwn started (by kernel_rfl) Tryd.func5
    (ChangeSpec.witness_shaped (enc := enc) (C := Tryd.checked) (os := os) (X := fun w _ => laidMetH Tryd.prog Rows.diskLoadsRow.laid w) false (World.laidAll Tryd.prog os seatLaid) #[.int .i64 0, .int .i64 0, .slice none 0 0, .slice none 0 0, .string ⟨#[]⟩] 8 (World.laidAll_os _ _ _) (World.shaped_of_ZipB (by kernel_rfl) (by kernel_rfl)) (by kernel_rfl) (by kernel_rfl) (by kernel_rfl) (door_met os _)) ?_
  intro W base args ds gs before hval0 hW _ hZ hL _
  have hval : ∀ (j : Nat) t v, Tryd.f5.params[j]? = some t → args[j]? = some v → Value.okWide Tryd.prog W .any base t v := hval0
  have hW' := hW
  obtain ⟨p, q, hA0, hV, hpq, hfz, hnd⟩ := hW
  have hA : DataW.TrodAll enc Tryd.prog W 0 (fun _ => true) true Tryd.f5.params.toList args.toList ds p := hA0
  rw [Tryd.params5] at hA hval
  obtain ⟨args⟩ := args
  have hA1 : DataW.TrodAll enc Tryd.prog W 0 (fun _ => true) true _ args ds p := hA
  clear hA
  obtain ⟨v0, vs0, d0, ds0, p0, q0, hv0, hd0, hp0, h0, hr0⟩ := trodAll_cons hA1
  obtain ⟨v1, vs1, d1, ds1, p1, q1, hv1, hd1, hp1, h1, hr1⟩ := trodAll_cons hr0
  obtain ⟨v2, vs2, d2, ds2, p2, q2, hv2, hd2, hp2, h2, hr2⟩ := trodAll_cons hr1
  obtain ⟨v3, vs3, d3, ds3, p3, q3, hv3, hd3, hp3, h3, hr3⟩ := trodAll_cons hr2
  obtain ⟨v4, vs4, d4, ds4, p4, q4, hv4, hd4, hp4, h4, hr4⟩ := trodAll_cons hr3
  obtain ⟨hvn, hdn, hpn⟩ := trodAll_nil hr4
  subst hvn hdn hpn
  subst hv4 hd4 hp4
  subst hv3 hd3 hp3
  subst hv2 hd2 hp2
  subst hv1 hd1 hp1
  subst hv0 hd0 hp0
  obtain ⟨rfl, rfl⟩ := trodVars_none hV
  obtain ⟨na, rfl, nal, nau⟩ := i64_open Tryd.underlying3 (hval 0 _ v0 rfl rfl) h0
  obtain ⟨nb, rfl, nbl, nbu⟩ := i64_open Tryd.underlying3 (hval 1 _ v1 rfl rfl) h1
  obtain ⟨lla, llc, ll, rfl, lls, llb⟩ := fils_open (hval 2 _ v2 rfl rfl) h2 (wt_of hZ (j := 2) (by kernel_rfl) rfl)
  obtain ⟨mma, mmc, mm, rfl, mms, mmb⟩ := fils_open (hval 3 _ v3 rfl rfl) h3 (wt_of hZ (j := 3) (by kernel_rfl) rfl)
  obtain ⟨tt, rfl⟩ := okWide_string Tryd.underlying9 (hval 4 _ v4 rfl rfl)
  clear hL
  subst hpq
  refine (loadlaw_c rfl rfl lls mms llb mmb nau nbu).mono fun e W' ⟨he, hw⟩ => ?_
  subst he
  have hB := below_trodAll hw (by decide +kernel) hA1
  rw [← Tryd.params5] at hB
  exact ⟨_, rfl, _, _, _, [], _, [], hW', trodAll_mk1 (shut_bool Tryd.underlying4 true), hB, rfl, hw.frame _, fun h => by cases h⟩
theorem diskLoads_holds : Rows.DiskLoadsSaid :=
  OpenClaim.holds_of_wide 5 Tryd.f5 rfl rfl rfl rfl rfl rfl rfl ⟨rfl, rfl, rfl, rfl, rfl⟩ rfl rfl rfl rfl rfl (by kernel_rfl) Tryd.func5 (by kernel_rfl)
    (of_decide_eq_true (by kernel_rfl)) (by unfold Func.isWrapper; first | (rw [if_pos (by decide +kernel)]; kernel_rfl) | (rw [if_neg (by decide +kernel)]; exact ⟨rfl, rfl⟩))
    (fun os started H enc _ => diskLoads_lifted os started H enc)
theorem diskLoads_card : Rows.DiskLoadsCardSaid :=
  Claim7.holds_tied_plain_at .later [] [.data, .pinned] true (true, "79b72f06149c7553d9b585f3288860acabfcbb772ee7816aa2474633bacae2cd") true
    diskLoads_holds (fun _ h => by cases h) (by kernel_rfl) (fun _ h => by cases h) diskLoads_row_tie rfl ⟨rfl, rfl⟩ (by kernel_rfl) rfl
    (fun f fn hf hfn => by
      obtain rfl : f = 5 := Option.some.inj ((show Tryd.prog.funcNamed Rows.diskLoadsRow.func = some 5 by kernel_rfl).symm.trans hf) |>.symm
      obtain rfl : fn = Tryd.f5 := (Option.some.inj (Tryd.func5.symm.trans hfn)).symm
      exact ⟨by kernel_rfl, fun j t ht => by
        have hall : (Tryd.f5.params.toList.all fun u => !Tryd.prog.wantsStandIn u) = true := by kernel_rfl
        have hm : t ∈ Tryd.f5.params.toList := Array.mem_toList_iff.2 (Array.mem_of_getElem? ht)
        exact (show Tryd.prog.wantsStandIn t = false by simpa using List.all_eq_true.1 hall t hm)⟩)
    (by kernel_rfl)
#print axioms diskLoads_card
end Go.Proofs.YtncicecmhibpcaaDoor
