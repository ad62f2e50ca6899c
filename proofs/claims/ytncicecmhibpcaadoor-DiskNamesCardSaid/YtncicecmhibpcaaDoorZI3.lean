/-
  DiskNames: its row and its card: whatever the input: true; the input reads as it did. Conditions: what the row prints (the table of functions reads as the program's text lays it).
-/
import Derived.Test.YtncicecmhibpcaaDoorZI2
import Derived.Laws.BytesArg
import Derived.Test.YtncicecmhibpcaaDoorTie
import Derived.Test.YtncicecmhibpcaaDoorCards
import Derived.SevenTiedAt
namespace Go.Proofs.YtncicecmhibpcaaDoor
open Go.RowKit Go.PlainAid

section
variable {w : World} {N B : Nat} {d d' : Dsk} {n t b : ByteArray} {k q : Int}
theorem create_is (h : DkW w N B d) (hn : n.size ≤ 9223372036854775807) (hr : createD d n = (k, d')) : Calls Tryd.prog 35 #[.pointer (some ⟨N, 0, none⟩), .string n] w fun e w' => e = .returned (.int .i64 k) ∧ DkW w' N B d' ∧ Gw N B w w' := by
  have := create_c h hn; rw [hr] at this; exact this
theorem append_is (h : DkW w N B d) (hn : n.size ≤ 9223372036854775807) (hr : appendD d n b = (k, d')) : Calls Tryd.prog 34 #[.pointer (some ⟨N, 0, none⟩), .string n, .string b] w fun e w' => e = .returned (.int .i64 k) ∧ DkW w' N B d' ∧ Gw N B w w' := by
  have := append_c (b := b) h hn; rw [hr] at this; exact this
theorem sync_is (h : DkW w N B d) (hn : n.size ≤ 9223372036854775807) (hr : syncD d n = (k, d')) : Calls Tryd.prog 36 #[.pointer (some ⟨N, 0, none⟩), .string n] w fun e w' => e = .returned (.int .i64 k) ∧ DkW w' N B d' ∧ Gw N B w w' := by
  have := sync_c h hn; rw [hr] at this; exact this
theorem trim_is (h : DkW w N B d) (hn : n.size ≤ 9223372036854775807) (hr : trimD d n q = (k, d')) : Calls Tryd.prog 37 #[.pointer (some ⟨N, 0, none⟩), .string n, .int .i64 q] w fun e w' => e = .returned (.int .i64 k) ∧ DkW w' N B d' ∧ Gw N B w w' := by
  have := dtrim_c h hn q; rw [hr] at this; exact this
theorem rename_is (h : DkW w N B d) (hn : n.size ≤ 9223372036854775807) (ht : t.size ≤ 9223372036854775807) (hr : renameD d n t = (k, d')) : Calls Tryd.prog 38 #[.pointer (some ⟨N, 0, none⟩), .string n, .string t] w fun e w' => e = .returned (.int .i64 k) ∧ DkW w' N B d' ∧ Gw N B w w' := by
  have := rename_c h hn ht; rw [hr] at this; exact this
theorem cut_is (h : DkW w N B d) (hm : q ≤ 9223372036854775807) (hr : cutD d q = (k, d')) : Calls Tryd.prog 29 #[.pointer (some ⟨N, 0, none⟩), .int .i64 q] w fun e w' => e = .returned (.int .i64 k) ∧ DkW w' N B d' ∧ Gw N B w w' := by
  have := cut_c h hm; rw [hr] at this; exact this
theorem crash_is {keep : List Int} {kn kc : Nat} {ka : Option Addr} (h : DkW w N B d) (hkl : keep.length = kn) (HK : SlR encI 1 w ka kc keep) (hka : ∀ x, ka = some x → x.block ≠ B) (hr : crashD d keep = d') : Calls Tryd.prog 17 #[.pointer (some ⟨N, 0, none⟩), .slice ka kn kc] w fun e w' => e = .returned (.int .i64 0) ∧ DkW w' N B d' ∧ Gw N B w w' := by
  have := crash_c h hkl HK hka; rw [hr] at this; exact this
theorem one_is {p r : ByteArray} {c : Bool} (h : DkW w N B d) (hr : decide (d.fs = [⟨n, p, r⟩]) = c) : Calls Tryd.prog 41 #[.pointer (some ⟨N, 0, none⟩), .string n, .string p, .string r] w fun e w' => e = .returned (.bool c) ∧ Below w.heap.size w w' := by
  have := one_c h n p r; rw [hr] at this; exact this
theorem up_is {c : Bool} (h : DkW w N B d) (hr : (!d.dark) = c) : Calls Tryd.prog 30 #[.pointer (some ⟨N, 0, none⟩)] w fun e w' => e = .returned (.bool c) ∧ Below w.heap.size w w' := by
  have := up_c h; rw [hr] at this; exact this
theorem read_is {s : ByteArray} (h : DkW w N B d) (hn : n.size ≤ 9223372036854775807) (hr : readD d n = (s, k)) : Calls Tryd.prog 20 #[.pointer (some ⟨N, 0, none⟩), .string n] w fun e w' => e = .returned (.tuple #[.string s, .int .i64 k]) ∧ Below w.heap.size w w' := by
  have := read_c h hn; rw [hr] at this; exact this
end
section
variable {k nb : Nat} {P : Program} {n : Nat} {l : Fr} {w : World} {Q : Exit → Act → World → Prop} {ops : Array Oper} {os : List Oper} {d : Nat} {ty : TypeId} {pos : String} {af : Array Edge} {S T : TypeId}
theorem lw_bsN (E : ElemT P S T k nb) {m : Nat} {ps : List (Nat × Operand)} {vs cs : List Value} (hd : Nat.blt d n = true) (hps : ps.map (·.1) = List.range m) (hvs : evs l (ps.map (·.2)) = some vs) (hp : 0 < m) (hs : m * k ≤ 16777216) (hcs : (vs.flatMap fun v => v.cells.toList) = cs) (h1 : ∀ v ∈ vs, v.cells.size = k)
    (h : ∀ N w', w.heap.size ≤ N → PT w' N T cs → Below w.heap.size w w' → LW P n ops Q os ((d, .slice (some ⟨N, 0, none⟩) m m) :: l) w') :
    LW P n ops Q (⟨some d, .buildSlice S m ps.toArray, ty, pos, af, none⟩ :: os) l w :=
  lw_bs E hd hps hvs hp hs hcs h1 fun w' hp hb _ => h _ w' (Nat.le_refl _) hp hb
end
def sa : ByteArray := ⟨#[97]⟩
def sb : ByteArray := ⟨#[98]⟩
def sx : ByteArray := ⟨#[120]⟩
def syz : ByteArray := ⟨#[121, 122]⟩
def s17 : ByteArray := ⟨#[49, 50, 51, 52, 53, 54, 55]⟩
def sab : ByteArray := ⟨#[97, 47, 98]⟩
def dA0 : Dsk := ⟨[], 9, -1, false⟩
def dA1 : Dsk := ⟨[⟨sa, emptyB, emptyB⟩], 9, -1, false⟩
def dA2 : Dsk := ⟨[⟨sa, emptyB, sx⟩], 9, -1, false⟩
def dA3 : Dsk := ⟨[⟨sa, sx, emptyB⟩], 9, -1, false⟩
def dA4 : Dsk := ⟨[⟨sa, sx, syz⟩], 9, -1, false⟩
def dA5 : Dsk := ⟨[⟨sa, sx, syz⟩, ⟨sb, emptyB, emptyB⟩], 9, -1, false⟩
def dA6 : Dsk := ⟨[⟨sb, sx, syz⟩], 9, -1, false⟩
def dA7 : Dsk := ⟨[⟨sb, emptyB, emptyB⟩], 9, -1, false⟩
def dC1 : Dsk := ⟨[], 9, 1, false⟩
def dC2 : Dsk := ⟨[⟨sa, emptyB, emptyB⟩], 9, 0, false⟩
def dC3 : Dsk := ⟨[⟨sa, emptyB, sx⟩], 9, 0, true⟩
def dC4 : Dsk := ⟨[⟨sa, sx, emptyB⟩], 9, -1, false⟩
theorem rA1 : createD dA0 sa = (0, dA1) := by decide +kernel
theorem rA2 : appendD dA1 sa sx = (0, dA2) := by decide +kernel
theorem rA3 : syncD dA2 sa = (0, dA3) := by decide +kernel
theorem rA4 : appendD dA3 sa syz = (0, dA4) := by decide +kernel
theorem rA44 : appendD dA4 sa s17 = (44, dA4) := by decide +kernel
theorem rA5 : createD dA4 sb = (0, dA5) := by decide +kernel
theorem rA6 : renameD dA5 sa sb = (0, dA6) := by decide +kernel
theorem rA7 : trimD dA6 sb 0 = (0, dA7) := by decide +kernel
theorem rA8 : createD dA7 sab = (4, dA7) := by decide +kernel
theorem rC1 : cutD dA0 1 = (0, dC1) := by decide +kernel
theorem rC2 : createD dC1 sa = (0, dC2) := by decide +kernel
theorem rC3 : appendD dC2 sa sx = (45, dC3) := by decide +kernel
theorem rC4 : crashD dC3 [1] = dC4 := by decide +kernel
theorem rCr : readD dC3 sa = (emptyB, 45) := by decide +kernel
def wantsL : List ByteArray := [⟨#[120]⟩, ⟨#[120, 121]⟩, ⟨#[120, 121, 122]⟩, ⟨#[120]⟩]
theorem rW0 : ∀ k : Fin 4, (crashD dA4 [((k.val : Nat) : Int)]).fs = [⟨sa, wantsL.getD k.val emptyB, emptyB⟩] := by decide +kernel
theorem rW {k : Nat} (h : k < 4) {s : ByteArray} (hs : wantsL[k]? = some s) : decide ((crashD dA4 [(k : Int)]).fs = [⟨sa, s, emptyB⟩]) = true := by
  have := rW0 ⟨k, h⟩
  dsimp only at this
  rw [this, List.getD_eq_getElem?_getD, hs]
  simp
theorem elemXn : ElemT Tryd.prog 23 3 1 8 := elem_of Tryd.underlying23 (by kernel_rfl) (by omega)
set_option maxRecDepth 20000 in
set_option maxHeartbeats 1000000 in
theorem awake_c (w : World) : Calls Tryd.prog 11 #[] w fun e w' => e = .returned (.bool true) ∧ Below w.heap.size w w' := by
  have hw := Below.refl w.heap.size w
  refine fn_enter 129 Tryd.func11 rfl rfl rfl ?_
  repeat' (first | (refine lw_pure rfl (pv_assign rfl) ?_) | (refine is_cw ?_; first | (refine cw_seq ?_) | (refine cw_region ?_)) | (refine is_qw ?_; first | (with_reducible refine qw_then ?_)) | (refine lw_nil ?_))
  refine lw_call (f := 12) (by kernel_rfl) rfl rfl (small_c (cap := 9) (by omega) (by omega) _) ?_; rintro e w1 ⟨⟨N, B, rfl, hN, hB, hD0⟩, hb⟩; refine ⟨_, rfl, ?_⟩
  replace hN := Nat.le_trans hw.size hN
  replace hB := Nat.le_trans hw.size hB
  replace hw := grow_trans hw hb
  clear hb
  have hD : DkW w1 N B dA0 := hD0
  clear hD0
  repeat' (first | (refine lw_pure rfl (pv_move rfl) ?_) | (refine lw_pure rfl (pv_assign rfl) ?_) | (refine is_cw ?_; first | (refine cw_seq ?_) | (refine cw_region ?_)) | (refine is_qw ?_; first | (with_reducible refine qw_then ?_)) | (refine lw_nil ?_) | (refine is_guarded ?_; first | (refine lw_on rfl rfl rfl ?_)) | ((refine is_bin ?_; first | (refine lw_pure rfl (pv_pnil tpD rfl rfl) ?_))))
  refine lw_call (f := 35) (by kernel_rfl) rfl rfl (create_is (n := sa) hD (by decide) rA1) ?_; clear hD; rintro e w1 ⟨rfl, hD, hG⟩; refine ⟨_, rfl, ?_⟩; replace hw := hG.below hw hN hB; clear hG
  repeat' (first | (refine lw_pure rfl (pv_move rfl) ?_) | (refine is_guarded ?_; first | (refine lw_on rfl rfl rfl ?_)) | ((refine is_bin ?_; first | (refine lw_pure rfl (pv_neq rfl rfl) ?_))) | (refine lw_pure rfl (pv_pick_f rfl rfl rfl) ?_))
  refine lw_call (f := 34) (by kernel_rfl) rfl rfl (append_is (n := sa) (b := sx) hD (by decide) rA2) ?_; clear hD; rintro e w1 ⟨rfl, hD, hG⟩; refine ⟨_, rfl, ?_⟩; replace hw := hG.below hw hN hB; clear hG
  repeat' (first | (refine lw_pure rfl (pv_move rfl) ?_) | (refine is_guarded ?_; first | (refine lw_on rfl rfl rfl ?_)) | ((refine is_bin ?_; first | (refine lw_pure rfl (pv_neq rfl rfl) ?_))) | (refine lw_pure rfl (pv_pick_f rfl rfl rfl) ?_))
  refine lw_call (f := 36) (by kernel_rfl) rfl rfl (sync_is (n := sa) hD (by decide) rA3) ?_; clear hD; rintro e w1 ⟨rfl, hD, hG⟩; refine ⟨_, rfl, ?_⟩; replace hw := hG.below hw hN hB; clear hG
  repeat' (first | (refine lw_pure rfl (pv_move rfl) ?_) | (refine is_guarded ?_; first | (refine lw_on rfl rfl rfl ?_)) | ((refine is_bin ?_; first | (refine lw_pure rfl (pv_neq rfl rfl) ?_))) | (refine lw_pure rfl (pv_pick_f rfl rfl rfl) ?_))
  refine lw_call (f := 34) (by kernel_rfl) rfl rfl (append_is (n := sa) (b := syz) hD (by decide) rA4) ?_; clear hD; rintro e w1 ⟨rfl, hD, hG⟩; refine ⟨_, rfl, ?_⟩; replace hw := hG.below hw hN hB; clear hG
  repeat' (first | (refine lw_pure rfl (pv_move rfl) ?_) | (refine is_guarded ?_; first | (refine lw_on rfl rfl rfl ?_)) | ((refine is_bin ?_; first | (refine lw_pure rfl (pv_neq rfl rfl) ?_))) | (refine lw_pure rfl (pv_pick_f rfl rfl rfl) ?_))
  refine lw_call (f := 34) (by kernel_rfl) rfl rfl (append_is (n := sa) (b := s17) hD (by decide) rA44) ?_; clear hD; rintro e w1 ⟨rfl, hD, hG⟩; refine ⟨_, rfl, ?_⟩; replace hw := hG.below hw hN hB; clear hG
  repeat' (first | (refine lw_pure rfl (pv_move rfl) ?_) | (refine is_guarded ?_; first | (refine lw_on rfl rfl rfl ?_)) | ((refine is_bin ?_; first | (refine lw_pure rfl (pv_neq rfl rfl) ?_))) | (refine lw_pure rfl (pv_pick_f rfl rfl rfl) ?_))
  refine lw_call (f := 41) (by kernel_rfl) rfl rfl (one_is (n := sa) (p := sx) (r := syz) (c := true) hD (by decide +kernel)) ?_; rintro e w1 ⟨rfl, hb⟩; refine ⟨_, rfl, ?_⟩; replace hD := hD.mono hb; replace hw := grow_trans hw hb; clear hb
  repeat' (first | (refine is_cw ?_; first | (refine cw_seq ?_) | (refine cw_region ?_) | (refine cw_false rfl rfl ?_) | (refine cw_skip ?_)) | (refine is_qw ?_; first | (with_reducible refine qw_then ?_)) | (refine lw_nil ?_) | (refine is_guarded ?_; first | (refine lw_on rfl rfl rfl ?_)) | ((refine is_un ?_; first | (refine lw_pure rfl (pv_not rfl) ?_))) | (refine lw_pure rfl (pv_pick_f rfl rfl rfl) ?_))
  refine lw_bsN (vs := [.string ⟨#[120]⟩, .string ⟨#[120, 121]⟩, .string ⟨#[120, 121, 122]⟩, .string ⟨#[120]⟩]) (cs := wantsL.flatMap encT) elemXs rfl rfl rfl (by omega) (by omega) rfl (by intro v hv; simp at hv; rcases hv with rfl | rfl | rfl | rfl <;> rfl) ?_; intro N3 w3 hN3 HB hb
  have hl4 : wantsL.length = 4 := rfl
  have HW : SlR encT 1 w3 (some ⟨N3, 0, none⟩) 4 wantsL := HB.slR (xs := wantsL) encT_len rfl (by omega)
  replace hD := hD.mono hb
  replace hw := grow_trans hw hb
  clear hb
  repeat' (first | (refine lw_pure rfl (pv_move rfl) ?_) | (refine is_cw ?_; first | (refine cw_block ?_)) | (refine is_qw ?_; first | (with_reducible refine qw_then ?_)) | (refine lw_nil ?_) | ((refine is_bi ?_; first | (refine lw_pure rfl (pv_lenl (tS rfl) rfl) ?_))))
  refine cw_loop (σ := Nat) (fun k => [(1, .pointer (some ⟨N, 0, none⟩)), (41, .slice (some ⟨N3, 0, none⟩) 4 4), (42, .int .i64 4), (43, .int .i64 (k : Nat))]) (fun k wr => k ≤ 4 ∧ Below w.heap.size w wr ∧ DkW wr N B dA4 ∧ SlR encT 1 wr (some ⟨N3, 0, none⟩) 4 wantsL) (fun k => 4 - k) 0 (by repeat' (first | exact trivial | refine ⟨rfl, ?_⟩)) ⟨Nat.zero_le _, hw, hD, HW⟩ ?_
  clear hw hD HW HB
  rintro k wr ⟨hk, hw, hD, HW⟩
  by_cases hlt : k < 4
  · have hxk : wantsL[k]? = some wantsL[k] := List.getElem?_eq_getElem (by rw [hl4]; exact hlt)
    generalize wantsL[k] = s at hxk
    have hw0 := hw
    have hDl := hD.lt
    clear hw
    have hw := Below.refl wr.heap.size wr
    repeat' (first | (refine lw_pure rfl (pv_move rfl) ?_) | (refine lw_pure rfl (pv_assign rfl) ?_) | (refine is_cw ?_; first | (refine cw_seq ?_) | (refine cw_region ?_) | (refine cw_true rfl (by first | assumption | exact decide_eq_true (by omega) | exact dec_notT (by omega)) ?_) | (refine cw_skip ?_) | (refine cw_block ?_)) | (refine is_qw ?_; first | (with_reducible refine qw_then ?_)) | (refine lw_nil ?_) | ((refine is_bin ?_; first | (refine lw_pure rfl (pv_lss rfl rfl) ?_))) | ((refine is_load ?_; first | (refine lw_pure rfl (pv_load (t1 rfl) rfl (by first | exact SlR.ld (HW.mono hw) hxk rfl | exact SlR.ld1 (HW.mono hw) hxk rfl)) ?_))) | ((refine is_ia ?_; first | (refine lw_pure rfl (pv_ian (tS rfl) rfl rfl (by omega)) ?_))))
    refine lw_call (f := 28) (by kernel_rfl) rfl rfl (copy_c (hD.mono hw)) ?_; rintro e w4 ⟨⟨N4, B4, rfl, hN4, hB4, hD4⟩, hb⟩; refine ⟨_, rfl, ?_⟩
    replace hN4 := Nat.le_trans hw.size hN4
    replace hB4 := Nat.le_trans hw.size hB4
    replace hw := grow_trans hw hb
    clear hb
    repeat' (first | (refine lw_pure rfl (pv_move rfl) ?_) | (refine lw_pure rfl (pv_assign rfl) ?_) | (refine is_cw ?_; first | (refine cw_seq ?_) | (refine cw_region ?_)) | (refine is_qw ?_; first | (with_reducible refine qw_then ?_)) | (refine lw_nil ?_))
    refine lw_bsN (vs := [.int .i64 (k : Nat)]) (cs := [.int .i64 (k : Nat)]) elemXn rfl rfl rfl (by omega) (by omega) rfl (by intro v hv; simp at hv; subst hv; rfl) ?_; intro N5 w5 hN5 H5 hb
    have HK : SlR encI 1 w5 (some ⟨N5, 0, none⟩) 1 [((k : Nat) : Int)] := H5.slR (xs := [((k : Nat) : Int)]) encI_len rfl (by omega)
    have hl2 := hD4.lt
    replace hD4 := hD4.mono hb
    replace hw := grow_trans hw hb
    clear hb
    refine lw_call (f := 17) (by kernel_rfl) rfl rfl (crash_c hD4 (keep := [((k : Nat) : Int)]) rfl HK (fun x hx => by injection hx with hx; subst hx; show N5 ≠ B4; omega)) ?_; clear hD4; rintro e w6 ⟨rfl, hD4, hG⟩; refine ⟨_, rfl, ?_⟩
    have hD6 := (hD.mono hw).gw hG ⟨by omega, by omega⟩ ⟨by omega, by omega⟩
    have HW6 := (HW.mono hw).gw hG (fun x hx => by injection hx with hx; subst hx; have := (HW.ofSome _ rfl (by omega)).2.1; exact ⟨by show N3 ≠ N4; dsimp only at this; omega, by show N3 ≠ B4; dsimp only at this; omega⟩)
    replace hw := hG.below hw hN4 hB4
    clear hG
    repeat' (first | (refine lw_pure rfl (pv_move rfl) ?_) | (refine is_guarded ?_; first | (refine lw_on rfl rfl rfl ?_)) | ((refine is_bin ?_; first | (refine lw_pure rfl (pv_neq rfl rfl) ?_))))
    refine lw_call (f := 41) (by kernel_rfl) rfl rfl (one_is (n := sa) (p := s) (r := emptyB) (c := true) hD4 (rW hlt hxk)) ?_; rintro e w7 ⟨rfl, hb⟩; refine ⟨_, rfl, ?_⟩
    replace hw := grow_trans hw hb
    repeat' (first | (refine lw_pure rfl (pv_move rfl) ?_) | (refine is_cw ?_; first | (refine cw_region ?_) | (refine cw_false rfl rfl ?_) | (refine cw_skip ?_)) | (refine is_qw ?_; first | (with_reducible refine qw_then ?_) | (with_reducible refine qw_in ?_)) | (refine lw_nil ?_) | (refine is_guarded ?_; first | (refine lw_on rfl rfl rfl ?_)) | ((refine is_bin ?_; first | (refine lw_pure rfl (pv_inc rfl rfl (by omega)) ?_))) | ((refine is_un ?_; first | (refine lw_pure rfl (pv_not rfl) ?_))) | (refine lw_pure rfl (pv_pick_f rfl rfl rfl) ?_))
    exact qw_round (k + 1) (by repeat' (first | exact trivial | refine ⟨rfl, ?_⟩)) ⟨by omega, grow_trans hw0 hw, hD6.mono hb, HW6.mono hb⟩ (by omega)
  · have hk4 : k = 4 := by omega
    subst hk4
    clear HW hlt hk
    repeat' (first | (refine is_cw ?_; first | (refine cw_seq ?_) | (refine cw_region ?_) | (refine cw_false rfl rfl ?_) | (refine cw_exit ?_)) | (refine is_qw ?_; first | (with_reducible refine qw_then ?_) | (with_reducible refine qw_in_hit ?_) | (with_reducible refine qw_then_exit ?_)) | (refine lw_nil ?_) | ((refine is_bin ?_; first | (refine lw_pure rfl (pv_lss rfl rfl) ?_))))
    have hDk := hD
    clear hD
    refine lw_call (f := 12) (by kernel_rfl) rfl rfl (small_c (cap := 9) (by omega) (by omega) _) ?_; rintro e w5 ⟨⟨N5, B5, rfl, hN5, hB5, hD0⟩, hb⟩; refine ⟨_, rfl, ?_⟩
    have hDl := hDk.lt
    replace hDk := (hDk.mono hb)
    have hc1 : N ≠ N5 ∧ N ≠ B5 := ⟨by omega, by omega⟩
    have hc2 : B ≠ N5 ∧ B ≠ B5 := ⟨by omega, by omega⟩
    replace hN5 := Nat.le_trans hw.size hN5
    replace hB5 := Nat.le_trans hw.size hB5
    replace hw := grow_trans hw hb
    clear hb
    have hD : DkW w5 N5 B5 dA0 := hD0
    clear hD0
    repeat' (first | (refine lw_pure rfl (pv_move rfl) ?_) | (refine lw_pure rfl (pv_assign rfl) ?_) | (refine is_cw ?_; first | (refine cw_seq ?_) | (refine cw_region ?_)) | (refine is_qw ?_; first | (with_reducible refine qw_then ?_)) | (refine lw_nil ?_))
    refine lw_call (f := 29) (by kernel_rfl) rfl rfl (cut_is hD (by omega) rC1) ?_; clear hD; rintro e w1 ⟨rfl, hD, hG⟩; refine ⟨_, rfl, ?_⟩; replace hDk := hDk.gw hG hc1 hc2; replace hw := hG.below hw hN5 hB5; clear hG
    repeat' (first | (refine lw_pure rfl (pv_move rfl) ?_) | (refine is_guarded ?_; first | (refine lw_on rfl rfl rfl ?_)) | ((refine is_bin ?_; first | (refine lw_pure rfl (pv_neq rfl rfl) ?_))))
    refine lw_call (f := 35) (by kernel_rfl) rfl rfl (create_is (n := sa) hD (by decide) rC2) ?_; clear hD; rintro e w1 ⟨rfl, hD, hG⟩; refine ⟨_, rfl, ?_⟩; replace hDk := hDk.gw hG hc1 hc2; replace hw := hG.below hw hN5 hB5; clear hG
    repeat' (first | (refine lw_pure rfl (pv_move rfl) ?_) | (refine is_guarded ?_; first | (refine lw_on rfl rfl rfl ?_)) | ((refine is_bin ?_; first | (refine lw_pure rfl (pv_neq rfl rfl) ?_))) | (refine lw_pure rfl (pv_pick_f rfl rfl rfl) ?_))
    refine lw_call (f := 34) (by kernel_rfl) rfl rfl (append_is (n := sa) (b := sx) hD (by decide) rC3) ?_; clear hD; rintro e w1 ⟨rfl, hD, hG⟩; refine ⟨_, rfl, ?_⟩; replace hDk := hDk.gw hG hc1 hc2; replace hw := hG.below hw hN5 hB5; clear hG
    repeat' (first | (refine lw_pure rfl (pv_move rfl) ?_) | (refine is_guarded ?_; first | (refine lw_on rfl rfl rfl ?_)) | ((refine is_bin ?_; first | (refine lw_pure rfl (pv_neq rfl rfl) ?_))) | (refine lw_pure rfl (pv_pick_f rfl rfl rfl) ?_))
    refine lw_call (f := 30) (by kernel_rfl) rfl rfl (up_is (c := false) hD rfl) ?_; rintro e w1 ⟨rfl, hb⟩; refine ⟨_, rfl, ?_⟩; replace hD := hD.mono hb; replace hDk := hDk.mono hb; replace hw := grow_trans hw hb; clear hb
    repeat' (first | (refine lw_pure rfl (pv_move rfl) ?_) | (refine is_cw ?_; first | (refine cw_seq ?_) | (refine cw_region ?_) | (refine cw_false rfl rfl ?_) | (refine cw_skip ?_)) | (refine is_qw ?_; first | (with_reducible refine qw_then ?_)) | (refine lw_nil ?_) | (refine lw_pure rfl (pv_pick_f rfl rfl rfl) ?_))
    refine lw_call (f := 20) (by kernel_rfl) rfl rfl (read_is (n := sa) hD (by decide) rCr) ?_; rintro e w1 ⟨rfl, hb⟩; refine ⟨_, rfl, ?_⟩; replace hD := hD.mono hb; replace hDk := hDk.mono hb; replace hw := grow_trans hw hb; clear hb
    repeat' (first | (refine lw_pure rfl (pv_move rfl) ?_) | (refine lw_pure rfl (pv_assign rfl) ?_) | (refine is_cw ?_; first | (refine cw_seq ?_) | (refine cw_region ?_)) | (refine is_qw ?_; first | (with_reducible refine qw_then ?_)) | (refine lw_nil ?_) | (refine is_guarded ?_; first | (refine lw_on rfl rfl rfl ?_)) | ((refine is_bin ?_; first | (refine lw_pure rfl (pv_neq rfl rfl) ?_))) | (refine lw_pure rfl (pv_extract rfl rfl) ?_))
    refine lw_bsN (vs := [.int .i64 1]) (cs := [.int .i64 1]) elemXn rfl rfl rfl (by omega) (by omega) rfl (by intro v hv; simp at hv; subst hv; rfl) ?_; intro N6 w6 hN6 H6 hb
    have HK : SlR encI 1 w6 (some ⟨N6, 0, none⟩) 1 [(1 : Int)] := H6.slR (xs := [(1 : Int)]) encI_len rfl (by omega)
    have hl2 := hD.lt
    replace hD := hD.mono hb
    replace hDk := hDk.mono hb
    replace hw := grow_trans hw hb
    clear hb
    repeat' (first | (refine is_guarded ?_; first | (refine lw_on rfl rfl rfl ?_)))
    refine lw_call (f := 17) (by kernel_rfl) rfl rfl (crash_is hD (keep := [(1 : Int)]) rfl HK (fun x hx => by injection hx with hx; subst hx; show N6 ≠ B5; omega) rC4) ?_; clear hD; rintro e w1 ⟨rfl, hD, hG⟩; refine ⟨_, rfl, ?_⟩; replace hDk := hDk.gw hG hc1 hc2; replace hw := hG.below hw hN5 hB5; clear hG
    repeat' (first | (refine lw_pure rfl (pv_move rfl) ?_) | (refine is_guarded ?_; first | (refine lw_on rfl rfl rfl ?_)) | ((refine is_bin ?_; first | (refine lw_pure rfl (pv_neq rfl rfl) ?_))) | (refine lw_pure rfl (pv_pick_f rfl rfl rfl) ?_))
    refine lw_call (f := 41) (by kernel_rfl) rfl rfl (one_is (n := sa) (p := sx) (r := emptyB) (c := true) hD (by decide +kernel)) ?_; rintro e w1 ⟨rfl, hb⟩; refine ⟨_, rfl, ?_⟩; replace hD := hD.mono hb; replace hDk := hDk.mono hb; replace hw := grow_trans hw hb; clear hb
    repeat' (first | (refine lw_pure rfl (pv_move rfl) ?_) | (refine is_guarded ?_; first | (refine lw_on rfl rfl rfl ?_)) | ((refine is_un ?_; first | (refine lw_pure rfl (pv_not rfl) ?_))) | (refine lw_pure rfl (pv_pick_f rfl rfl rfl) ?_))
    refine lw_call (f := 30) (by kernel_rfl) rfl rfl (up_is (c := true) hD rfl) ?_; rintro e w1 ⟨rfl, hb⟩; refine ⟨_, rfl, ?_⟩; replace hD := hD.mono hb; replace hDk := hDk.mono hb; replace hw := grow_trans hw hb; clear hb
    repeat' (first | (refine lw_pure rfl (pv_move rfl) ?_) | (refine is_cw ?_; first | (refine cw_seq ?_) | (refine cw_region ?_) | (refine cw_false rfl rfl ?_) | (refine cw_skip ?_)) | (refine is_qw ?_; first | (with_reducible refine qw_then ?_)) | (refine lw_nil ?_) | (refine is_guarded ?_; first | (refine lw_on rfl rfl rfl ?_)) | ((refine is_un ?_; first | (refine lw_pure rfl (pv_not rfl) ?_))) | (refine lw_pure rfl (pv_pick_f rfl rfl rfl) ?_))
    clear hD
    have hD := hDk
    clear hDk
    refine lw_call (f := 35) (by kernel_rfl) rfl rfl (create_is (n := sb) hD (by decide) rA5) ?_; clear hD; rintro e w1 ⟨rfl, hD, hG⟩; refine ⟨_, rfl, ?_⟩; replace hw := hG.below hw hN hB; clear hG
    repeat' (first | (refine lw_pure rfl (pv_move rfl) ?_) | (refine is_guarded ?_; first | (refine lw_on rfl rfl rfl ?_)) | ((refine is_bin ?_; first | (refine lw_pure rfl (pv_eql rfl rfl) ?_))))
    refine lw_call (f := 38) (by kernel_rfl) rfl rfl (rename_is (n := sa) (t := sb) hD (by decide) (by decide) rA6) ?_; clear hD; rintro e w1 ⟨rfl, hD, hG⟩; refine ⟨_, rfl, ?_⟩; replace hw := hG.below hw hN hB; clear hG
    repeat' (first | (refine lw_pure rfl (pv_move rfl) ?_) | (refine is_guarded ?_; first | (refine lw_on rfl rfl rfl ?_)) | ((refine is_bin ?_; first | (refine lw_pure rfl (pv_eql rfl rfl) ?_))) | (refine lw_pure rfl (pv_pick_t rfl rfl rfl) ?_))
    refine lw_call (f := 41) (by kernel_rfl) rfl rfl (one_is (n := sb) (p := sx) (r := syz) (c := true) hD (by decide +kernel)) ?_; rintro e w1 ⟨rfl, hb⟩; refine ⟨_, rfl, ?_⟩; replace hD := hD.mono hb; replace hw := grow_trans hw hb; clear hb
    repeat' (first | (refine lw_pure rfl (pv_move rfl) ?_) | (refine is_guarded ?_; first | (refine lw_on rfl rfl rfl ?_)) | (refine lw_pure rfl (pv_pick_t rfl rfl rfl) ?_))
    refine lw_call (f := 37) (by kernel_rfl) rfl rfl (trim_is (n := sb) hD (by decide) rA7) ?_; clear hD; rintro e w1 ⟨rfl, hD, hG⟩; refine ⟨_, rfl, ?_⟩; replace hw := hG.below hw hN hB; clear hG
    repeat' (first | (refine lw_pure rfl (pv_move rfl) ?_) | (refine is_guarded ?_; first | (refine lw_on rfl rfl rfl ?_)) | ((refine is_bin ?_; first | (refine lw_pure rfl (pv_eql rfl rfl) ?_))) | (refine lw_pure rfl (pv_pick_t rfl rfl rfl) ?_))
    refine lw_call (f := 41) (by kernel_rfl) rfl rfl (one_is (n := sb) (p := emptyB) (r := emptyB) (c := true) hD (by decide +kernel)) ?_; rintro e w1 ⟨rfl, hb⟩; refine ⟨_, rfl, ?_⟩; replace hD := hD.mono hb; replace hw := grow_trans hw hb; clear hb
    repeat' (first | (refine lw_pure rfl (pv_move rfl) ?_) | (refine is_guarded ?_; first | (refine lw_on rfl rfl rfl ?_)) | (refine lw_pure rfl (pv_pick_t rfl rfl rfl) ?_))
    refine lw_call (f := 35) (by kernel_rfl) rfl rfl (create_is (n := sab) hD (by decide) rA8) ?_; clear hD; rintro e w1 ⟨rfl, hD, hG⟩; refine ⟨_, rfl, ?_⟩; replace hw := hG.below hw hN hB; clear hG
    repeat' (first | (refine lw_pure rfl (pv_assign rfl) ?_) | (refine is_cw ?_; first | (refine cw_ret ?_)) | (refine is_qw ?_; first | (with_reducible refine qw_then ?_)) | (refine lw_nil ?_) | (refine is_guarded ?_; first | (refine lw_on rfl rfl rfl ?_)) | ((refine is_bin ?_; first | (refine lw_pure rfl (pv_eql rfl rfl) ?_))) | (refine lw_pure rfl (pv_pick_t rfl rfl rfl) ?_))
    exact qw_ret1 rfl rfl ⟨rfl, hw⟩

theorem is_seqr {P : Program} {n : Nat} {l : Fr} {w : World} {Q : Exit → Act → World → Prop} (i : Nat) {ops : Array Oper} {d : Bool} {y : Code} (h : CW P n (.seq (.region i ops d) y) Q l w) : CW P n (.seq (.region i ops d) y) Q l w := h
theorem free0 {cap : Int} (h : 0 ≤ cap) (h2 : cap ≤ 9223372036854775807) : Free ⟨[], cap, -1, false⟩ := ⟨⟨List.Pairwise.nil, fun f hf => (by cases hf), fun f hf => (by cases hf), (by simp), (by simpa [usedF] using h), h2, (by show (-1 : Int) ≤ -1; omega), (by show (-1 : Int) ≤ 9223372036854775807; omega)⟩, rfl, rfl⟩
theorem free_is {d : Dsk} (h : Free d) {c : Int} (hc : d.cap = c) : (⟨d.fs, c, -1, false⟩ : Dsk) = d := by
  rw [dsk_ext]; exact ⟨rfl, hc.symm, h.left.symm, h.up.symm⟩
theorem same_is {w : World} {N1 B1 N2 B2 : Nat} {a b : Dsk} {c : Bool} (h1 : DkW w N1 B1 a) (h2 : DkW w N2 B2 b) (hr : decide (a = b) = c) : Calls Tryd.prog 26 #[.pointer (some ⟨N1, 0, none⟩), .pointer (some ⟨N2, 0, none⟩)] w fun e w' => e = .returned (.bool c) ∧ Below w.heap.size w w' := by
  have := same_c h1 h2; rw [hr] at this; exact this
theorem load_is {w : World} {cap : Int} {l : List Fil} {n ca : Nat} {a : Option Addr} (hO : SlR encF 3 w a ca l) (hn : l.length = n) (hcap : cap ≤ 9223372036854775807) (hs : ∀ f ∈ l, nameF f.name = true ∧ szF f ≤ 1048576) (hr : loadD cap l = (0, ⟨l, cap, -1, false⟩)) : Calls Tryd.prog 21 #[.int .i64 cap, .slice a n ca] w fun e w' => (∃ N B, e = .returned (.tuple #[.pointer (some ⟨N, 0, none⟩), .int .i64 0]) ∧ w.heap.size ≤ N ∧ w.heap.size ≤ B ∧ DkW w' N B ⟨l, cap, -1, false⟩) ∧ Below w.heap.size w w' := by
  refine (load_c hn hcap (fun f hf => ?_) hO).mono ?_
  · obtain ⟨h1, h2⟩ := hs f hf
    unfold nameF at h1
    simp only [Bool.and_eq_true, decide_eq_true_eq] at h1
    unfold szF at h2
    omega
  · rintro e w' ⟨hL, hb⟩
    rcases hL with ⟨h1, _⟩ | ⟨_, h2⟩
    · rw [hr] at h1; exact absurd rfl h1
    · exact ⟨h2, hb⟩

theorem nm_byte : ∀ c : Fin 256, nameF ((⟨#[97]⟩ : ByteArray) ++ strOfNums [(c.val : Int)] ++ ⟨#[98]⟩) = nameF (strOfNums [(c.val : Int)]) := by decide +kernel
def fnm (i : Nat) : ByteArray := ⟨#[102, UInt8.ofNat (97 + i / 8), UInt8.ofNat (97 + i % 8)]⟩
theorem fnm_is : ∀ i : Fin 64, (⟨#[102]⟩ : ByteArray) ++ strOfNums [((97 + i.val / 8 : Nat) : Int), ((97 + i.val % 8 : Nat) : Int)] = fnm i.val := by decide +kernel
def mkF (i : Nat) : List Fil := (List.range i).map fun j => ⟨fnm j, emptyB, emptyB⟩
def mkD (i : Nat) : Dsk := ⟨mkF i, 2097152, -1, false⟩
theorem mk_step : ∀ i : Fin 64, createD (mkD i.val) (fnm i.val) = (0, mkD (i.val + 1)) := by decide +kernel
theorem app44 {d : Dsk} {f : Fil} {n b : ByteArray} (hk : d.dark = false) (hg : getF d.fs n = some f) (h : 1048576 < szF f + b.size ∨ d.cap < (usedF d.fs : Int) + b.size) : appendD d n b = (44, d) := by
  unfold appendD
  rw [hk, if_neg (by simp), hg]
  dsimp only
  rw [if_pos h]
theorem app0 {d : Dsk} {f : Fil} {n b : ByteArray} (hk : d.dark = false) (hl : d.left = -1) (hg : getF d.fs n = some f) (h : ¬ (1048576 < szF f + b.size ∨ d.cap < (usedF d.fs : Int) + b.size)) : appendD d n b = (0, { d with fs := putF d.fs ⟨n, f.firm, f.pend ++ b⟩ }) := by
  unfold appendD
  rw [hk, if_neg (by simp), hg]
  dsimp only
  rw [if_neg h]
  unfold doD tickD
  rw [if_neg (by omega), if_neg (by omega)]
  simp [hk]
def faa : ByteArray := ⟨#[102, 97, 97]⟩
def fab : ByteArray := ⟨#[102, 97, 98]⟩
def fac : ByteArray := ⟨#[102, 97, 99]⟩
def more : ByteArray := ⟨#[109, 111, 114, 101]⟩
def nonB : ByteArray := ⟨#[110, 111, 110, 101]⟩
def aSb : ByteArray := ⟨#[97, 47, 98]⟩
def restF : List Fil := (mkF 64).drop 2
def stF (p q : ByteArray) : List Fil := ⟨faa, emptyB, p⟩ :: ⟨fab, emptyB, q⟩ :: restF
theorem st0 : mkF 64 = stF emptyB emptyB := by decide +kernel
theorem c_more : createD (mkD 64) more = (44, mkD 64) := by decide +kernel
theorem c_faa : createD (mkD 64) faa = (6, mkD 64) := by decide +kernel
theorem c_asb : createD (mkD 64) aSb = (4, mkD 64) := by decide +kernel
theorem get_faa (p q : ByteArray) : getF (stF p q) faa = some ⟨faa, emptyB, p⟩ := by
  unfold getF stF
  rw [List.find?_cons_of_pos (by show decide (faa = faa) = true; decide)]
theorem get_fab (p q : ByteArray) : getF (stF p q) fab = some ⟨fab, emptyB, q⟩ := by
  unfold getF stF
  rw [List.find?_cons_of_neg (by show ¬ decide (faa = fab) = true; decide), List.find?_cons_of_pos (by show decide (fab = fab) = true; decide)]
theorem get_rest (p q n : ByteArray) (h1 : faa ≠ n) (h2 : fab ≠ n) : getF (stF p q) n = getF restF n := by
  unfold getF stF
  rw [List.find?_cons_of_neg (by simpa using h1), List.find?_cons_of_neg (by simpa using h2)]
theorem used_rest : usedF restF = 0 := by decide +kernel
theorem used_st (p q : ByteArray) : usedF (stF p q) = p.size + q.size := by
  unfold stF
  rw [usedF_cons, usedF_cons, used_rest]
  show (0 + p.size) + ((0 + q.size) + 0) = _
  omega
theorem put_faa (p q r : ByteArray) : putF (stF p q) ⟨faa, emptyB, r⟩ = stF r q := by
  unfold putF stF
  rw [List.filter_cons_of_neg (by show ¬ decide (ltN faa faa) = true; decide +kernel), List.filter_cons_of_neg (by show ¬ decide (ltN fab faa) = true; decide +kernel), List.filter_cons_of_neg (by show ¬ decide (ltN faa faa) = true; decide +kernel), List.filter_cons_of_pos (by show decide (ltN faa fab) = true; decide +kernel)]
  rw [show restF.filter (fun g => decide (ltN g.name faa)) = [] from by decide +kernel, show restF.filter (fun g => decide (ltN faa g.name)) = restF from by decide +kernel]
  rfl
theorem put_fab (p q r : ByteArray) : putF (stF p q) ⟨fab, emptyB, r⟩ = stF p r := by
  unfold putF stF
  rw [List.filter_cons_of_pos (by show decide (ltN faa fab) = true; decide +kernel), List.filter_cons_of_neg (by show ¬ decide (ltN fab fab) = true; decide +kernel), List.filter_cons_of_neg (by show ¬ decide (ltN fab faa) = true; decide +kernel), List.filter_cons_of_neg (by show ¬ decide (ltN fab fab) = true; decide +kernel)]
  rw [show restF.filter (fun g => decide (ltN g.name fab)) = [] from by decide +kernel, show restF.filter (fun g => decide (ltN fab g.name)) = restF from by decide +kernel]
  rfl

theorem elemBy : ElemT Tryd.prog 70 5 1 1 := elem_of Tryd.underlying70 (by kernel_rfl) (by omega)
section
variable {n : Nat} {l : Fr} {w : World} {Q : Exit → Act → World → Prop} {ops : Array Oper} {os : List Oper} {ty : TypeId} {pos : String} {af : Array Edge} {x y : Operand}
set_option maxRecDepth 20000 in
theorem zero_by : ∀ m : Nat, ((Tryd.prog.info? 5).bind fun i => i.zero.map fun z => (madeCells z.cells (m * 1)).toList) = some ((List.replicate m (0 : Int)).flatMap encB) := fun m => by
  have h : (Tryd.prog.info? 5).bind (fun i => i.zero) = some (.int .u8 0) := by kernel_rfl
  cases hi : Tryd.prog.info? 5 with
  | none => rw [hi] at h; cases h
  | some i =>
    rw [hi] at h
    have h2 : i.zero = some (.int .u8 0) := h
    rw [Option.bind_some, h2, Option.map_some, Nat.mul_one, show (Value.int .u8 0).cells = #[.int .u8 0] from rfl, toList_madeCells_one]
    congr 1
    induction m with
    | zero => rfl
    | succ m ih => rw [List.replicate_succ, List.replicate_succ, List.flatMap_cons, ih]; rfl
theorem lw_mkbig {d m : Nat} (hm : m ≤ 4194304) (hd : Nat.blt d n = true) (hx : ev l x = some (.int .i64 (m : Int))) (hy : ev l y = some (.int .i64 (m : Int)))
    (h : ∀ (N : Nat) (xs : List Int) (w' : World), xs.length = m → Own encB 1 5 w.heap.size w' (.slice (some ⟨N, 0, none⟩) m m) xs → Below w.heap.size w w' → LW Tryd.prog n ops Q os ((d, .slice (some ⟨N, 0, none⟩) m m) :: l) w') : LW Tryd.prog n ops Q (⟨some d, .makeSlice 70 x y, ty, pos, af, none⟩ :: os) l w := by
  have hz := zero_by m
  obtain ⟨i, z, hi, hzi, hsz, hby, hzs⟩ := elemBy.info
  rw [hi, Option.bind_some, hzi, Option.map_some, Option.some.injEq] at hz
  obtain ⟨w', r1, r2, r3⟩ := run_makeSlice_full (P := Tryd.prog) w w.heap.size 70 5 i z 1 elemBy.sl hi hzi hsz .i64 .i64 m (by omega) (by rw [hby]; omega) (by unfold maxLen; omega) (Nat.le_refl _)
  refine lw_eff (v := .slice (some ⟨w.heap.size, 0, none⟩) m m) hd (w' := w') ⟨fun A hA => ?_⟩ (h w.heap.size (List.replicate m 0) w' List.length_replicate ?_ (below_none r3))
  · simp [execOp, hA.ev hx, hA.ev hy, r1]
  · unfold Own; rw [List.length_replicate, ← hz]; exact r2
theorem pv_b2sR {d : Option Nat} {g : Option (Nat × Bool)} {N m : Nat} {xs : List Int} (hS : SlR encB 1 w (some ⟨N, 0, none⟩) m xs) (hl : xs.length = m) (hx : ev l x = some (.slice (some ⟨N, 0, none⟩) m m)) : Pv Tryd.prog n l ⟨d, .convert 70 9 x, ty, pos, af, g⟩ (.string (strOfNums xs)) w := ⟨fun A hA => by
  have hr := run_convert_bytes_arg (P := Tryd.prog) w 70 5 Tryd.underlying70 Tryd.underlying5 N 0 m m xs hl (fun i hi => by
    subst hl
    have := (hS.ofSome _ rfl (by have := hS.le; omega)).2.2 i xs[i] (List.getElem?_eq_getElem hi) 0 _ rfl
    simp only [Nat.mul_one, Nat.add_zero] at this
    rw [this, List.getD_eq_getElem?_getD, List.getElem?_eq_getElem hi]; rfl) 9 Tryd.underlying9
  simp [execOp, hA.ev hx, hr]⟩
theorem pv_remz {d : Option Nat} {g : Option (Nat × Bool)} {t t' : TypeId} {a b : Nat} (hx : ev l x = some (.int .i64 (a : Int))) (hy : ev l y = some (.int .i64 (b : Int))) (h : 0 < b) : Pv Tryd.prog n l ⟨d, .binOp .rem t x y t', ty, pos, af, g⟩ (.int .i64 ((a % b : Nat) : Int)) w := ⟨fun A hA => by
  have hb : ¬ b = 0 := by omega
  have e : ((a % b : Nat) : Int) = (a : Int).tmod (b : Int) := by rw [Int.tmod_eq_emod_of_nonneg (by omega), Int.natCast_emod]
  rw [e]
  simp [execOp, hA.ev hx, hA.ev hy, eqGuard, binOp, Op.intDiv, hb]⟩
theorem pv_quoz {d : Option Nat} {g : Option (Nat × Bool)} {t t' : TypeId} {a b : Nat} (hx : ev l x = some (.int .i64 (a : Int))) (hy : ev l y = some (.int .i64 (b : Int))) (h : 0 < b) (ha : a ≤ 9223372036854775807) : Pv Tryd.prog n l ⟨d, .binOp .quo t x y t', ty, pos, af, g⟩ (.int .i64 ((a / b : Nat) : Int)) w := ⟨fun A hA => by
  have hb : ¬ b = 0 := by omega
  have e : (a : Int).tdiv (b : Int) = ((a / b : Nat) : Int) := by rw [Int.tdiv_eq_ediv_of_nonneg (by omega), Int.natCast_ediv]
  have h2 : a / b ≤ a := Nat.div_le_self a b
  obtain ⟨q, hq⟩ : ∃ q, a / b = q := ⟨_, rfl⟩
  rw [hq] at h2 e ⊢
  have e2 : IntKind.i64.wrap (q : Int) = (q : Int) := IntWalk.i64_in _ (by omega)
  simp [execOp, hA.ev hx, hA.ev hy, eqGuard, binOp, Op.intDiv, hb, e, e2]⟩
end
def nD (p q : ByteArray) : Dsk := ⟨stF p q, 2097152, -1, false⟩
theorem nD0 : mkD 64 = nD emptyB emptyB := by unfold mkD nD; rw [st0]
theorem nD_lim : (1048576 : Nat) ≤ 9223372036854775807 := by decide
section
variable {big : ByteArray}
theorem n_j (h : big.size = 1048576) : appendD (nD emptyB emptyB) faa (big ++ sx) = (44, nD emptyB emptyB) :=
  app44 rfl (get_faa _ _) (Or.inl (by
    have e : szF ⟨faa, emptyB, emptyB⟩ = 0 := rfl
    have e2 : sx.size = 1 := rfl
    rw [e, size_append, h, e2]; omega))
theorem n_k (h : big.size = 1048576) : appendD (nD emptyB emptyB) faa big = (0, nD (emptyB ++ big) emptyB) := by
  have e : szF ⟨faa, emptyB, emptyB⟩ = 0 := rfl
  have e2 : usedF (nD emptyB emptyB).fs = 0 := used_st _ _
  have e3 : (nD emptyB emptyB).cap = 2097152 := rfl
  rw [app0 rfl rfl (get_faa _ _) (by rw [e, e2, e3, h]; omega)]
  show (0, ({ fs := putF (stF emptyB emptyB) ⟨faa, emptyB, emptyB ++ big⟩, cap := 2097152, left := -1, dark := false } : Dsk)) = _
  rw [put_faa]; rfl
theorem n_psz (h : big.size = 1048576) : (emptyB ++ big).size = 1048576 := by rw [size_append, h, size_empty]
end
section
variable {p : ByteArray}
theorem n_l (h : p.size = 1048576) : appendD (nD p emptyB) faa sx = (44, nD p emptyB) :=
  app44 rfl (get_faa _ _) (Or.inl (by
    have e : szF ⟨faa, emptyB, p⟩ = 0 + p.size := rfl
    have e2 : sx.size = 1 := rfl
    rw [e, h, e2]; omega))
theorem n_m {big : ByteArray} (h : p.size = 1048576) (hb : big.size = 1048576) : appendD (nD p emptyB) fab big = (0, nD p (emptyB ++ big)) := by
  have e : szF ⟨fab, emptyB, emptyB⟩ = 0 := rfl
  have e2 : usedF (nD p emptyB).fs = p.size + 0 := used_st _ _
  have e3 : (nD p emptyB).cap = 2097152 := rfl
  rw [app0 rfl rfl (get_fab _ _) (by rw [e, e2, e3, h, hb]; omega)]
  show (0, ({ fs := putF (stF p emptyB) ⟨fab, emptyB, emptyB ++ big⟩, cap := 2097152, left := -1, dark := false } : Dsk)) = _
  rw [put_fab]; rfl
theorem get_fac (p q : ByteArray) : getF (stF p q) fac = some ⟨fac, emptyB, emptyB⟩ := by
  rw [get_rest p q fac (by decide) (by decide)]
  decide +kernel
theorem put_fac (p q : ByteArray) : putF (stF p q) ⟨fac, emptyB, emptyB⟩ = stF p q := by
  unfold putF stF
  rw [List.filter_cons_of_pos (by show decide (ltN faa fac) = true; decide +kernel), List.filter_cons_of_pos (by show decide (ltN fab fac) = true; decide +kernel), List.filter_cons_of_neg (by show ¬ decide (ltN fac faa) = true; decide +kernel), List.filter_cons_of_neg (by show ¬ decide (ltN fac fab) = true; decide +kernel)]
  rw [show restF.filter (fun g => decide (ltN g.name fac)) = [] from by decide +kernel, show restF.filter (fun g => decide (ltN fac g.name)) = restF.drop 1 from by decide +kernel]
  show ⟨faa, emptyB, p⟩ :: ⟨fab, emptyB, q⟩ :: ([] ++ ⟨fac, emptyB, emptyB⟩ :: restF.drop 1) = _
  rw [List.nil_append, show (⟨fac, emptyB, emptyB⟩ : Fil) :: restF.drop 1 = restF from by decide +kernel]
variable {q : ByteArray}
theorem n_n (h : p.size = 1048576) (h2 : q.size = 1048576) : appendD (nD p q) fac sx = (44, nD p q) :=
  app44 rfl (get_fac _ _) (Or.inr (by
    have e2 : usedF (nD p q).fs = p.size + q.size := used_st _ _
    have e3 : (nD p q).cap = 2097152 := rfl
    have e4 : sx.size = 1 := rfl
    rw [e2, e3, h, h2, e4]; omega))
theorem n_o (h : p.size = 1048576) (h2 : q.size = 1048576) : appendD (nD p q) fac emptyB = (0, nD p q) := by
  have e : szF ⟨fac, emptyB, emptyB⟩ = 0 := rfl
  have e2 : usedF (nD p q).fs = p.size + q.size := used_st _ _
  have e3 : (nD p q).cap = 2097152 := rfl
  rw [app0 rfl rfl (get_fac _ _) (by rw [e, e2, e3, h, h2, size_empty]; omega)]
  show (0, ({ fs := putF (stF p q) ⟨fac, emptyB, emptyB ++ emptyB⟩, cap := 2097152, left := -1, dark := false } : Dsk)) = _
  rw [show emptyB ++ emptyB = emptyB from by decide, put_fac]; rfl
theorem n_p : trimD (nD p q) faa (-1) = (1, nD p q) := by
  unfold trimD
  rw [show (nD p q).dark = false from rfl, if_neg (by simp), show getF (nD p q).fs faa = _ from get_faa p q]
  dsimp only
  rw [if_pos (Or.inl (by omega))]
theorem n_q (h : p.size = 1048576) : trimD (nD p q) faa 1048577 = (1, nD p q) := by
  unfold trimD
  rw [show (nD p q).dark = false from rfl, if_neg (by simp), show getF (nD p q).fs faa = _ from get_faa p q]
  dsimp only
  have e : szF ⟨faa, emptyB, p⟩ = 0 + p.size := rfl
  rw [if_pos (Or.inr (by rw [e, h]; omega))]
theorem get_non (p q : ByteArray) : getF (stF p q) nonB = none := by
  rw [get_rest p q nonB (by decide) (by decide)]
  decide +kernel
theorem n_r : trimD (nD p q) nonB (-1) = (5, nD p q) := by
  unfold trimD
  rw [show (nD p q).dark = false from rfl, if_neg (by simp), show getF (nD p q).fs nonB = _ from get_non p q]
theorem n_s : renameD (nD p q) nonB aSb = (5, nD p q) := by
  unfold renameD
  rw [show (nD p q).dark = false from rfl, if_neg (by simp), show getF (nD p q).fs nonB = _ from get_non p q]
theorem n_t : renameD (nD p q) faa aSb = (4, nD p q) := by
  unfold renameD
  rw [show (nD p q).dark = false from rfl, if_neg (by simp), show getF (nD p q).fs faa = _ from get_faa p q]
  dsimp only
  rw [if_pos (by decide +kernel)]
theorem n_u : renameD (nD p q) faa faa = (1, nD p q) := by
  unfold renameD
  rw [show (nD p q).dark = false from rfl, if_neg (by simp), show getF (nD p q).fs faa = _ from get_faa p q]
  dsimp only
  rw [if_neg (by decide +kernel), if_pos rfl]
def enF (p : ByteArray) : List Fil := ⟨fab, emptyB, p⟩ :: restF
def eD (p : ByteArray) : Dsk := ⟨enF p, 2097152, -1, false⟩
def eD0 (p : ByteArray) : Dsk := ⟨enF p, 2097152, 0, false⟩
def eDk (p : ByteArray) : Dsk := ⟨enF p, 2097152, 0, true⟩
theorem n_v : renameD (nD p q) faa fab = (0, eD p) := by
  unfold renameD
  rw [show (nD p q).dark = false from rfl, if_neg (by simp), show getF (nD p q).fs faa = _ from get_faa p q]
  dsimp only
  rw [if_neg (by decide +kernel), if_neg (by decide)]
  have h1 : dropF (nD p q).fs faa = ⟨fab, emptyB, q⟩ :: restF := by
    show dropF (stF p q) faa = _
    unfold dropF stF
    rw [List.filter_cons_of_neg (by show ¬ (!decide (faa = faa)) = true; decide), List.filter_cons_of_pos (by show (!decide (fab = faa)) = true; decide)]
    rw [show restF.filter (fun g => !decide (g.name = faa)) = restF from by decide +kernel]
  have h2 : putF (⟨fab, emptyB, q⟩ :: restF) ⟨fab, emptyB, p⟩ = enF p := by
    unfold putF
    rw [List.filter_cons_of_neg (by show ¬ decide (ltN fab fab) = true; decide +kernel), List.filter_cons_of_neg (by show ¬ decide (ltN fab fab) = true; decide +kernel)]
    rw [show restF.filter (fun g => decide (ltN g.name fab)) = [] from by decide +kernel, show restF.filter (fun g => decide (ltN fab g.name)) = restF from by decide +kernel]
    rfl
  rw [h1, h2]
  unfold doD
  rw [if_neg (by show ¬ (-1 : Int) = 0; omega)]
  rfl
theorem n_w : cutD (eD p) (-1) = (1, eD p) := by
  unfold cutD
  rw [show (eD p).dark = false from rfl, if_neg (by simp), if_pos (by omega)]
theorem n_x : cutD (eD p) 0 = (0, eD0 p) := by
  unfold cutD
  rw [show (eD p).dark = false from rfl, if_neg (by simp), if_neg (by omega)]; rfl
theorem gete_non : getF (enF p) nonB = none := by
  unfold getF enF
  rw [List.find?_cons_of_neg (by show ¬ decide (fab = nonB) = true; decide)]
  exact (show getF restF nonB = none from by decide +kernel)
theorem gete_fab : getF (enF p) fab = some ⟨fab, emptyB, p⟩ := by
  unfold getF enF
  rw [List.find?_cons_of_pos (by show decide (fab = fab) = true; decide)]
theorem n_y : syncD (eD0 p) nonB = (5, eD0 p) := by
  unfold syncD
  rw [show (eD0 p).dark = false from rfl, if_neg (by simp), show getF (eD0 p).fs nonB = _ from gete_non]
theorem n_z : syncD (eD0 p) fab = (45, eDk p) := by
  unfold syncD
  rw [show (eD0 p).dark = false from rfl, if_neg (by simp), show getF (eD0 p).fs fab = _ from gete_fab]
  dsimp only
  unfold doD
  rw [if_pos (show (eD0 p).left = 0 from rfl)]; rfl
theorem n_c : cutD (eDk p) 1 = (45, eDk p) := by unfold cutD; rw [if_pos (show (eDk p).dark = true from rfl)]
theorem n_d : deleteD (eDk p) nonB = (45, eDk p) := by unfold deleteD; rw [if_pos (show (eDk p).dark = true from rfl)]
theorem n_used (h : p.size = 1048576) : usedF (eDk p).fs = 1048576 := by
  show usedF (enF p) = _
  unfold enF
  rw [usedF_cons, used_rest]
  show (0 + p.size) + 0 = _
  omega
theorem n_len : (eDk p).fs.length = 63 := by
  show (restF.length + 1) = 63
  rw [show restF.length = 62 from by decide +kernel]
end

set_option maxRecDepth 20000 in
theorem findn_c (n : ByteArray) (w : World) : Calls Tryd.prog 45 #[.pointer none, .string n] w fun e w' => e = .returned (.tuple #[.agg #[.string emptyB, .string emptyB], .int .i64 2]) ∧ Below w.heap.size w w' := by
  have hw := Below.refl w.heap.size w
  refine fn_enter 28 Tryd.func45 rfl rfl rfl ?_
  repeat' (first | (refine lw_pure rfl (pv_move rfl) ?_) | (refine lw_pure rfl (pv_assign rfl) ?_) | (refine is_cw ?_; first | (refine cw_seq ?_) | (refine cw_region ?_) | (refine cw_true rfl rfl ?_) | (refine cw_false rfl rfl ?_) | (refine cw_true rfl (by first | assumption | exact decide_eq_true (by omega) | exact dec_notT (by omega)) ?_) | (refine cw_false rfl (by first | assumption | exact decide_eq_false (by omega) | exact dec_notF (by omega)) ?_) | (refine cw_skip ?_) | (refine cw_ret ?_)) | (refine is_qw ?_; first | (with_reducible refine qw_then ?_) | (with_reducible refine qw_then_ret ?_)) | (refine lw_nil ?_) | ((refine is_bin ?_; first | (refine lw_pure rfl (pv_neq rfl rfl) ?_))) | ((refine is_load ?_; first | (refine lw_pure rfl (pv_load (t1 rfl) rfl (by first | fail)) ?_) | (refine lw_pure rfl (pv_loada (tA rfl) rfl (by first | fail) (by rfl)) ?_))) | ((refine is_fa ?_; first | (refine lw_pure rfl (pv_fa (tF rfl) rfl) ?_))) | ((refine is_un ?_; first | (refine lw_pure rfl (pv_not rfl) ?_))) | ((refine is_bd ?_; first | (refine lw_pure rfl (tyB_78 rfl rfl rfl) ?_))) | (refine lw_pure rfl (pv_extract rfl rfl) ?_) | (refine lw_pure rfl (pv_nilp rfl) ?_) | (refine lw_pure0 (pv_nilp rfl) ?_))
  refine lw_allocN rfl (by first | exact tyv_28 | exact tyv_29 | exact tyv_34 | exact tyv_35 | exact tyv_43 | exact tyv_44 | exact tyv_77 | exact tyv_78 | exact tyv_80 | exact tyv_81 | exact tyv_86 | exact tyv_87 | exact tyv_126 | exact tyv_127) rfl ?_; intro N4 w4 hN4 H4 hb
  replace hw := grow_trans hw hb
  clear hb
  have hw0 := hw
  clear hw
  have hw := Below.refl w4.heap.size w4
  repeat' (first | (refine lw_pure rfl (pv_move rfl) ?_) | (refine lw_pure rfl (pv_assign rfl) ?_) | (refine lw_call (f := 44) (by kernel_rfl) rfl rfl (downn_c _) ?_; rintro e w1 ⟨rfl, hb⟩; refine ⟨_, rfl, ?_⟩; replace hw := grow_trans hw hb; clear hb) | (refine is_cw ?_; first | (refine cw_seq ?_) | (refine cw_region ?_) | (refine cw_true rfl rfl ?_) | (refine cw_false rfl rfl ?_) | (refine cw_true rfl (by first | assumption | exact decide_eq_true (by omega) | exact dec_notT (by omega)) ?_) | (refine cw_false rfl (by first | assumption | exact decide_eq_false (by omega) | exact dec_notF (by omega)) ?_) | (refine cw_skip ?_) | (refine cw_ret ?_)) | (refine is_qw ?_; first | (with_reducible refine qw_then ?_) | (with_reducible refine qw_then_ret ?_)) | (refine lw_nil ?_) | ((refine is_bin ?_; first | (refine lw_pure rfl (pv_neq rfl rfl) ?_))) | ((refine is_load ?_; first | (refine lw_pure rfl (pv_load (t1 rfl) rfl (by first | fail)) ?_) | (refine lw_pure rfl (pv_loada (tA rfl) rfl (by first | fail) (by rfl)) ?_))) | ((refine is_fa ?_; first | (refine lw_pure rfl (pv_fa (tF rfl) rfl) ?_))) | ((refine is_un ?_; first | (refine lw_pure rfl (pv_not rfl) ?_))) | ((refine is_bd ?_; first | (refine lw_pure rfl (tyB_78 rfl rfl rfl) ?_))) | (refine lw_pure rfl (pv_extract rfl rfl) ?_) | (refine lw_pure rfl (pv_nilp rfl) ?_) | (refine lw_pure0 (pv_nilp rfl) ?_))
  refine lw_storea (vs := [.string emptyB, .string emptyB]) (H4.mono hw) (tZ rfl) rfl rfl rfl rfl (by intro v hv; simp at hv; rcases hv with rfl | rfl <;> rfl) ?_; intro w5 H5 hg5 hz5
  replace hw := st_hw (grow_trans hw0 hw) hg5 hN4
  repeat' (first | (refine lw_pure rfl (pv_move rfl) ?_) | (refine lw_pure rfl (pv_assign rfl) ?_) | (refine is_cw ?_; first | (refine cw_seq ?_) | (refine cw_region ?_) | (refine cw_true rfl rfl ?_) | (refine cw_false rfl rfl ?_) | (refine cw_true rfl (by first | assumption | exact decide_eq_true (by omega) | exact dec_notT (by omega)) ?_) | (refine cw_false rfl (by first | assumption | exact decide_eq_false (by omega) | exact dec_notF (by omega)) ?_) | (refine cw_skip ?_) | (refine cw_ret ?_)) | (refine is_qw ?_; first | (with_reducible refine qw_then ?_) | (with_reducible refine qw_then_ret ?_)) | (refine lw_nil ?_) | ((refine is_bin ?_; first | (refine lw_pure rfl (pv_neq rfl rfl) ?_))) | ((refine is_load ?_; first | (refine lw_pure rfl (pv_load (t1 rfl) rfl (by first | fail)) ?_) | (refine lw_pure rfl (pv_loada (tA rfl) rfl (by first | fail) (by rfl)) ?_))) | ((refine is_fa ?_; first | (refine lw_pure rfl (pv_fa (tF rfl) rfl) ?_))) | ((refine is_un ?_; first | (refine lw_pure rfl (pv_not rfl) ?_))) | ((refine is_bd ?_; first | (refine lw_pure rfl (tyB_78 rfl rfl rfl) ?_))) | (refine lw_pure rfl (pv_extract rfl rfl) ?_) | (refine lw_pure rfl (pv_nilp rfl) ?_) | (refine lw_pure0 (pv_nilp rfl) ?_))
  exact qw_retct rfl rfl rfl (agg_ld (tA rfl) rfl (fun i u hu => H5.ld0 hu)) ⟨rfl, hw⟩
set_option maxRecDepth 20000 in
theorem deleten_c (n : ByteArray) (w : World) : Calls Tryd.prog 39 #[.pointer none, .string n] w fun e w' => e = .returned (.int .i64 2) ∧ Below w.heap.size w w' := by
  have hw := Below.refl w.heap.size w
  refine fn_enter 19 Tryd.func39 rfl rfl rfl ?_
  repeat' (first | (refine lw_pure rfl (pv_move rfl) ?_) | (refine lw_pure rfl (pv_assign rfl) ?_) | (refine is_cw ?_; first | (refine cw_seq ?_) | (refine cw_region ?_) | (refine cw_true rfl rfl ?_) | (refine cw_false rfl rfl ?_) | (refine cw_true rfl (by first | assumption | exact decide_eq_true (by omega) | exact dec_notT (by omega)) ?_) | (refine cw_false rfl (by first | assumption | exact decide_eq_false (by omega) | exact dec_notF (by omega)) ?_) | (refine cw_skip ?_) | (refine cw_ret ?_)) | (refine is_qw ?_; first | (with_reducible refine qw_then ?_) | (with_reducible refine qw_then_ret ?_)) | (refine lw_nil ?_) | ((refine is_bin ?_; first | (refine lw_pure rfl (pv_neq rfl rfl) ?_))) | ((refine is_load ?_; first | (refine lw_pure rfl (pv_load (t1 rfl) rfl (by first | fail)) ?_) | (refine lw_pure rfl (pv_loada (tA rfl) rfl (by first | fail) (by rfl)) ?_))) | (refine lw_pure rfl (pv_extract rfl rfl) ?_) | (refine lw_pure rfl (pv_makeFunc rfl rfl) ?_))
  refine lw_boxN rfl rfl (cs := [.pointer none]) rfl ?_; intro N2 w2 hN2 H2 hb; replace hw := grow_trans hw hb; clear hb
  refine lw_boxN rfl rfl (cs := [.string n]) rfl ?_; intro N3 w3 hN3 H3 hb; replace H2 := H2.mono hb; replace hw := grow_trans hw hb; clear hb
  have hw0 := hw
  clear hw
  have hw := Below.refl w3.heap.size w3
  repeat' (first | (refine lw_pure rfl (pv_move rfl) ?_) | (refine lw_pure rfl (pv_assign rfl) ?_) | (refine lw_call (f := 45) (by kernel_rfl) rfl rfl (findn_c _ _) ?_; rintro e w1 ⟨rfl, hb⟩; refine ⟨_, rfl, ?_⟩; replace hw := grow_trans hw hb; clear hb) | (refine is_cw ?_; first | (refine cw_seq ?_) | (refine cw_region ?_) | (refine cw_true rfl rfl ?_) | (refine cw_false rfl rfl ?_) | (refine cw_true rfl (by first | assumption | exact decide_eq_true (by omega) | exact dec_notT (by omega)) ?_) | (refine cw_false rfl (by first | assumption | exact decide_eq_false (by omega) | exact dec_notF (by omega)) ?_) | (refine cw_skip ?_) | (refine cw_ret ?_)) | (refine is_qw ?_; first | (with_reducible refine qw_then ?_) | (with_reducible refine qw_then_ret ?_)) | (refine lw_nil ?_) | ((refine is_bin ?_; first | (refine lw_pure rfl (pv_neq rfl rfl) ?_))) | ((refine is_load ?_; first | (refine lw_pure rfl (pv_load (t1 rfl) rfl (by first | exact PT.ld0 (H2.mono hw) rfl | exact PT.ld (H2.mono hw) rfl | exact PT.ld0 (H3.mono hw) rfl | exact PT.ld (H3.mono hw) rfl)) ?_) | (refine lw_pure rfl (pv_loada (tA rfl) rfl (by first | exact PT.lda (H2.mono hw) | exact PT.lda (H3.mono hw)) (by rfl)) ?_))) | (refine lw_pure rfl (pv_extract rfl rfl) ?_) | (refine lw_pure rfl (pv_makeFunc rfl rfl) ?_))
  refine lw_varN rfl (by first | exact tyv_28 | exact tyv_29 | exact tyv_34 | exact tyv_35 | exact tyv_43 | exact tyv_44 | exact tyv_77 | exact tyv_78 | exact tyv_80 | exact tyv_81 | exact tyv_86 | exact tyv_87 | exact tyv_126 | exact tyv_127) rfl (tZ rfl) (fun _ => rfl) rfl rfl ?_; intro N9 wn hN9 H9 hb; replace hw := grow_trans hw hb; clear hb
  repeat' (first | (refine lw_pure rfl (pv_move rfl) ?_) | (refine lw_pure rfl (pv_assign rfl) ?_) | (refine is_cw ?_; first | (refine cw_seq ?_) | (refine cw_region ?_) | (refine cw_true rfl rfl ?_) | (refine cw_false rfl rfl ?_) | (refine cw_true rfl (by first | assumption | exact decide_eq_true (by omega) | exact dec_notT (by omega)) ?_) | (refine cw_false rfl (by first | assumption | exact decide_eq_false (by omega) | exact dec_notF (by omega)) ?_) | (refine cw_skip ?_) | (refine cw_ret ?_)) | (refine is_qw ?_; first | (with_reducible refine qw_then ?_) | (with_reducible refine qw_then_ret ?_)) | (refine lw_nil ?_) | ((refine is_bin ?_; first | (refine lw_pure rfl (pv_neq rfl rfl) ?_))) | ((refine is_load ?_; first | (refine lw_pure rfl (pv_load (t1 rfl) rfl (by first | exact PT.ld0 (H2.mono hw) rfl | exact PT.ld (H2.mono hw) rfl | exact PT.ld0 (H3.mono hw) rfl | exact PT.ld (H3.mono hw) rfl)) ?_) | (refine lw_pure rfl (pv_loada (tA rfl) rfl (by first | exact PT.lda (H2.mono hw) | exact PT.lda (H3.mono hw)) (by rfl)) ?_))) | (refine lw_pure rfl (pv_extract rfl rfl) ?_) | (refine lw_pure rfl (pv_makeFunc rfl rfl) ?_))
  exact qw_ret1 rfl rfl ⟨rfl, grow_trans hw0 hw⟩
set_option maxRecDepth 20000 in
theorem syncn_c (n : ByteArray) (w : World) : Calls Tryd.prog 36 #[.pointer none, .string n] w fun e w' => e = .returned (.int .i64 2) ∧ Below w.heap.size w w' := by
  have hw := Below.refl w.heap.size w
  refine fn_enter 19 Tryd.func36 rfl rfl rfl ?_
  repeat' (first | (refine lw_pure rfl (pv_move rfl) ?_) | (refine lw_pure rfl (pv_assign rfl) ?_) | (refine is_cw ?_; first | (refine cw_seq ?_) | (refine cw_region ?_) | (refine cw_true rfl rfl ?_) | (refine cw_false rfl rfl ?_) | (refine cw_true rfl (by first | assumption | exact decide_eq_true (by omega) | exact dec_notT (by omega)) ?_) | (refine cw_false rfl (by first | assumption | exact decide_eq_false (by omega) | exact dec_notF (by omega)) ?_) | (refine cw_skip ?_) | (refine cw_ret ?_)) | (refine is_qw ?_; first | (with_reducible refine qw_then ?_) | (with_reducible refine qw_then_ret ?_)) | (refine lw_nil ?_) | ((refine is_bin ?_; first | (refine lw_pure rfl (pv_neq rfl rfl) ?_))) | ((refine is_load ?_; first | (refine lw_pure rfl (pv_load (t1 rfl) rfl (by first | fail)) ?_) | (refine lw_pure rfl (pv_loada (tA rfl) rfl (by first | fail) (by rfl)) ?_))) | (refine lw_pure rfl (pv_extract rfl rfl) ?_) | (refine lw_pure rfl (pv_makeFunc rfl rfl) ?_))
  refine lw_boxN rfl rfl (cs := [.pointer none]) rfl ?_; intro N2 w2 hN2 H2 hb; replace hw := grow_trans hw hb; clear hb
  refine lw_boxN rfl rfl (cs := [.string n]) rfl ?_; intro N3 w3 hN3 H3 hb; replace H2 := H2.mono hb; replace hw := grow_trans hw hb; clear hb
  have hw0 := hw
  clear hw
  have hw := Below.refl w3.heap.size w3
  repeat' (first | (refine lw_pure rfl (pv_move rfl) ?_) | (refine lw_pure rfl (pv_assign rfl) ?_) | (refine lw_call (f := 45) (by kernel_rfl) rfl rfl (findn_c _ _) ?_; rintro e w1 ⟨rfl, hb⟩; refine ⟨_, rfl, ?_⟩; replace hw := grow_trans hw hb; clear hb) | (refine is_cw ?_; first | (refine cw_seq ?_) | (refine cw_region ?_) | (refine cw_true rfl rfl ?_) | (refine cw_false rfl rfl ?_) | (refine cw_true rfl (by first | assumption | exact decide_eq_true (by omega) | exact dec_notT (by omega)) ?_) | (refine cw_false rfl (by first | assumption | exact decide_eq_false (by omega) | exact dec_notF (by omega)) ?_) | (refine cw_skip ?_) | (refine cw_ret ?_)) | (refine is_qw ?_; first | (with_reducible refine qw_then ?_) | (with_reducible refine qw_then_ret ?_)) | (refine lw_nil ?_) | ((refine is_bin ?_; first | (refine lw_pure rfl (pv_neq rfl rfl) ?_))) | ((refine is_load ?_; first | (refine lw_pure rfl (pv_load (t1 rfl) rfl (by first | exact PT.ld0 (H2.mono hw) rfl | exact PT.ld (H2.mono hw) rfl | exact PT.ld0 (H3.mono hw) rfl | exact PT.ld (H3.mono hw) rfl)) ?_) | (refine lw_pure rfl (pv_loada (tA rfl) rfl (by first | exact PT.lda (H2.mono hw) | exact PT.lda (H3.mono hw)) (by rfl)) ?_))) | (refine lw_pure rfl (pv_extract rfl rfl) ?_) | (refine lw_pure rfl (pv_makeFunc rfl rfl) ?_))
  refine lw_varN rfl (by first | exact tyv_28 | exact tyv_29 | exact tyv_34 | exact tyv_35 | exact tyv_43 | exact tyv_44 | exact tyv_77 | exact tyv_78 | exact tyv_80 | exact tyv_81 | exact tyv_86 | exact tyv_87 | exact tyv_126 | exact tyv_127) rfl (tZ rfl) (fun _ => rfl) rfl rfl ?_; intro N9 wn hN9 H9 hb; replace hw := grow_trans hw hb; clear hb
  repeat' (first | (refine lw_pure rfl (pv_move rfl) ?_) | (refine lw_pure rfl (pv_assign rfl) ?_) | (refine is_cw ?_; first | (refine cw_seq ?_) | (refine cw_region ?_) | (refine cw_true rfl rfl ?_) | (refine cw_false rfl rfl ?_) | (refine cw_true rfl (by first | assumption | exact decide_eq_true (by omega) | exact dec_notT (by omega)) ?_) | (refine cw_false rfl (by first | assumption | exact decide_eq_false (by omega) | exact dec_notF (by omega)) ?_) | (refine cw_skip ?_) | (refine cw_ret ?_)) | (refine is_qw ?_; first | (with_reducible refine qw_then ?_) | (with_reducible refine qw_then_ret ?_)) | (refine lw_nil ?_) | ((refine is_bin ?_; first | (refine lw_pure rfl (pv_neq rfl rfl) ?_))) | ((refine is_load ?_; first | (refine lw_pure rfl (pv_load (t1 rfl) rfl (by first | exact PT.ld0 (H2.mono hw) rfl | exact PT.ld (H2.mono hw) rfl | exact PT.ld0 (H3.mono hw) rfl | exact PT.ld (H3.mono hw) rfl)) ?_) | (refine lw_pure rfl (pv_loada (tA rfl) rfl (by first | exact PT.lda (H2.mono hw) | exact PT.lda (H3.mono hw)) (by rfl)) ?_))) | (refine lw_pure rfl (pv_extract rfl rfl) ?_) | (refine lw_pure rfl (pv_makeFunc rfl rfl) ?_))
  exact qw_ret1 rfl rfl ⟨rfl, grow_trans hw0 hw⟩
set_option maxRecDepth 20000 in
theorem trimn_c (n : ByteArray) (k : Int) (w : World) : Calls Tryd.prog 37 #[.pointer none, .string n, .int .i64 k] w fun e w' => e = .returned (.int .i64 2) ∧ Below w.heap.size w w' := by
  have hw := Below.refl w.heap.size w
  refine fn_enter 31 Tryd.func37 rfl rfl rfl ?_
  repeat' (first | (refine lw_pure rfl (pv_move rfl) ?_) | (refine lw_pure rfl (pv_assign rfl) ?_) | (refine is_cw ?_; first | (refine cw_seq ?_) | (refine cw_region ?_) | (refine cw_true rfl rfl ?_) | (refine cw_false rfl rfl ?_) | (refine cw_true rfl (by first | assumption | exact decide_eq_true (by omega) | exact dec_notT (by omega)) ?_) | (refine cw_false rfl (by first | assumption | exact decide_eq_false (by omega) | exact dec_notF (by omega)) ?_) | (refine cw_skip ?_) | (refine cw_block ?_) | (refine cw_ret ?_)) | (refine is_qw ?_; first | (with_reducible refine qw_then ?_) | (with_reducible refine qw_in ?_) | (with_reducible refine qw_in_hit ?_) | (refine qw_in_miss rfl ?_) | (with_reducible refine qw_then_exit ?_) | (with_reducible refine qw_then_ret ?_) | (with_reducible refine qw_in_ret ?_)) | (refine lw_nil ?_) | (refine is_guarded ?_; first | (refine lw_not rfl rfl rfl rfl ?_) | (refine lw_not_u rfl rfl rfl ?_) | (refine lw_on rfl rfl rfl ?_)) | ((refine is_bin ?_; first | (refine lw_pure rfl (pv_lss rfl rfl) ?_) | (refine lw_pure rfl (pv_neq rfl rfl) ?_) | (refine lw_pure rfl (pv_gtr rfl rfl) ?_))) | ((refine is_load ?_; first | (refine lw_pure rfl (pv_load (t1 rfl) rfl (by first | fail)) ?_) | (refine lw_pure rfl (pv_loada (tA rfl) rfl (by first | fail) (by rfl)) ?_))) | (refine lw_pure rfl (pv_pick_t rfl rfl rfl) ?_) | (refine lw_pure rfl (pv_pick_f rfl rfl rfl) ?_) | (refine lw_pure rfl (pv_pick_t rfl (by first | assumption | exact decide_eq_true (by omega) | exact dec_notT (by omega)) rfl) ?_) | (refine lw_pure rfl (pv_pick_f rfl (by first | assumption | exact decide_eq_false (by omega) | exact dec_notF (by omega)) rfl) ?_) | (refine lw_pure rfl (pv_pick rfl rfl rfl) ?_) | (refine lw_pure rfl (pv_extract rfl rfl) ?_) | (refine lw_pure rfl (pv_makeFunc rfl rfl) ?_))
  refine lw_boxN rfl rfl (cs := [.pointer none]) rfl ?_; intro N2 w2 hN2 H2 hb; replace hw := grow_trans hw hb; clear hb
  refine lw_boxN rfl rfl (cs := [.string n]) rfl ?_; intro N3 w3 hN3 H3 hb; replace H2 := H2.mono hb; replace hw := grow_trans hw hb; clear hb
  refine lw_boxN rfl rfl (cs := [.int .i64 k]) rfl ?_; intro N4 w4 hN4 H4 hb; replace H2 := H2.mono hb; replace H3 := H3.mono hb; replace hw := grow_trans hw hb; clear hb
  have hw0 := hw
  clear hw
  have hw := Below.refl w4.heap.size w4
  repeat' (first | (refine lw_pure rfl (pv_move rfl) ?_) | (refine lw_pure rfl (pv_assign rfl) ?_) | (refine lw_call (f := 45) (by kernel_rfl) rfl rfl (findn_c _ _) ?_; rintro e w1 ⟨rfl, hb⟩; refine ⟨_, rfl, ?_⟩; replace hw := grow_trans hw hb; clear hb) | (refine is_cw ?_; first | (refine cw_seq ?_) | (refine cw_region ?_) | (refine cw_true rfl rfl ?_) | (refine cw_false rfl rfl ?_) | (refine cw_true rfl (by first | assumption | exact decide_eq_true (by omega) | exact dec_notT (by omega)) ?_) | (refine cw_false rfl (by first | assumption | exact decide_eq_false (by omega) | exact dec_notF (by omega)) ?_) | (refine cw_skip ?_) | (refine cw_block ?_) | (refine cw_ret ?_)) | (refine is_qw ?_; first | (with_reducible refine qw_then ?_) | (with_reducible refine qw_in ?_) | (with_reducible refine qw_in_hit ?_) | (refine qw_in_miss rfl ?_) | (with_reducible refine qw_then_exit ?_) | (with_reducible refine qw_then_ret ?_) | (with_reducible refine qw_in_ret ?_)) | (refine lw_nil ?_) | (refine is_guarded ?_; first | (refine lw_not rfl rfl rfl rfl ?_) | (refine lw_not_u rfl rfl rfl ?_) | (refine lw_on rfl rfl rfl ?_)) | ((refine is_bin ?_; first | (refine lw_pure rfl (pv_lss rfl rfl) ?_) | (refine lw_pure rfl (pv_neq rfl rfl) ?_) | (refine lw_pure rfl (pv_gtr rfl rfl) ?_))) | ((refine is_load ?_; first | (refine lw_pure rfl (pv_load (t1 rfl) rfl (by first | exact PT.ld0 (H2.mono hw) rfl | exact PT.ld (H2.mono hw) rfl | exact PT.ld0 (H3.mono hw) rfl | exact PT.ld (H3.mono hw) rfl | exact PT.ld0 (H4.mono hw) rfl | exact PT.ld (H4.mono hw) rfl)) ?_) | (refine lw_pure rfl (pv_loada (tA rfl) rfl (by first | exact PT.lda (H2.mono hw) | exact PT.lda (H3.mono hw) | exact PT.lda (H4.mono hw)) (by rfl)) ?_))) | (refine lw_pure rfl (pv_pick_t rfl rfl rfl) ?_) | (refine lw_pure rfl (pv_pick_f rfl rfl rfl) ?_) | (refine lw_pure rfl (pv_pick_t rfl (by first | assumption | exact decide_eq_true (by omega) | exact dec_notT (by omega)) rfl) ?_) | (refine lw_pure rfl (pv_pick_f rfl (by first | assumption | exact decide_eq_false (by omega) | exact dec_notF (by omega)) rfl) ?_) | (refine lw_pure rfl (pv_pick rfl rfl rfl) ?_) | (refine lw_pure rfl (pv_extract rfl rfl) ?_) | (refine lw_pure rfl (pv_makeFunc rfl rfl) ?_))
  refine lw_varN rfl (by first | exact tyv_28 | exact tyv_29 | exact tyv_34 | exact tyv_35 | exact tyv_43 | exact tyv_44 | exact tyv_77 | exact tyv_78 | exact tyv_80 | exact tyv_81 | exact tyv_86 | exact tyv_87 | exact tyv_126 | exact tyv_127) rfl (tZ rfl) (fun _ => rfl) rfl rfl ?_; intro N9 wn hN9 H9 hb; replace hw := grow_trans hw hb; clear hb
  repeat' (first | (refine lw_pure rfl (pv_move rfl) ?_) | (refine lw_pure rfl (pv_assign rfl) ?_) | (refine is_cw ?_; first | (refine cw_seq ?_) | (refine cw_region ?_) | (refine cw_true rfl rfl ?_) | (refine cw_false rfl rfl ?_) | (refine cw_true rfl (by first | assumption | exact decide_eq_true (by omega) | exact dec_notT (by omega)) ?_) | (refine cw_false rfl (by first | assumption | exact decide_eq_false (by omega) | exact dec_notF (by omega)) ?_) | (refine cw_skip ?_) | (refine cw_block ?_) | (refine cw_ret ?_)) | (refine is_qw ?_; first | (with_reducible refine qw_then ?_) | (with_reducible refine qw_in ?_) | (with_reducible refine qw_in_hit ?_) | (refine qw_in_miss rfl ?_) | (with_reducible refine qw_then_exit ?_) | (with_reducible refine qw_then_ret ?_) | (with_reducible refine qw_in_ret ?_)) | (refine lw_nil ?_) | (refine is_guarded ?_; first | (refine lw_not rfl rfl rfl rfl ?_) | (refine lw_not_u rfl rfl rfl ?_) | (refine lw_on rfl rfl rfl ?_)) | ((refine is_bin ?_; first | (refine lw_pure rfl (pv_lss rfl rfl) ?_) | (refine lw_pure rfl (pv_neq rfl rfl) ?_) | (refine lw_pure rfl (pv_gtr rfl rfl) ?_))) | ((refine is_load ?_; first | (refine lw_pure rfl (pv_load (t1 rfl) rfl (by first | exact PT.ld0 (H2.mono hw) rfl | exact PT.ld (H2.mono hw) rfl | exact PT.ld0 (H3.mono hw) rfl | exact PT.ld (H3.mono hw) rfl | exact PT.ld0 (H4.mono hw) rfl | exact PT.ld (H4.mono hw) rfl)) ?_) | (refine lw_pure rfl (pv_loada (tA rfl) rfl (by first | exact PT.lda (H2.mono hw) | exact PT.lda (H3.mono hw) | exact PT.lda (H4.mono hw)) (by rfl)) ?_))) | (refine lw_pure rfl (pv_pick_t rfl rfl rfl) ?_) | (refine lw_pure rfl (pv_pick_f rfl rfl rfl) ?_) | (refine lw_pure rfl (pv_pick_t rfl (by first | assumption | exact decide_eq_true (by omega) | exact dec_notT (by omega)) rfl) ?_) | (refine lw_pure rfl (pv_pick_f rfl (by first | assumption | exact decide_eq_false (by omega) | exact dec_notF (by omega)) rfl) ?_) | (refine lw_pure rfl (pv_pick rfl rfl rfl) ?_) | (refine lw_pure rfl (pv_extract rfl rfl) ?_) | (refine lw_pure rfl (pv_makeFunc rfl rfl) ?_))
  exact qw_ret1 rfl rfl ⟨rfl, grow_trans hw0 hw⟩
set_option maxRecDepth 20000 in
theorem renamen_c (n t : ByteArray) (w : World) : Calls Tryd.prog 38 #[.pointer none, .string n, .string t] w fun e w' => e = .returned (.int .i64 2) ∧ Below w.heap.size w w' := by
  have hw := Below.refl w.heap.size w
  refine fn_enter 30 Tryd.func38 rfl rfl rfl ?_
  repeat' (first | (refine lw_pure rfl (pv_move rfl) ?_) | (refine lw_pure rfl (pv_assign rfl) ?_) | (refine is_cw ?_; first | (refine cw_seq ?_) | (refine cw_region ?_) | (refine cw_true rfl rfl ?_) | (refine cw_false rfl rfl ?_) | (refine cw_true rfl (by first | assumption | exact decide_eq_true (by omega) | exact dec_notT (by omega)) ?_) | (refine cw_false rfl (by first | assumption | exact decide_eq_false (by omega) | exact dec_notF (by omega)) ?_) | (refine cw_skip ?_) | (refine cw_block ?_) | (refine cw_ret ?_)) | (refine is_qw ?_; first | (with_reducible refine qw_then ?_) | (with_reducible refine qw_in ?_) | (with_reducible refine qw_in_hit ?_) | (refine qw_in_miss rfl ?_) | (with_reducible refine qw_then_exit ?_) | (with_reducible refine qw_then_ret ?_) | (with_reducible refine qw_in_ret ?_)) | (refine lw_nil ?_) | ((refine is_bin ?_; first | (refine lw_pure rfl (pv_eql rfl rfl) ?_) | (refine lw_pure rfl (pv_neq rfl rfl) ?_) | (refine lw_pure rfl (pv_seqlD rfl rfl) ?_) | (refine lw_pure rfl (pv_sneqD rfl rfl) ?_))) | ((refine is_load ?_; first | (refine lw_pure rfl (pv_load (t1 rfl) rfl (by first | fail)) ?_) | (refine lw_pure rfl (pv_loada (tA rfl) rfl (by first | fail) (by rfl)) ?_))) | ((refine is_un ?_; first | (refine lw_pure rfl (pv_not rfl) ?_))) | (refine lw_pure rfl (pv_extract rfl rfl) ?_) | (refine lw_pure rfl (pv_makeFunc rfl rfl) ?_))
  refine lw_boxN rfl rfl (cs := [.pointer none]) rfl ?_; intro N2 w2 hN2 H2 hb; replace hw := grow_trans hw hb; clear hb
  refine lw_boxN rfl rfl (cs := [.string n]) rfl ?_; intro N3 w3 hN3 H3 hb; replace H2 := H2.mono hb; replace hw := grow_trans hw hb; clear hb
  refine lw_boxN rfl rfl (cs := [.string t]) rfl ?_; intro N4 w4 hN4 H4 hb; replace H2 := H2.mono hb; replace H3 := H3.mono hb; replace hw := grow_trans hw hb; clear hb
  have hw0 := hw
  clear hw
  have hw := Below.refl w4.heap.size w4
  repeat' (first | (refine lw_pure rfl (pv_move rfl) ?_) | (refine lw_pure rfl (pv_assign rfl) ?_) | (refine lw_call (f := 45) (by kernel_rfl) rfl rfl (findn_c _ _) ?_; rintro e w1 ⟨rfl, hb⟩; refine ⟨_, rfl, ?_⟩; replace hw := grow_trans hw hb; clear hb) | (refine is_cw ?_; first | (refine cw_seq ?_) | (refine cw_region ?_) | (refine cw_true rfl rfl ?_) | (refine cw_false rfl rfl ?_) | (refine cw_true rfl (by first | assumption | exact decide_eq_true (by omega) | exact dec_notT (by omega)) ?_) | (refine cw_false rfl (by first | assumption | exact decide_eq_false (by omega) | exact dec_notF (by omega)) ?_) | (refine cw_skip ?_) | (refine cw_block ?_) | (refine cw_ret ?_)) | (refine is_qw ?_; first | (with_reducible refine qw_then ?_) | (with_reducible refine qw_in ?_) | (with_reducible refine qw_in_hit ?_) | (refine qw_in_miss rfl ?_) | (with_reducible refine qw_then_exit ?_) | (with_reducible refine qw_then_ret ?_) | (with_reducible refine qw_in_ret ?_)) | (refine lw_nil ?_) | ((refine is_bin ?_; first | (refine lw_pure rfl (pv_eql rfl rfl) ?_) | (refine lw_pure rfl (pv_neq rfl rfl) ?_) | (refine lw_pure rfl (pv_seqlD rfl rfl) ?_) | (refine lw_pure rfl (pv_sneqD rfl rfl) ?_))) | ((refine is_load ?_; first | (refine lw_pure rfl (pv_load (t1 rfl) rfl (by first | exact PT.ld0 (H2.mono hw) rfl | exact PT.ld (H2.mono hw) rfl | exact PT.ld0 (H3.mono hw) rfl | exact PT.ld (H3.mono hw) rfl | exact PT.ld0 (H4.mono hw) rfl | exact PT.ld (H4.mono hw) rfl)) ?_) | (refine lw_pure rfl (pv_loada (tA rfl) rfl (by first | exact PT.lda (H2.mono hw) | exact PT.lda (H3.mono hw) | exact PT.lda (H4.mono hw)) (by rfl)) ?_))) | ((refine is_un ?_; first | (refine lw_pure rfl (pv_not rfl) ?_))) | (refine lw_pure rfl (pv_extract rfl rfl) ?_) | (refine lw_pure rfl (pv_makeFunc rfl rfl) ?_))
  refine lw_varN rfl (by first | exact tyv_28 | exact tyv_29 | exact tyv_34 | exact tyv_35 | exact tyv_43 | exact tyv_44 | exact tyv_77 | exact tyv_78 | exact tyv_80 | exact tyv_81 | exact tyv_86 | exact tyv_87 | exact tyv_126 | exact tyv_127) rfl (tZ rfl) (fun _ => rfl) rfl rfl ?_; intro N9 wn hN9 H9 hb; replace hw := grow_trans hw hb; clear hb
  repeat' (first | (refine lw_pure rfl (pv_move rfl) ?_) | (refine lw_pure rfl (pv_assign rfl) ?_) | (refine is_cw ?_; first | (refine cw_seq ?_) | (refine cw_region ?_) | (refine cw_true rfl rfl ?_) | (refine cw_false rfl rfl ?_) | (refine cw_true rfl (by first | assumption | exact decide_eq_true (by omega) | exact dec_notT (by omega)) ?_) | (refine cw_false rfl (by first | assumption | exact decide_eq_false (by omega) | exact dec_notF (by omega)) ?_) | (refine cw_skip ?_) | (refine cw_block ?_) | (refine cw_ret ?_)) | (refine is_qw ?_; first | (with_reducible refine qw_then ?_) | (with_reducible refine qw_in ?_) | (with_reducible refine qw_in_hit ?_) | (refine qw_in_miss rfl ?_) | (with_reducible refine qw_then_exit ?_) | (with_reducible refine qw_then_ret ?_) | (with_reducible refine qw_in_ret ?_)) | (refine lw_nil ?_) | ((refine is_bin ?_; first | (refine lw_pure rfl (pv_eql rfl rfl) ?_) | (refine lw_pure rfl (pv_neq rfl rfl) ?_) | (refine lw_pure rfl (pv_seqlD rfl rfl) ?_) | (refine lw_pure rfl (pv_sneqD rfl rfl) ?_))) | ((refine is_load ?_; first | (refine lw_pure rfl (pv_load (t1 rfl) rfl (by first | exact PT.ld0 (H2.mono hw) rfl | exact PT.ld (H2.mono hw) rfl | exact PT.ld0 (H3.mono hw) rfl | exact PT.ld (H3.mono hw) rfl | exact PT.ld0 (H4.mono hw) rfl | exact PT.ld (H4.mono hw) rfl)) ?_) | (refine lw_pure rfl (pv_loada (tA rfl) rfl (by first | exact PT.lda (H2.mono hw) | exact PT.lda (H3.mono hw) | exact PT.lda (H4.mono hw)) (by rfl)) ?_))) | ((refine is_un ?_; first | (refine lw_pure rfl (pv_not rfl) ?_))) | (refine lw_pure rfl (pv_extract rfl rfl) ?_) | (refine lw_pure rfl (pv_makeFunc rfl rfl) ?_))
  exact qw_ret1 rfl rfl ⟨rfl, grow_trans hw0 hw⟩
set_option maxRecDepth 20000 in
theorem createn_c (n : ByteArray) (w : World) : Calls Tryd.prog 35 #[.pointer none, .string n] w fun e w' => e = .returned (.int .i64 2) ∧ Below w.heap.size w w' := by
  have hw := Below.refl w.heap.size w
  refine fn_enter 38 Tryd.func35 rfl rfl rfl ?_
  repeat' (first | (refine lw_pure rfl (pv_move rfl) ?_) | (refine lw_pure rfl (pv_assign rfl) ?_) | (refine is_cw ?_; first | (refine cw_seq ?_) | (refine cw_region ?_) | (refine cw_true rfl rfl ?_) | (refine cw_false rfl rfl ?_) | (refine cw_true rfl (by first | assumption | exact decide_eq_true (by omega) | exact dec_notT (by omega)) ?_) | (refine cw_false rfl (by first | assumption | exact decide_eq_false (by omega) | exact dec_notF (by omega)) ?_) | (refine cw_skip ?_) | (refine cw_block ?_) | (refine cw_ret ?_)) | (refine is_qw ?_; first | (with_reducible refine qw_then ?_) | (with_reducible refine qw_in ?_) | (with_reducible refine qw_in_hit ?_) | (refine qw_in_miss rfl ?_) | (with_reducible refine qw_then_exit ?_) | (with_reducible refine qw_then_ret ?_) | (with_reducible refine qw_in_ret ?_)) | (refine lw_nil ?_) | ((refine is_bin ?_; first | (refine lw_pure rfl (pv_neq rfl rfl) ?_) | (refine lw_pure rfl (pv_geq rfl rfl) ?_))) | ((refine is_load ?_; first | (refine lw_pure rfl (pv_load (t1 rfl) rfl (by first | fail)) ?_) | (refine lw_pure rfl (pv_loada (tA rfl) rfl (by first | fail) (by rfl)) ?_))) | ((refine is_fa ?_; first | (refine lw_pure rfl (pv_fa (tF rfl) rfl) ?_))) | ((refine is_un ?_; first | (refine lw_pure rfl (pv_not rfl) ?_))) | ((refine is_bi ?_; first | (refine lw_pure rfl (pv_lenl (tS rfl) rfl) ?_) | (refine lw_pure rfl (pv_lens (tStr rfl) rfl) ?_))) | (refine lw_pure rfl (pv_extract rfl rfl) ?_) | (refine lw_pure rfl (pv_makeFunc rfl rfl) ?_) | (refine lw_pure rfl (pv_nilp rfl) ?_) | (refine lw_pure0 (pv_nilp rfl) ?_))
  refine lw_boxN rfl rfl (cs := [.pointer none]) rfl ?_; intro N2 w2 hN2 H2 hb; replace hw := grow_trans hw hb; clear hb
  refine lw_boxN rfl rfl (cs := [.string n]) rfl ?_; intro N3 w3 hN3 H3 hb; replace H2 := H2.mono hb; replace hw := grow_trans hw hb; clear hb
  have hw0 := hw
  clear hw
  have hw := Below.refl w3.heap.size w3
  repeat' (first | (refine lw_pure rfl (pv_move rfl) ?_) | (refine lw_pure rfl (pv_assign rfl) ?_) | (refine lw_call (f := 44) (by kernel_rfl) rfl rfl (downn_c _) ?_; rintro e w1 ⟨rfl, hb⟩; refine ⟨_, rfl, ?_⟩; replace hw := grow_trans hw hb; clear hb) | (refine is_cw ?_; first | (refine cw_seq ?_) | (refine cw_region ?_) | (refine cw_true rfl rfl ?_) | (refine cw_false rfl rfl ?_) | (refine cw_true rfl (by first | assumption | exact decide_eq_true (by omega) | exact dec_notT (by omega)) ?_) | (refine cw_false rfl (by first | assumption | exact decide_eq_false (by omega) | exact dec_notF (by omega)) ?_) | (refine cw_skip ?_) | (refine cw_block ?_) | (refine cw_ret ?_)) | (refine is_qw ?_; first | (with_reducible refine qw_then ?_) | (with_reducible refine qw_in ?_) | (with_reducible refine qw_in_hit ?_) | (refine qw_in_miss rfl ?_) | (with_reducible refine qw_then_exit ?_) | (with_reducible refine qw_then_ret ?_) | (with_reducible refine qw_in_ret ?_)) | (refine lw_nil ?_) | ((refine is_bin ?_; first | (refine lw_pure rfl (pv_neq rfl rfl) ?_) | (refine lw_pure rfl (pv_geq rfl rfl) ?_))) | ((refine is_load ?_; first | (refine lw_pure rfl (pv_load (t1 rfl) rfl (by first | exact PT.ld0 (H2.mono hw) rfl | exact PT.ld (H2.mono hw) rfl | exact PT.ld0 (H3.mono hw) rfl | exact PT.ld (H3.mono hw) rfl)) ?_) | (refine lw_pure rfl (pv_loada (tA rfl) rfl (by first | exact PT.lda (H2.mono hw) | exact PT.lda (H3.mono hw)) (by rfl)) ?_))) | ((refine is_fa ?_; first | (refine lw_pure rfl (pv_fa (tF rfl) rfl) ?_))) | ((refine is_un ?_; first | (refine lw_pure rfl (pv_not rfl) ?_))) | ((refine is_bi ?_; first | (refine lw_pure rfl (pv_lenl (tS rfl) rfl) ?_) | (refine lw_pure rfl (pv_lens (tStr rfl) rfl) ?_))) | (refine lw_pure rfl (pv_extract rfl rfl) ?_) | (refine lw_pure rfl (pv_makeFunc rfl rfl) ?_) | (refine lw_pure rfl (pv_nilp rfl) ?_) | (refine lw_pure0 (pv_nilp rfl) ?_))
  exact qw_ret1 rfl rfl ⟨rfl, grow_trans hw0 hw⟩
set_option maxRecDepth 20000 in
theorem appendn_c (n b : ByteArray) (w : World) : Calls Tryd.prog 34 #[.pointer none, .string n, .string b] w fun e w' => e = .returned (.int .i64 2) ∧ Below w.heap.size w w' := by
  have hw := Below.refl w.heap.size w
  refine fn_enter 52 Tryd.func34 rfl rfl rfl ?_
  repeat' (first | (refine lw_pure rfl (pv_move rfl) ?_) | (refine lw_pure rfl (pv_assign rfl) ?_) | (refine lw_call (f := 45) (by kernel_rfl) rfl rfl (findn_c _ _) ?_; rintro e w1 ⟨rfl, hb⟩; refine ⟨_, rfl, ?_⟩; replace hw := grow_trans hw hb; clear hb) | (refine is_cw ?_; first | (refine cw_seq ?_) | (refine cw_region ?_) | (refine cw_true rfl rfl ?_) | (refine cw_false rfl rfl ?_) | (refine cw_true rfl (by first | assumption | exact decide_eq_true (by omega) | exact dec_notT (by omega)) ?_) | (refine cw_false rfl (by first | assumption | exact decide_eq_false (by omega) | exact dec_notF (by omega)) ?_) | (refine cw_skip ?_) | (refine cw_block ?_) | (refine cw_ret ?_)) | (refine is_qw ?_; first | (with_reducible refine qw_then ?_) | (with_reducible refine qw_in ?_) | (with_reducible refine qw_in_hit ?_) | (refine qw_in_miss rfl ?_) | (with_reducible refine qw_then_exit ?_) | (with_reducible refine qw_then_ret ?_) | (with_reducible refine qw_in_ret ?_)) | (refine lw_nil ?_) | (refine is_guarded ?_; first | (refine lw_not rfl rfl rfl rfl ?_) | (refine lw_not_u rfl rfl rfl ?_) | (refine lw_on rfl rfl rfl ?_)) | ((refine is_bin ?_; first | (refine lw_pure rfl (pv_neq rfl rfl) ?_) | (refine lw_pure rfl (pv_gtr rfl rfl) ?_) | (refine lw_pure rfl (pv_inc rfl rfl (by omega)) ?_) | (refine lw_pure rfl (pv_add rfl rfl (by omega)) ?_) | (refine lw_pure rfl (pv_sub rfl rfl (by omega)) ?_))) | ((refine is_load ?_; first | (refine lw_pure rfl (pv_load (t1 rfl) rfl (by first | fail)) ?_) | (refine lw_pure rfl (pv_loada (tA rfl) rfl (by first | fail) (by rfl)) ?_))) | ((refine is_fa ?_; first | (refine lw_pure rfl (pv_fa (tF rfl) rfl) ?_))) | ((refine is_bi ?_; first | (refine lw_pure rfl (pv_lenl (tS rfl) rfl) ?_) | (refine lw_pure rfl (pv_lens (tStr rfl) rfl) ?_))) | (refine lw_pure rfl (pv_pick_t rfl rfl rfl) ?_) | (refine lw_pure rfl (pv_pick_f rfl rfl rfl) ?_) | (refine lw_pure rfl (pv_pick_t rfl (by first | assumption | exact decide_eq_true (by omega) | exact dec_notT (by omega)) rfl) ?_) | (refine lw_pure rfl (pv_pick_f rfl (by first | assumption | exact decide_eq_false (by omega) | exact dec_notF (by omega)) rfl) ?_) | (refine lw_pure rfl (pv_pick rfl rfl rfl) ?_) | (refine lw_pure rfl (pv_extract rfl rfl) ?_) | (refine lw_pure rfl (pv_nilp rfl) ?_) | (refine lw_pure0 (pv_nilp rfl) ?_))
  refine lw_varN rfl (by first | exact tyv_28 | exact tyv_29 | exact tyv_34 | exact tyv_35 | exact tyv_43 | exact tyv_44 | exact tyv_77 | exact tyv_78 | exact tyv_80 | exact tyv_81 | exact tyv_86 | exact tyv_87 | exact tyv_126 | exact tyv_127) rfl (tZ rfl) (fun _ => rfl) rfl rfl ?_; intro N5 wn hN5 H5 hb; replace hw := grow_trans hw hb; clear hb
  repeat' (first | (refine lw_pure rfl (pv_move rfl) ?_) | (refine lw_pure rfl (pv_assign rfl) ?_) | (refine is_cw ?_; first | (refine cw_seq ?_) | (refine cw_region ?_) | (refine cw_true rfl rfl ?_) | (refine cw_false rfl rfl ?_) | (refine cw_true rfl (by first | assumption | exact decide_eq_true (by omega) | exact dec_notT (by omega)) ?_) | (refine cw_false rfl (by first | assumption | exact decide_eq_false (by omega) | exact dec_notF (by omega)) ?_) | (refine cw_skip ?_) | (refine cw_block ?_) | (refine cw_ret ?_)) | (refine is_qw ?_; first | (with_reducible refine qw_then ?_) | (with_reducible refine qw_in ?_) | (with_reducible refine qw_in_hit ?_) | (refine qw_in_miss rfl ?_) | (with_reducible refine qw_then_exit ?_) | (with_reducible refine qw_then_ret ?_) | (with_reducible refine qw_in_ret ?_)) | (refine lw_nil ?_) | (refine is_guarded ?_; first | (refine lw_not rfl rfl rfl rfl ?_) | (refine lw_not_u rfl rfl rfl ?_) | (refine lw_on rfl rfl rfl ?_)) | ((refine is_bin ?_; first | (refine lw_pure rfl (pv_neq rfl rfl) ?_) | (refine lw_pure rfl (pv_gtr rfl rfl) ?_) | (refine lw_pure rfl (pv_inc rfl rfl (by omega)) ?_) | (refine lw_pure rfl (pv_add rfl rfl (by omega)) ?_) | (refine lw_pure rfl (pv_sub rfl rfl (by omega)) ?_))) | ((refine is_load ?_; first | (refine lw_pure rfl (pv_load (t1 rfl) rfl (by first | fail)) ?_) | (refine lw_pure rfl (pv_loada (tA rfl) rfl (by first | fail) (by rfl)) ?_))) | ((refine is_fa ?_; first | (refine lw_pure rfl (pv_fa (tF rfl) rfl) ?_))) | ((refine is_bi ?_; first | (refine lw_pure rfl (pv_lenl (tS rfl) rfl) ?_) | (refine lw_pure rfl (pv_lens (tStr rfl) rfl) ?_))) | (refine lw_pure rfl (pv_pick_t rfl rfl rfl) ?_) | (refine lw_pure rfl (pv_pick_f rfl rfl rfl) ?_) | (refine lw_pure rfl (pv_pick_t rfl (by first | assumption | exact decide_eq_true (by omega) | exact dec_notT (by omega)) rfl) ?_) | (refine lw_pure rfl (pv_pick_f rfl (by first | assumption | exact decide_eq_false (by omega) | exact dec_notF (by omega)) rfl) ?_) | (refine lw_pure rfl (pv_pick rfl rfl rfl) ?_) | (refine lw_pure rfl (pv_extract rfl rfl) ?_) | (refine lw_pure rfl (pv_nilp rfl) ?_) | (refine lw_pure0 (pv_nilp rfl) ?_))
  exact qw_ret1 rfl rfl ⟨rfl, hw⟩
set_option maxRecDepth 20000 in
theorem readn_c (n : ByteArray) (w : World) : Calls Tryd.prog 20 #[.pointer none, .string n] w fun e w' => e = .returned (.tuple #[.string emptyB, .int .i64 2]) ∧ Below w.heap.size w w' := by
  have hw := Below.refl w.heap.size w
  have hc : emptyB.size + emptyB.size ≤ 9223372036854775807 := by decide
  refine fn_enter 20 Tryd.func20 rfl rfl rfl ?_
  repeat' (first | (refine lw_pure rfl (pv_move rfl) ?_) | (refine lw_pure rfl (pv_assign rfl) ?_) | (refine lw_call (f := 45) (by kernel_rfl) rfl rfl (findn_c _ _) ?_; rintro e w1 ⟨rfl, hb⟩; refine ⟨_, rfl, ?_⟩; replace hw := grow_trans hw hb; clear hb) | (refine is_cw ?_; first | (refine cw_seq ?_) | (refine cw_region ?_) | (refine cw_ret ?_)) | (refine is_qw ?_; first | (with_reducible refine qw_then ?_) | (with_reducible refine qw_then_ret ?_)) | (refine lw_nil ?_) | ((refine is_bin ?_; first | (refine lw_pure rfl (pv_inc rfl rfl (by omega)) ?_) | (refine lw_pure rfl (pv_add rfl rfl (by omega)) ?_))) | ((refine is_load ?_; first | (refine lw_pure rfl (pv_load (t1 rfl) rfl (by first | fail)) ?_) | (refine lw_pure rfl (pv_loada (tA rfl) rfl (by first | fail) (by rfl)) ?_))) | ((refine is_fa ?_; first | (refine lw_pure rfl (pv_fa (tF rfl) rfl) ?_))) | (refine lw_pure rfl (pv_extract rfl rfl) ?_))
  refine lw_varN rfl (by first | exact tyv_28 | exact tyv_29 | exact tyv_34 | exact tyv_35 | exact tyv_43 | exact tyv_44 | exact tyv_77 | exact tyv_78 | exact tyv_80 | exact tyv_81 | exact tyv_86 | exact tyv_87 | exact tyv_126 | exact tyv_127) rfl (tZ rfl) (fun _ => rfl) rfl rfl ?_; intro N5 wn hN5 H5 hb; replace hw := grow_trans hw hb; clear hb
  repeat' (first | (refine lw_pure rfl (pv_move rfl) ?_) | (refine lw_pure rfl (pv_assign rfl) ?_) | (refine is_cw ?_; first | (refine cw_seq ?_) | (refine cw_region ?_) | (refine cw_ret ?_)) | (refine is_qw ?_; first | (with_reducible refine qw_then ?_) | (with_reducible refine qw_then_ret ?_)) | (refine lw_nil ?_) | ((refine is_bin ?_; first | (refine lw_pure rfl (pv_cat rfl rfl hc) ?_) | (refine lw_pure rfl (pv_inc rfl rfl (by omega)) ?_) | (refine lw_pure rfl (pv_add rfl rfl (by omega)) ?_))) | ((refine is_load ?_; first | (refine lw_pure rfl (pv_load (t1 rfl) rfl (by first | exact PT.ld0 H5 rfl | exact PT.ld H5 rfl)) ?_) | (refine lw_pure rfl (pv_loada (tA rfl) rfl (by first | exact PT.lda H5) (by rfl)) ?_))) | ((refine is_fa ?_; first | (refine lw_pure rfl (pv_fa (tF rfl) rfl) ?_))) | (refine lw_pure rfl (pv_extract rfl rfl) ?_))
  exact qw_ret2 rfl rfl rfl ⟨rfl, hw⟩
set_option maxRecDepth 20000 in
theorem listn_c (w : World) : Calls Tryd.prog 19 #[.pointer none] w fun e w' => e = .returned (.tuple #[.slice none 0 0, .int .i64 2]) ∧ Below w.heap.size w w' := by
  have hw := Below.refl w.heap.size w
  refine fn_enter 12 Tryd.func19 rfl rfl rfl ?_
  repeat' (first | (refine lw_pure rfl (pv_move rfl) ?_) | (refine lw_pure rfl (pv_assign rfl) ?_) | (refine lw_call (f := 44) (by kernel_rfl) rfl rfl (downn_c _) ?_; rintro e w1 ⟨rfl, hb⟩; refine ⟨_, rfl, ?_⟩; replace hw := grow_trans hw hb; clear hb) | (refine is_cw ?_; first | (refine cw_seq ?_) | (refine cw_region ?_) | (refine cw_true rfl rfl ?_) | (refine cw_false rfl rfl ?_) | (refine cw_true rfl (by first | assumption | exact decide_eq_true (by omega) | exact dec_notT (by omega)) ?_) | (refine cw_false rfl (by first | assumption | exact decide_eq_false (by omega) | exact dec_notF (by omega)) ?_) | (refine cw_skip ?_) | (refine cw_ret ?_)) | (refine is_qw ?_; first | (with_reducible refine qw_then ?_) | (with_reducible refine qw_then_ret ?_)) | (refine lw_nil ?_) | ((refine is_bin ?_; first | (refine lw_pure rfl (pv_neq rfl rfl) ?_))))
  exact qw_ret2 rfl rfl rfl ⟨rfl, hw⟩
set_option maxRecDepth 20000 in
theorem roomn_c (w : World) : Calls Tryd.prog 31 #[.pointer none] w fun e w' => e = .returned (.tuple #[.int .i64 0, .int .i64 0, .int .i64 2]) ∧ Below w.heap.size w w' := by
  have hw := Below.refl w.heap.size w
  refine fn_enter 24 Tryd.func31 rfl rfl rfl ?_
  repeat' (first | (refine lw_pure rfl (pv_move rfl) ?_) | (refine lw_pure rfl (pv_assign rfl) ?_) | (refine lw_call (f := 44) (by kernel_rfl) rfl rfl (downn_c _) ?_; rintro e w1 ⟨rfl, hb⟩; refine ⟨_, rfl, ?_⟩; replace hw := grow_trans hw hb; clear hb) | (refine is_cw ?_; first | (refine cw_seq ?_) | (refine cw_region ?_) | (refine cw_true rfl rfl ?_) | (refine cw_false rfl rfl ?_) | (refine cw_true rfl (by first | assumption | exact decide_eq_true (by omega) | exact dec_notT (by omega)) ?_) | (refine cw_false rfl (by first | assumption | exact decide_eq_false (by omega) | exact dec_notF (by omega)) ?_) | (refine cw_skip ?_) | (refine cw_ret ?_)) | (refine is_qw ?_; first | (with_reducible refine qw_then ?_) | (with_reducible refine qw_then_ret ?_)) | (refine lw_nil ?_) | ((refine is_bin ?_; first | (refine lw_pure rfl (pv_neq rfl rfl) ?_) | (refine lw_pure rfl (pv_sub rfl rfl (by omega)) ?_))) | ((refine is_load ?_; first | (refine lw_pure rfl (pv_load (t1 rfl) rfl (by first | fail)) ?_) | (refine lw_pure rfl (pv_loada (tA rfl) rfl (by first | fail) (by rfl)) ?_))) | ((refine is_fa ?_; first | (refine lw_pure rfl (pv_fa (tF rfl) rfl) ?_))) | ((refine is_bi ?_; first | (refine lw_pure rfl (pv_lenl (tS rfl) rfl) ?_) | (refine lw_pure rfl (pv_lens (tStr rfl) rfl) ?_))) | (refine lw_pure rfl (pv_nilp rfl) ?_) | (refine lw_pure0 (pv_nilp rfl) ?_))
  exact qw_ret3 rfl rfl rfl rfl ⟨rfl, hw⟩
set_option maxRecDepth 20000 in
theorem cutn_c (k : Int) (w : World) : Calls Tryd.prog 29 #[.pointer none, .int .i64 k] w fun e w' => e = .returned (.int .i64 2) ∧ Below w.heap.size w w' := by
  have hw := Below.refl w.heap.size w
  refine fn_enter 19 Tryd.func29 rfl rfl rfl ?_
  repeat' (first | (refine lw_pure rfl (pv_move rfl) ?_) | (refine lw_pure rfl (pv_assign rfl) ?_) | (refine lw_call (f := 44) (by kernel_rfl) rfl rfl (downn_c _) ?_; rintro e w1 ⟨rfl, hb⟩; refine ⟨_, rfl, ?_⟩; replace hw := grow_trans hw hb; clear hb) | (refine is_cw ?_; first | (refine cw_seq ?_) | (refine cw_region ?_) | (refine cw_true rfl rfl ?_) | (refine cw_false rfl rfl ?_) | (refine cw_true rfl (by first | assumption | exact decide_eq_true (by omega) | exact dec_notT (by omega)) ?_) | (refine cw_false rfl (by first | assumption | exact decide_eq_false (by omega) | exact dec_notF (by omega)) ?_) | (refine cw_skip ?_) | (refine cw_block ?_) | (refine cw_ret ?_)) | (refine is_qw ?_; first | (with_reducible refine qw_then ?_) | (with_reducible refine qw_in ?_) | (with_reducible refine qw_in_hit ?_) | (refine qw_in_miss rfl ?_) | (with_reducible refine qw_then_exit ?_) | (with_reducible refine qw_then_ret ?_) | (with_reducible refine qw_in_ret ?_)) | (refine lw_nil ?_) | ((refine is_bin ?_; first | (refine lw_pure rfl (pv_lss rfl rfl) ?_) | (refine lw_pure rfl (pv_neq rfl rfl) ?_))) | ((refine is_fa ?_; first | (refine lw_pure rfl (pv_fa (tF rfl) rfl) ?_))) | (refine lw_pure rfl (pv_nilp rfl) ?_) | (refine lw_pure0 (pv_nilp rfl) ?_))
  exact qw_ret1 rfl rfl ⟨rfl, hw⟩

section
variable {P : Program} {n : Nat} {l : Fr} {w : World} {d : Option Nat} {ty : TypeId} {pos : String} {af : Array Edge} {g : Option (Nat × Bool)} {t t' : TypeId} {x y : Operand}
theorem pv_predn {i : Nat} (hx : ev l x = some (.int .i64 ((i + 1 : Nat) : Int))) (hy : ev l y = some (.int .i64 1)) (h : i < 9223372036854775807) : Pv P n l ⟨d, .binOp .sub t x y t', ty, pos, af, g⟩ (.int .i64 (i : Nat)) w := by
  have e : ((i + 1 : Nat) : Int) - 1 = (i : Int) := by omega
  have := pv_sub (P := P) (n := n) (w := w) (d := d) (ty := ty) (pos := pos) (af := af) (g := g) (t := t) (t' := t') hx hy (by omega)
  rwa [e] at this
end
theorem usedT {l : List Fil} {k : Nat} {f : Fil} (h : l[k]? = some f) : usedF (l.take (k + 1)) = usedF (l.take k) + szF f := by
  rw [List.take_add_one, h, usedF_append]
  show _ + usedF [f] = _
  rw [usedF_cons]
  rfl
theorem usedT_le (l : List Fil) (k : Nat) : usedF (l.take k) ≤ usedF l := by
  have : usedF l = usedF (l.take k) + usedF (l.drop k) := by rw [← usedF_append, List.take_append_drop]
  omega
set_option maxRecDepth 20000 in
set_option maxHeartbeats 8000000 in
theorem rname_c {s : ByteArray} (hs : s.size ≤ 9223372036854775807) (w : World) : Calls Tryd.prog 24 #[.string s] w fun e w' => e = .returned (.bool (nameF s)) ∧ Below w.heap.size w w' := by
  have hw := Below.refl w.heap.size w
  refine fn_enter 57 Tryd.func24 rfl rfl rfl ?_
  repeat' (first | (refine lw_pure rfl (pv_assign rfl) ?_) | (refine is_cw ?_; first | (refine cw_seq ?_) | (refine cw_region ?_) | (refine cw_block ?_)) | (refine is_qw ?_; first | (with_reducible refine qw_then ?_)) | (refine lw_nil ?_))
  refine cw_loop (σ := Nat) (fun k => [(0, .string s), (3, .int .i64 (k : Nat))]) (fun k wr => k ≤ s.size ∧ Below w.heap.size w wr ∧ ∀ b ∈ (bytesI s).take k, letB b = true) (fun k => s.size - k) 0 (by repeat' (first | exact trivial | refine ⟨rfl, ?_⟩)) ⟨Nat.zero_le _, hw, fun b hb => by simp at hb⟩ ?_
  clear hw
  rintro k wr ⟨hk, hw, hgd⟩
  by_cases hlt : k < s.size
  · have hbb := bytesI_bd s _ (bt_mem hlt)
    by_cases hq : letB (bt s k) = true
    · have hgd2 : ∀ b ∈ (bytesI s).take (k + 1), letB b = true := fun b hb => by
        rw [bytesI_take s hlt] at hb
        rcases List.mem_append.1 hb with h1 | h1
        · exact hgd b h1
        · rw [List.mem_singleton] at h1; rw [h1]; exact hq
      have hq2 := of_decide_eq_true hq
      rcases hq2 with ⟨h1, h2⟩ | ⟨h1, h2⟩ | ⟨h1, h2⟩ | h1 | h1 | h1
      all_goals
        repeat' (first | (refine lw_pure rfl (pv_move rfl) ?_) | (refine lw_pure rfl (pv_assign rfl) ?_) | (refine is_cw ?_; first | (refine cw_seq ?_) | (refine cw_region ?_) | (refine cw_false rfl rfl ?_) | (refine cw_true rfl (by first | assumption | exact decide_eq_true (by omega) | exact dec_notT (by omega)) ?_) | (refine cw_false rfl (by first | assumption | exact decide_eq_false (by omega) | exact dec_notF (by omega)) ?_) | (refine cw_skip ?_) | (refine cw_block ?_)) | (refine is_qw ?_; first | (with_reducible refine qw_then ?_) | (with_reducible refine qw_in ?_)) | (refine lw_nil ?_) | (refine is_guarded ?_; first | (refine lw_not rfl rfl rfl rfl ?_) | (refine lw_not_u rfl rfl rfl ?_) | (refine lw_on rfl rfl rfl ?_) | (refine lw_on rfl rfl (by first | assumption | exact decide_eq_true (by omega) | exact decide_eq_false (by omega) | exact dec_notT (by omega) | exact dec_notF (by omega)) ?_) | (refine lw_not rfl rfl rfl (by first | assumption | exact decide_eq_true (by omega) | exact decide_eq_false (by omega) | exact dec_notT (by omega) | exact dec_notF (by omega)) ?_)) | ((refine is_bin ?_; first | (refine lw_pure rfl (pv_lss rfl rfl) ?_) | (refine lw_pure rfl (pv_eql rfl rfl) ?_) | (refine lw_pure rfl (pv_leq rfl rfl) ?_) | (refine lw_pure rfl (pv_geq rfl rfl) ?_) | (refine lw_pure rfl (pv_inc rfl rfl (by omega)) ?_))) | ((refine is_un ?_; first | (refine lw_pure rfl (pv_not rfl) ?_))) | ((refine is_bi ?_; first | (refine lw_pure rfl (pv_lens (tStr rfl) rfl) ?_))) | (refine lw_pure rfl (pv_sidx (tStr rfl) rfl rfl (by omega)) ?_) | (refine lw_pure rfl (pv_pick_t rfl rfl rfl) ?_) | (refine lw_pure rfl (pv_pick_f rfl rfl rfl) ?_) | (refine lw_pure rfl (pv_pick_t rfl (by first | assumption | exact decide_eq_true (by omega) | exact dec_notT (by omega)) rfl) ?_) | (refine lw_pure rfl (pv_pick_f rfl (by first | assumption | exact decide_eq_false (by omega) | exact dec_notF (by omega)) rfl) ?_))
        exact qw_round (k + 1) (by repeat' (first | exact trivial | refine ⟨rfl, ?_⟩)) ⟨by show k + 1 ≤ _; omega, hw, hgd2⟩ (by show s.size - (k + 1) < s.size - k; omega)
    · have e : nameF s = false := by
        unfold nameF
        rw [Bool.and_eq_false_iff]
        refine Or.inr ?_
        rw [List.all_eq_false]
        exact ⟨_, bt_mem hlt, hq⟩
      have hq2 : ¬ ((97 ≤ bt s k ∧ bt s k ≤ 122) ∨ (65 ≤ bt s k ∧ bt s k ≤ 90) ∨ (48 ≤ bt s k ∧ bt s k ≤ 57) ∨ bt s k = 45 ∨ bt s k = 95 ∨ bt s k = 46) := fun h => hq (decide_eq_true h)
      rw [e]
      repeat' (first | (refine lw_pure rfl (pv_move rfl) ?_) | (refine lw_pure rfl (pv_assign rfl) ?_) | (refine is_cw ?_; first | (refine cw_seq ?_) | (refine cw_region ?_) | (refine cw_true rfl (by first | assumption | exact decide_eq_true (by omega) | exact dec_notT (by omega)) ?_) | (refine cw_skip ?_) | (refine cw_block ?_) | (refine cw_ret ?_)) | (refine is_qw ?_; first | (with_reducible refine qw_then ?_) | (with_reducible refine qw_then_ret ?_) | (with_reducible refine qw_in_ret ?_)) | (refine lw_nil ?_) | (refine is_guarded ?_; first | (refine lw_on rfl rfl rfl ?_) | (refine lw_on rfl rfl (by first | assumption | exact decide_eq_true (by omega) | exact decide_eq_false (by omega) | exact dec_notT (by omega) | exact dec_notF (by omega)) ?_) | (refine lw_not rfl rfl rfl (by first | assumption | exact decide_eq_true (by omega) | exact decide_eq_false (by omega) | exact dec_notT (by omega) | exact dec_notF (by omega)) ?_) | (refine lw_gs_t rfl rfl rfl (fun hc => ?_) (fun hc => ?_) <;> (first | replace hc := of_decide_eq_true hc | replace hc := of_decide_eq_false hc | replace hc := dec_nT hc | replace hc := dec_nF hc | skip) <;> (try (exfalso; omega)))) | ((refine is_bin ?_; first | (refine lw_pure rfl (pv_lss rfl rfl) ?_) | (refine lw_pure rfl (pv_eql rfl rfl) ?_) | (refine lw_pure rfl (pv_leq rfl rfl) ?_) | (refine lw_pure rfl (pv_geq rfl rfl) ?_))) | ((refine is_un ?_; first | (refine lw_pure rfl (pv_not rfl) ?_))) | ((refine is_bi ?_; first | (refine lw_pure rfl (pv_lens (tStr rfl) rfl) ?_))) | (refine lw_pure rfl (pv_sidx (tStr rfl) rfl rfl (by omega)) ?_) | (refine lw_pure rfl (pv_pick_f rfl rfl rfl) ?_) | (refine lw_pure rfl (pv_pick_t rfl (by first | assumption | exact decide_eq_true (by omega) | exact dec_notT (by omega)) rfl) ?_) | (refine lw_pure rfl (pv_pick_f rfl (by first | assumption | exact decide_eq_false (by omega) | exact dec_notF (by omega)) rfl) ?_))
      all_goals exact qw_ret1 rfl rfl ⟨rfl, hw⟩
  · have hkl : k = s.size := by omega
    subst hkl
    have ha : (bytesI s).all letB = true := by
      rw [← bytesI_len, List.take_length] at hgd
      exact List.all_eq_true.2 hgd
    by_cases h1 : 1 ≤ s.size ∧ s.size ≤ 24
    · have e : nameF s = true := by unfold nameF; rw [ha, decide_eq_true h1]; rfl
      obtain ⟨h2, h3⟩ := h1
      rw [e]
      repeat' (first | (refine lw_pure rfl (pv_move rfl) ?_) | (refine lw_pure rfl (pv_assign rfl) ?_) | (refine is_cw ?_; first | (refine cw_seq ?_) | (refine cw_region ?_) | (refine cw_false rfl (by first | assumption | exact decide_eq_false (by omega) | exact dec_notF (by omega)) ?_) | (refine cw_exit ?_) | (refine cw_ret ?_)) | (refine is_qw ?_; first | (with_reducible refine qw_then ?_) | (with_reducible refine qw_in_hit ?_) | (with_reducible refine qw_then_exit ?_)) | (refine lw_nil ?_) | (refine is_guarded ?_; first | (refine lw_on rfl rfl (by first | assumption | exact decide_eq_true (by omega) | exact decide_eq_false (by omega) | exact dec_notT (by omega) | exact dec_notF (by omega)) ?_)) | ((refine is_bin ?_; first | (refine lw_pure rfl (pv_lss rfl rfl) ?_) | (refine lw_pure rfl (pv_leq rfl rfl) ?_) | (refine lw_pure rfl (pv_gtr rfl rfl) ?_))) | ((refine is_bi ?_; first | (refine lw_pure rfl (pv_lens (tStr rfl) rfl) ?_))) | (refine lw_pure rfl (pv_pick_t rfl (by first | assumption | exact decide_eq_true (by omega) | exact dec_notT (by omega)) rfl) ?_))
      exact qw_ret1 rfl rfl ⟨by rw [decide_eq_true (show (s.size : Int) ≤ 24 by omega)], hw⟩
    · have e : nameF s = false := by unfold nameF; rw [decide_eq_false h1, Bool.false_and]
      rw [e]
      by_cases h2 : 0 < s.size
      · repeat' (first | (refine lw_pure rfl (pv_move rfl) ?_) | (refine lw_pure rfl (pv_assign rfl) ?_) | (refine is_cw ?_; first | (refine cw_seq ?_) | (refine cw_region ?_) | (refine cw_false rfl (by first | assumption | exact decide_eq_false (by omega) | exact dec_notF (by omega)) ?_) | (refine cw_exit ?_) | (refine cw_ret ?_)) | (refine is_qw ?_; first | (with_reducible refine qw_then ?_) | (with_reducible refine qw_in_hit ?_) | (with_reducible refine qw_then_exit ?_)) | (refine lw_nil ?_) | (refine is_guarded ?_; first | (refine lw_on rfl rfl (by first | assumption | exact decide_eq_true (by omega) | exact decide_eq_false (by omega) | exact dec_notT (by omega) | exact dec_notF (by omega)) ?_)) | ((refine is_bin ?_; first | (refine lw_pure rfl (pv_lss rfl rfl) ?_) | (refine lw_pure rfl (pv_leq rfl rfl) ?_) | (refine lw_pure rfl (pv_gtr rfl rfl) ?_))) | ((refine is_bi ?_; first | (refine lw_pure rfl (pv_lens (tStr rfl) rfl) ?_))) | (refine lw_pure rfl (pv_pick_t rfl (by first | assumption | exact decide_eq_true (by omega) | exact dec_notT (by omega)) rfl) ?_))
        exact qw_ret1 rfl rfl ⟨by rw [decide_eq_false (show ¬ (s.size : Int) ≤ 24 by omega)], hw⟩
      · repeat' (first | (refine lw_pure rfl (pv_move rfl) ?_) | (refine lw_pure rfl (pv_assign rfl) ?_) | (refine is_cw ?_; first | (refine cw_seq ?_) | (refine cw_region ?_) | (refine cw_false rfl (by first | assumption | exact decide_eq_false (by omega) | exact dec_notF (by omega)) ?_) | (refine cw_exit ?_) | (refine cw_ret ?_)) | (refine is_qw ?_; first | (with_reducible refine qw_then ?_) | (with_reducible refine qw_in_hit ?_) | (with_reducible refine qw_then_exit ?_)) | (refine lw_nil ?_) | (refine is_guarded ?_; first | (refine lw_not rfl rfl rfl (by first | assumption | exact decide_eq_true (by omega) | exact decide_eq_false (by omega) | exact dec_notT (by omega) | exact dec_notF (by omega)) ?_)) | ((refine is_bin ?_; first | (refine lw_pure rfl (pv_lss rfl rfl) ?_) | (refine lw_pure rfl (pv_gtr rfl rfl) ?_))) | ((refine is_bi ?_; first | (refine lw_pure rfl (pv_lens (tStr rfl) rfl) ?_))) | (refine lw_pure rfl (pv_pick_f rfl (by first | assumption | exact decide_eq_false (by omega) | exact dec_notF (by omega)) rfl) ?_))
        exact qw_ret1 rfl rfl ⟨rfl, hw⟩
theorem rname_is {s : ByteArray} {b : Bool} (hs : s.size ≤ 9223372036854775807) (hb : nameF s = b) (w : World) : Calls Tryd.prog 24 #[.string s] w fun e w' => e = .returned (.bool b) ∧ Below w.heap.size w w' := by
  have := rname_c hs w
  rwa [hb] at this
set_option maxRecDepth 20000 in
theorem rused_c {w : World} {base N : Nat} {v : Value} {d : Dsk} (h : RkW w base N v d) : Calls Tryd.prog 46 #[.pointer (some ⟨N, 0, none⟩)] w fun e w' => e = .returned (.int .i64 (usedF d.fs : Nat)) ∧ Below w.heap.size w w' := by
  obtain ⟨a, c, rfl, HS, -⟩ := Own.slR encF_len h.own
  have H := h.obj
  have hus := h.ok.used
  have hcp := h.ok.cap
  have hmx := HS.max
  have hle := HS.le
  have hw := Below.refl w.heap.size w
  refine fn_enter 36 Tryd.func46 rfl rfl rfl ?_
  repeat' (first | (refine lw_pure rfl (pv_assign rfl) ?_) | (refine is_cw ?_; first | (refine cw_seq ?_) | (refine cw_region ?_) | (refine cw_block ?_)) | (refine is_qw ?_; first | (with_reducible refine qw_then ?_)) | (refine lw_nil ?_))
  refine cw_loop (σ := Nat × Nat) (fun s => [(0, .pointer (some ⟨N, 0, none⟩)), (3, .int .i64 (s.2 : Nat)), (4, .int .i64 (s.1 : Nat))]) (fun s wr => s.1 ≤ d.fs.length ∧ s.2 = usedF (d.fs.take s.1) ∧ Below w.heap.size w wr) (fun s => d.fs.length - s.1) (0, 0) (by repeat' (first | exact trivial | refine ⟨rfl, ?_⟩)) ⟨Nat.zero_le _, rfl, hw⟩ ?_
  clear hw
  rintro ⟨k, n⟩ wr ⟨hk, hn, hw⟩
  replace hk : k ≤ d.fs.length := hk
  replace hn : n = usedF (d.fs.take k) := hn
  change CW Tryd.prog _ _ _ [(0, .pointer (some ⟨N, 0, none⟩)), (3, .int .i64 (n : Nat)), (4, .int .i64 (k : Nat))] wr
  by_cases hlt : k < d.fs.length
  · have hxk : d.fs[k]? = some d.fs[k] := List.getElem?_eq_getElem hlt
    generalize d.fs[k] = f at hxk
    have hut := usedT hxk
    have hul := usedT_le d.fs (k + 1)
    have hsf : szF f = f.firm.size + f.pend.size := rfl
    obtain ⟨ab, ao, rfl, -, -⟩ := HS.at (by intro h; rw [h] at hlt; simp at hlt)
    repeat' (first | (refine lw_pure rfl (pv_move rfl) ?_) | (refine is_cw ?_; first | (refine cw_seq ?_) | (refine cw_region ?_) | (refine cw_true rfl (by first | assumption | exact decide_eq_true (by omega) | exact dec_notT (by omega)) ?_) | (refine cw_skip ?_) | (refine cw_block ?_)) | (refine is_qw ?_; first | (with_reducible refine qw_then ?_)) | (refine lw_nil ?_) | ((refine is_bin ?_; first | (refine lw_pure rfl (pv_lss rfl rfl) ?_))) | ((refine is_load ?_; first | (refine lw_pure rfl (pv_load (t1 rfl) rfl (by first | exact PT.ld0 (H.mono hw) rfl | exact PT.ld (H.mono hw) rfl)) ?_))) | ((refine is_fa ?_; first | (refine lw_pure rfl (pv_fa (tF rfl) rfl) ?_))) | ((refine is_bi ?_; first | (refine lw_pure rfl (pv_lenl (tS rfl) rfl) ?_))) | (refine lw_pure rfl (pv_nilp rfl) ?_))
    refine cw_drawn (fun w' => Below w.heap.size w w') (by kernel_rfl) (by repeat (first | exact NoPanic.body | with_reducible refine NoPanic.then ?_ | with_reducible refine NoPanic.inBlock ?_)) (fun hNP => ?_)
    have hS := hw.drew
    all_goals (refine at0 0 rfl (fun w' hq => pv_move rfl) ?_)
    all_goals (refine at0 1 rfl (fun w' hq => pv_move rfl) ?_)
    all_goals (refine at0 2 rfl (fun w' hq => pv_nilp rfl) ?_)
    all_goals (refine at0 3 rfl (fun w' hq => pv_fa (tF rfl) rfl) ?_)
    all_goals (refine at0 4 rfl (fun w' hq => pv_load (t1 rfl) rfl (by first | exact PT.ld0 (H.mono hq) rfl | exact PT.ld (H.mono hq) rfl | exact SlR.ld (HS.mono hq) hxk rfl | exact SlR.ld1 (HS.mono hq) hxk rfl)) ?_)
    all_goals (refine at0 5 rfl (fun w' hq => pv_move rfl) ?_)
    all_goals (refine at0 6 rfl (fun w' hq => pv_ian (tS rfl) rfl rfl (by omega)) ?_)
    all_goals (refine at0 7 rfl (fun w' hq => pv_fa (tF rfl) rfl) ?_)
    all_goals (refine at0 8 rfl (fun w' hq => pv_load (t1 rfl) rfl (by first | exact PT.ld0 (H.mono hq) rfl | exact PT.ld (H.mono hq) rfl | exact SlR.ld (HS.mono hq) hxk rfl | exact SlR.ld1 (HS.mono hq) hxk rfl)) ?_)
    all_goals (refine at0 9 rfl (fun w' hq => pv_lens (tStr rfl) rfl) ?_)
    all_goals (refine at0 10 rfl (fun w' hq => pv_add rfl rfl (by omega)) ?_)
    all_goals (refine at0 11 rfl (fun w' hq => pv_move rfl) ?_)
    all_goals (refine at0 12 rfl (fun w' hq => pv_nilp rfl) ?_)
    all_goals (refine at0 13 rfl (fun w' hq => pv_fa (tF rfl) rfl) ?_)
    all_goals (refine at0 14 rfl (fun w' hq => pv_load (t1 rfl) rfl (by first | exact PT.ld0 (H.mono hq) rfl | exact PT.ld (H.mono hq) rfl | exact SlR.ld (HS.mono hq) hxk rfl | exact SlR.ld1 (HS.mono hq) hxk rfl)) ?_)
    all_goals (refine at0 15 rfl (fun w' hq => pv_move rfl) ?_)
    all_goals (refine at0 16 rfl (fun w' hq => pv_ian (tS rfl) rfl rfl (by omega)) ?_)
    all_goals (refine at0 17 rfl (fun w' hq => pv_fa (tF rfl) rfl) ?_)
    all_goals (refine at0 18 rfl (fun w' hq => pv_load (t1 rfl) rfl (by first | exact PT.ld0 (H.mono hq) rfl | exact PT.ld (H.mono hq) rfl | exact SlR.ld (HS.mono hq) hxk rfl | exact SlR.ld1 (HS.mono hq) hxk rfl)) ?_)
    all_goals (refine at0 19 rfl (fun w' hq => pv_lens (tStr rfl) rfl) ?_)
    all_goals (refine at0 20 rfl (fun w' hq => pv_add rfl rfl (by omega)) ?_)
    all_goals (refine at0 21 rfl (fun w' hq => pv_assign rfl) ?_)
    all_goals (refine aw_done (by kernel_rfl) ?_; replace hw := hS; clear hS hNP)
    repeat' (first | (refine lw_pure rfl (pv_move rfl) ?_) | (refine lw_pure rfl (pv_assign rfl) ?_) | (refine is_cw ?_; first | (refine cw_region ?_)) | (refine is_qw ?_; first | (with_reducible refine qw_then ?_) | (with_reducible refine qw_in ?_)) | (refine lw_nil ?_) | ((refine is_bin ?_; first | (refine lw_pure rfl (pv_inc rfl rfl (by omega)) ?_))))
    exact qw_round (k + 1, n + f.firm.size + f.pend.size) (by repeat' (first | exact trivial | refine ⟨rfl, ?_⟩)) ⟨by show k + 1 ≤ _; omega, by show n + f.firm.size + f.pend.size = usedF (d.fs.take (k + 1)); omega, hw⟩ (by show d.fs.length - (k + 1) < d.fs.length - k; omega)
  · have hkl : k = d.fs.length := by omega
    subst hkl
    rw [List.take_length] at hn
    subst hn
    repeat' (first | (refine lw_pure rfl (pv_move rfl) ?_) | (refine lw_pure rfl (pv_assign rfl) ?_) | (refine is_cw ?_; first | (refine cw_seq ?_) | (refine cw_region ?_) | (refine cw_false rfl (by first | assumption | exact decide_eq_false (by omega) | exact dec_notF (by omega)) ?_) | (refine cw_exit ?_) | (refine cw_ret ?_)) | (refine is_qw ?_; first | (with_reducible refine qw_then ?_) | (with_reducible refine qw_in_hit ?_) | (with_reducible refine qw_then_exit ?_)) | (refine lw_nil ?_) | ((refine is_bin ?_; first | (refine lw_pure rfl (pv_lss rfl rfl) ?_))) | ((refine is_load ?_; first | (refine lw_pure rfl (pv_load (t1 rfl) rfl (by first | exact PT.ld0 (H.mono hw) rfl | exact PT.ld (H.mono hw) rfl)) ?_))) | ((refine is_fa ?_; first | (refine lw_pure rfl (pv_fa (tF rfl) rfl) ?_))) | ((refine is_bi ?_; first | (refine lw_pure rfl (pv_lenl (tS rfl) rfl) ?_))) | (refine lw_pure rfl (pv_nilp rfl) ?_))
    exact qw_ret1 rfl rfl ⟨rfl, hw⟩
set_option maxRecDepth 20000 in
theorem rsame_c {w : World} {b1 b2 N1 N2 : Nat} {v1 v2 : Value} {a b : Dsk} (h1 : RkW w b1 N1 v1 a) (h2 : RkW w b2 N2 v2 b) : Calls Tryd.prog 27 #[.pointer (some ⟨N1, 0, none⟩), .pointer (some ⟨N2, 0, none⟩)] w fun e w' => e = .returned (.bool (decide (a = b))) ∧ Below w.heap.size w w' := by
  obtain ⟨a1, c1, rfl, HA, -⟩ := Own.slR encF_len h1.own
  obtain ⟨a2, c2, rfl, HB, -⟩ := Own.slR encF_len h2.own
  have H1 := h1.obj
  have H2 := h2.obj
  have hw := Below.refl w.heap.size w
  refine fn_enter 47 Tryd.func27 rfl rfl rfl ?_
  repeat' (first | (refine lw_pure rfl (pv_assign rfl) ?_) | (refine is_cw ?_; first | (refine cw_seq ?_) | (refine cw_region ?_)) | (refine is_qw ?_; first | (with_reducible refine qw_then ?_)) | (refine lw_nil ?_))
  by_cases hc : a.cap = b.cap
  · by_cases hl : a.left = b.left
    · cases hd : (a.dark == b.dark) with
      | true =>
        have hd2 : a.dark = b.dark := by simpa using hd
        have e : decide (a = b) = decide (a.fs = b.fs) := by rw [decide_eq_decide, dsk_ext]; exact ⟨fun h => h.1, fun h => ⟨h, hc, hl, hd2⟩⟩
        rw [e]
        refine cw_drawn (fun w' => Below w.heap.size w w') (by kernel_rfl) (by repeat (first | exact NoPanic.body | with_reducible refine NoPanic.then ?_ | with_reducible refine NoPanic.inBlock ?_)) (fun hNP => ?_)
        have hS := hw.drew
        all_goals (refine at0 0 rfl (fun w' hq => pv_move rfl) ?_)
        all_goals (refine at0 1 rfl (fun w' hq => pv_nilp rfl) ?_)
        all_goals (refine at0 2 rfl (fun w' hq => pv_fa (tF rfl) rfl) ?_)
        all_goals (refine at0 3 rfl (fun w' hq => pv_load (t1 rfl) rfl (by first | exact PT.ld0 (H1.mono hq) rfl | exact PT.ld (H1.mono hq) rfl | exact PT.ld0 (H2.mono hq) rfl | exact PT.ld (H2.mono hq) rfl)) ?_)
        all_goals (refine at0 4 rfl (fun w' hq => pv_move rfl) ?_)
        all_goals (refine at0 5 rfl (fun w' hq => pv_nilp rfl) ?_)
        all_goals (refine at0 6 rfl (fun w' hq => pv_fa (tF rfl) rfl) ?_)
        all_goals (refine at0 7 rfl (fun w' hq => pv_load (t1 rfl) rfl (by first | exact PT.ld0 (H1.mono hq) rfl | exact PT.ld (H1.mono hq) rfl | exact PT.ld0 (H2.mono hq) rfl | exact PT.ld (H2.mono hq) rfl)) ?_)
        all_goals (refine at0 8 rfl (fun w' hq => pv_eql rfl rfl) ?_)
        all_goals (refine at0 9 rfl (fun w' hq => pv_move rfl) ?_)
        all_goals (refine at2 10 rfl rfl rfl (fun w' hq => pv_move rfl) ?_)
        all_goals (refine at2 11 rfl rfl rfl (fun w' hq => pv_nilp rfl) ?_)
        all_goals (refine at2 12 rfl rfl rfl (fun w' hq => pv_fa (tF rfl) rfl) ?_)
        all_goals (refine at2 13 rfl rfl rfl (fun w' hq => pv_load (t1 rfl) rfl (by first | exact PT.ld0 (H1.mono hq) rfl | exact PT.ld (H1.mono hq) rfl | exact PT.ld0 (H2.mono hq) rfl | exact PT.ld (H2.mono hq) rfl)) ?_)
        all_goals (refine at2 14 rfl rfl rfl (fun w' hq => pv_move rfl) ?_)
        all_goals (refine at2 15 rfl rfl rfl (fun w' hq => pv_nilp rfl) ?_)
        all_goals (refine at2 16 rfl rfl rfl (fun w' hq => pv_fa (tF rfl) rfl) ?_)
        all_goals (refine at2 17 rfl rfl rfl (fun w' hq => pv_load (t1 rfl) rfl (by first | exact PT.ld0 (H1.mono hq) rfl | exact PT.ld (H1.mono hq) rfl | exact PT.ld0 (H2.mono hq) rfl | exact PT.ld (H2.mono hq) rfl)) ?_)
        all_goals (refine at2 18 rfl rfl rfl (fun w' hq => pv_eql rfl rfl) ?_)
        all_goals (refine at0 19 rfl (fun w' hq => pv_pick_t rfl (by first | assumption | exact decide_eq_true (by omega) | exact dec_notT (by omega)) rfl) ?_)
        all_goals (refine at0 20 rfl (fun w' hq => pv_move rfl) ?_)
        all_goals (refine at2 21 rfl rfl rfl (fun w' hq => pv_move rfl) ?_)
        all_goals (refine at2 22 rfl rfl rfl (fun w' hq => pv_nilp rfl) ?_)
        all_goals (refine at2 23 rfl rfl rfl (fun w' hq => pv_fa (tF rfl) rfl) ?_)
        all_goals (refine at2 24 rfl rfl rfl (fun w' hq => pv_load (t1 rfl) rfl (by first | exact PT.ld0 (H1.mono hq) rfl | exact PT.ld (H1.mono hq) rfl | exact PT.ld0 (H2.mono hq) rfl | exact PT.ld (H2.mono hq) rfl)) ?_)
        all_goals (refine at2 25 rfl rfl rfl (fun w' hq => pv_move rfl) ?_)
        all_goals (refine at2 26 rfl rfl rfl (fun w' hq => pv_nilp rfl) ?_)
        all_goals (refine at2 27 rfl rfl rfl (fun w' hq => pv_fa (tF rfl) rfl) ?_)
        all_goals (refine at2 28 rfl rfl rfl (fun w' hq => pv_load (t1 rfl) rfl (by first | exact PT.ld0 (H1.mono hq) rfl | exact PT.ld (H1.mono hq) rfl | exact PT.ld0 (H2.mono hq) rfl | exact PT.ld (H2.mono hq) rfl)) ?_)
        all_goals (refine at2 29 rfl rfl rfl (fun w' hq => pv_beql (tBo rfl) rfl rfl) ?_)
        all_goals (refine at0 30 rfl (fun w' hq => pv_pick_t rfl (by first | assumption | exact decide_eq_true (by omega) | exact dec_notT (by omega)) rfl) ?_)
        all_goals (refine at0 31 rfl (fun w' hq => pv_move rfl) ?_)
        all_goals (refine at2 32 rfl rfl rfl (fun w' hq => pv_move rfl) ?_)
        all_goals (refine at2 33 rfl rfl rfl (fun w' hq => pv_nilp rfl) ?_)
        all_goals (refine at2 34 rfl rfl rfl (fun w' hq => pv_fa (tF rfl) rfl) ?_)
        all_goals (refine at2 35 rfl rfl rfl (fun w' hq => pv_load (t1 rfl) rfl (by first | exact PT.ld0 (H1.mono hq) rfl | exact PT.ld (H1.mono hq) rfl | exact PT.ld0 (H2.mono hq) rfl | exact PT.ld (H2.mono hq) rfl)) ?_)
        all_goals (refine at2 36 rfl rfl rfl (fun w' hq => pv_move rfl) ?_)
        all_goals (refine at2 37 rfl rfl rfl (fun w' hq => pv_nilp rfl) ?_)
        all_goals (refine at2 38 rfl rfl rfl (fun w' hq => pv_fa (tF rfl) rfl) ?_)
        all_goals (refine at2 39 rfl rfl rfl (fun w' hq => pv_load (t1 rfl) rfl (by first | exact PT.ld0 (H1.mono hq) rfl | exact PT.ld (H1.mono hq) rfl | exact PT.ld0 (H2.mono hq) rfl | exact PT.ld (H2.mono hq) rfl)) ?_)
        all_goals first | (refine an3 40 rfl rfl rfl ?_) | (refine an0 40 rfl rfl rfl ?_) | (refine aw_act_g 40 (by kernel_rfl) rfl rfl rfl (by first | rfl | assumption | exact decide_eq_true (by omega) | exact decide_eq_false (by omega) | exact dec_notT (by omega) | exact dec_notF (by omega)) rfl ?_; refine act_call (f := 23) (by kernel_rfl) rfl (rfiles_c rfl rfl (HA.mono hS) (HB.mono hS)) ?_; rintro e w1 ⟨rfl, hb⟩; refine ⟨_, rfl, grow_trans hS hb, fun hS => ?_⟩)
        all_goals (refine at0 41 rfl (fun w' hq => pv_pick_t rfl (by first | assumption | exact decide_eq_true (by omega) | exact dec_notT (by omega)) rfl) ?_)
        all_goals (refine at0 42 rfl (fun w' hq => pv_assign rfl) ?_)
        all_goals (refine aw_done (by kernel_rfl) ?_; replace hw := hS; clear hS hNP)
        repeat' (first | (refine is_cw ?_; first | (refine cw_ret ?_)) | (refine is_qw ?_; first | (with_reducible refine qw_then ?_)))
        exact qw_ret1 rfl rfl ⟨rfl, hw⟩
      | false =>
        have hne : ¬ a = b := fun e => by rw [e] at hd; simp at hd
        rw [decide_eq_false hne]
        refine cw_drawn (fun w' => Below w.heap.size w w') (by kernel_rfl) (by repeat (first | exact NoPanic.body | with_reducible refine NoPanic.then ?_ | with_reducible refine NoPanic.inBlock ?_)) (fun hNP => ?_)
        have hS := hw.drew
        all_goals (refine at0 0 rfl (fun w' hq => pv_move rfl) ?_)
        all_goals (refine at0 1 rfl (fun w' hq => pv_nilp rfl) ?_)
        all_goals (refine at0 2 rfl (fun w' hq => pv_fa (tF rfl) rfl) ?_)
        all_goals (refine at0 3 rfl (fun w' hq => pv_load (t1 rfl) rfl (by first | exact PT.ld0 (H1.mono hq) rfl | exact PT.ld (H1.mono hq) rfl | exact PT.ld0 (H2.mono hq) rfl | exact PT.ld (H2.mono hq) rfl)) ?_)
        all_goals (refine at0 4 rfl (fun w' hq => pv_move rfl) ?_)
        all_goals (refine at0 5 rfl (fun w' hq => pv_nilp rfl) ?_)
        all_goals (refine at0 6 rfl (fun w' hq => pv_fa (tF rfl) rfl) ?_)
        all_goals (refine at0 7 rfl (fun w' hq => pv_load (t1 rfl) rfl (by first | exact PT.ld0 (H1.mono hq) rfl | exact PT.ld (H1.mono hq) rfl | exact PT.ld0 (H2.mono hq) rfl | exact PT.ld (H2.mono hq) rfl)) ?_)
        all_goals (refine at0 8 rfl (fun w' hq => pv_eql rfl rfl) ?_)
        all_goals (refine at0 9 rfl (fun w' hq => pv_move rfl) ?_)
        all_goals (refine at2 10 rfl rfl rfl (fun w' hq => pv_move rfl) ?_)
        all_goals (refine at2 11 rfl rfl rfl (fun w' hq => pv_nilp rfl) ?_)
        all_goals (refine at2 12 rfl rfl rfl (fun w' hq => pv_fa (tF rfl) rfl) ?_)
        all_goals (refine at2 13 rfl rfl rfl (fun w' hq => pv_load (t1 rfl) rfl (by first | exact PT.ld0 (H1.mono hq) rfl | exact PT.ld (H1.mono hq) rfl | exact PT.ld0 (H2.mono hq) rfl | exact PT.ld (H2.mono hq) rfl)) ?_)
        all_goals (refine at2 14 rfl rfl rfl (fun w' hq => pv_move rfl) ?_)
        all_goals (refine at2 15 rfl rfl rfl (fun w' hq => pv_nilp rfl) ?_)
        all_goals (refine at2 16 rfl rfl rfl (fun w' hq => pv_fa (tF rfl) rfl) ?_)
        all_goals (refine at2 17 rfl rfl rfl (fun w' hq => pv_load (t1 rfl) rfl (by first | exact PT.ld0 (H1.mono hq) rfl | exact PT.ld (H1.mono hq) rfl | exact PT.ld0 (H2.mono hq) rfl | exact PT.ld (H2.mono hq) rfl)) ?_)
        all_goals (refine at2 18 rfl rfl rfl (fun w' hq => pv_eql rfl rfl) ?_)
        all_goals (refine at0 19 rfl (fun w' hq => pv_pick_t rfl (by first | assumption | exact decide_eq_true (by omega) | exact dec_notT (by omega)) rfl) ?_)
        all_goals (refine at0 20 rfl (fun w' hq => pv_move rfl) ?_)
        all_goals (refine at2 21 rfl rfl rfl (fun w' hq => pv_move rfl) ?_)
        all_goals (refine at2 22 rfl rfl rfl (fun w' hq => pv_nilp rfl) ?_)
        all_goals (refine at2 23 rfl rfl rfl (fun w' hq => pv_fa (tF rfl) rfl) ?_)
        all_goals (refine at2 24 rfl rfl rfl (fun w' hq => pv_load (t1 rfl) rfl (by first | exact PT.ld0 (H1.mono hq) rfl | exact PT.ld (H1.mono hq) rfl | exact PT.ld0 (H2.mono hq) rfl | exact PT.ld (H2.mono hq) rfl)) ?_)
        all_goals (refine at2 25 rfl rfl rfl (fun w' hq => pv_move rfl) ?_)
        all_goals (refine at2 26 rfl rfl rfl (fun w' hq => pv_nilp rfl) ?_)
        all_goals (refine at2 27 rfl rfl rfl (fun w' hq => pv_fa (tF rfl) rfl) ?_)
        all_goals (refine at2 28 rfl rfl rfl (fun w' hq => pv_load (t1 rfl) rfl (by first | exact PT.ld0 (H1.mono hq) rfl | exact PT.ld (H1.mono hq) rfl | exact PT.ld0 (H2.mono hq) rfl | exact PT.ld (H2.mono hq) rfl)) ?_)
        all_goals (refine at2 29 rfl rfl rfl (fun w' hq => pv_beql (tBo rfl) rfl rfl) ?_)
        all_goals (refine at0 30 rfl (fun w' hq => pv_pick_t rfl (by first | assumption | exact decide_eq_true (by omega) | exact dec_notT (by omega)) rfl) ?_)
        all_goals (refine at0 31 rfl (fun w' hq => pv_move rfl) ?_)
        all_goals (refine an2 32 rfl rfl rfl ?_)
        all_goals (refine an2 33 rfl rfl rfl ?_)
        all_goals (refine an2 34 rfl rfl rfl ?_)
        all_goals (refine an2 35 rfl rfl rfl ?_)
        all_goals (refine an2 36 rfl rfl rfl ?_)
        all_goals (refine an2 37 rfl rfl rfl ?_)
        all_goals (refine an2 38 rfl rfl rfl ?_)
        all_goals (refine an2 39 rfl rfl rfl ?_)
        all_goals first | (refine an3 40 rfl rfl rfl ?_) | (refine an0 40 rfl rfl rfl ?_) | (refine aw_act_g 40 (by kernel_rfl) rfl rfl rfl (by first | rfl | assumption | exact decide_eq_true (by omega) | exact decide_eq_false (by omega) | exact dec_notT (by omega) | exact dec_notF (by omega)) rfl ?_; refine act_call (f := 23) (by kernel_rfl) rfl (rfiles_c rfl rfl (HA.mono hS) (HB.mono hS)) ?_; rintro e w1 ⟨rfl, hb⟩; refine ⟨_, rfl, grow_trans hS hb, fun hS => ?_⟩)
        all_goals (refine at0 41 rfl (fun w' hq => pv_pick_f rfl (by first | assumption | exact decide_eq_false (by omega) | exact dec_notF (by omega)) rfl) ?_)
        all_goals (refine at0 42 rfl (fun w' hq => pv_assign rfl) ?_)
        all_goals (refine aw_done (by kernel_rfl) ?_; replace hw := hS; clear hS hNP)
        repeat' (first | (refine is_cw ?_; first | (refine cw_ret ?_)) | (refine is_qw ?_; first | (with_reducible refine qw_then ?_)))
        exact qw_ret1 rfl rfl ⟨rfl, hw⟩
    · have hne : ¬ a = b := fun e => hl (by rw [e])
      rw [decide_eq_false hne]
      refine cw_drawn (fun w' => Below w.heap.size w w') (by kernel_rfl) (by repeat (first | exact NoPanic.body | with_reducible refine NoPanic.then ?_ | with_reducible refine NoPanic.inBlock ?_)) (fun hNP => ?_)
      have hS := hw.drew
      all_goals (refine at0 0 rfl (fun w' hq => pv_move rfl) ?_)
      all_goals (refine at0 1 rfl (fun w' hq => pv_nilp rfl) ?_)
      all_goals (refine at0 2 rfl (fun w' hq => pv_fa (tF rfl) rfl) ?_)
      all_goals (refine at0 3 rfl (fun w' hq => pv_load (t1 rfl) rfl (by first | exact PT.ld0 (H1.mono hq) rfl | exact PT.ld (H1.mono hq) rfl | exact PT.ld0 (H2.mono hq) rfl | exact PT.ld (H2.mono hq) rfl)) ?_)
      all_goals (refine at0 4 rfl (fun w' hq => pv_move rfl) ?_)
      all_goals (refine at0 5 rfl (fun w' hq => pv_nilp rfl) ?_)
      all_goals (refine at0 6 rfl (fun w' hq => pv_fa (tF rfl) rfl) ?_)
      all_goals (refine at0 7 rfl (fun w' hq => pv_load (t1 rfl) rfl (by first | exact PT.ld0 (H1.mono hq) rfl | exact PT.ld (H1.mono hq) rfl | exact PT.ld0 (H2.mono hq) rfl | exact PT.ld (H2.mono hq) rfl)) ?_)
      all_goals (refine at0 8 rfl (fun w' hq => pv_eql rfl rfl) ?_)
      all_goals (refine at0 9 rfl (fun w' hq => pv_move rfl) ?_)
      all_goals (refine at2 10 rfl rfl rfl (fun w' hq => pv_move rfl) ?_)
      all_goals (refine at2 11 rfl rfl rfl (fun w' hq => pv_nilp rfl) ?_)
      all_goals (refine at2 12 rfl rfl rfl (fun w' hq => pv_fa (tF rfl) rfl) ?_)
      all_goals (refine at2 13 rfl rfl rfl (fun w' hq => pv_load (t1 rfl) rfl (by first | exact PT.ld0 (H1.mono hq) rfl | exact PT.ld (H1.mono hq) rfl | exact PT.ld0 (H2.mono hq) rfl | exact PT.ld (H2.mono hq) rfl)) ?_)
      all_goals (refine at2 14 rfl rfl rfl (fun w' hq => pv_move rfl) ?_)
      all_goals (refine at2 15 rfl rfl rfl (fun w' hq => pv_nilp rfl) ?_)
      all_goals (refine at2 16 rfl rfl rfl (fun w' hq => pv_fa (tF rfl) rfl) ?_)
      all_goals (refine at2 17 rfl rfl rfl (fun w' hq => pv_load (t1 rfl) rfl (by first | exact PT.ld0 (H1.mono hq) rfl | exact PT.ld (H1.mono hq) rfl | exact PT.ld0 (H2.mono hq) rfl | exact PT.ld (H2.mono hq) rfl)) ?_)
      all_goals (refine at2 18 rfl rfl rfl (fun w' hq => pv_eql rfl rfl) ?_)
      all_goals (refine at0 19 rfl (fun w' hq => pv_pick_t rfl (by first | assumption | exact decide_eq_true (by omega) | exact dec_notT (by omega)) rfl) ?_)
      all_goals (refine at0 20 rfl (fun w' hq => pv_move rfl) ?_)
      all_goals (refine an2 21 rfl rfl rfl ?_)
      all_goals (refine an2 22 rfl rfl rfl ?_)
      all_goals (refine an2 23 rfl rfl rfl ?_)
      all_goals (refine an2 24 rfl rfl rfl ?_)
      all_goals (refine an2 25 rfl rfl rfl ?_)
      all_goals (refine an2 26 rfl rfl rfl ?_)
      all_goals (refine an2 27 rfl rfl rfl ?_)
      all_goals (refine an2 28 rfl rfl rfl ?_)
      all_goals (refine an2 29 rfl rfl rfl ?_)
      all_goals (refine at0 30 rfl (fun w' hq => pv_pick_f rfl (by first | assumption | exact decide_eq_false (by omega) | exact dec_notF (by omega)) rfl) ?_)
      all_goals (refine at0 31 rfl (fun w' hq => pv_move rfl) ?_)
      all_goals (refine an1 32 rfl rfl rfl rfl ?_)
      all_goals (refine an1 33 rfl rfl rfl rfl ?_)
      all_goals (refine an1 34 rfl rfl rfl rfl ?_)
      all_goals (refine an1 35 rfl rfl rfl rfl ?_)
      all_goals (refine an1 36 rfl rfl rfl rfl ?_)
      all_goals (refine an1 37 rfl rfl rfl rfl ?_)
      all_goals (refine an1 38 rfl rfl rfl rfl ?_)
      all_goals (refine an1 39 rfl rfl rfl rfl ?_)
      all_goals first | (refine an3 40 rfl rfl rfl ?_) | (refine an0 40 rfl rfl rfl ?_) | (refine aw_act_g 40 (by kernel_rfl) rfl rfl rfl (by first | rfl | assumption | exact decide_eq_true (by omega) | exact decide_eq_false (by omega) | exact dec_notT (by omega) | exact dec_notF (by omega)) rfl ?_; refine act_call (f := 23) (by kernel_rfl) rfl (rfiles_c rfl rfl (HA.mono hS) (HB.mono hS)) ?_; rintro e w1 ⟨rfl, hb⟩; refine ⟨_, rfl, grow_trans hS hb, fun hS => ?_⟩)
      all_goals (refine at0 41 rfl (fun w' hq => pv_pick_f rfl rfl rfl) ?_)
      all_goals (refine at0 42 rfl (fun w' hq => pv_assign rfl) ?_)
      all_goals (refine aw_done (by kernel_rfl) ?_; replace hw := hS; clear hS hNP)
      repeat' (first | (refine is_cw ?_; first | (refine cw_ret ?_)) | (refine is_qw ?_; first | (with_reducible refine qw_then ?_)))
      exact qw_ret1 rfl rfl ⟨rfl, hw⟩
  · have hne : ¬ a = b := fun e => hc (by rw [e])
    rw [decide_eq_false hne]
    refine cw_drawn (fun w' => Below w.heap.size w w') (by kernel_rfl) (by repeat (first | exact NoPanic.body | with_reducible refine NoPanic.then ?_ | with_reducible refine NoPanic.inBlock ?_)) (fun hNP => ?_)
    have hS := hw.drew
    all_goals (refine at0 0 rfl (fun w' hq => pv_move rfl) ?_)
    all_goals (refine at0 1 rfl (fun w' hq => pv_nilp rfl) ?_)
    all_goals (refine at0 2 rfl (fun w' hq => pv_fa (tF rfl) rfl) ?_)
    all_goals (refine at0 3 rfl (fun w' hq => pv_load (t1 rfl) rfl (by first | exact PT.ld0 (H1.mono hq) rfl | exact PT.ld (H1.mono hq) rfl | exact PT.ld0 (H2.mono hq) rfl | exact PT.ld (H2.mono hq) rfl)) ?_)
    all_goals (refine at0 4 rfl (fun w' hq => pv_move rfl) ?_)
    all_goals (refine at0 5 rfl (fun w' hq => pv_nilp rfl) ?_)
    all_goals (refine at0 6 rfl (fun w' hq => pv_fa (tF rfl) rfl) ?_)
    all_goals (refine at0 7 rfl (fun w' hq => pv_load (t1 rfl) rfl (by first | exact PT.ld0 (H1.mono hq) rfl | exact PT.ld (H1.mono hq) rfl | exact PT.ld0 (H2.mono hq) rfl | exact PT.ld (H2.mono hq) rfl)) ?_)
    all_goals (refine at0 8 rfl (fun w' hq => pv_eql rfl rfl) ?_)
    all_goals (refine at0 9 rfl (fun w' hq => pv_move rfl) ?_)
    all_goals (refine an2 10 rfl rfl rfl ?_)
    all_goals (refine an2 11 rfl rfl rfl ?_)
    all_goals (refine an2 12 rfl rfl rfl ?_)
    all_goals (refine an2 13 rfl rfl rfl ?_)
    all_goals (refine an2 14 rfl rfl rfl ?_)
    all_goals (refine an2 15 rfl rfl rfl ?_)
    all_goals (refine an2 16 rfl rfl rfl ?_)
    all_goals (refine an2 17 rfl rfl rfl ?_)
    all_goals (refine an2 18 rfl rfl rfl ?_)
    all_goals (refine at0 19 rfl (fun w' hq => pv_pick_f rfl (by first | assumption | exact decide_eq_false (by omega) | exact dec_notF (by omega)) rfl) ?_)
    all_goals (refine at0 20 rfl (fun w' hq => pv_move rfl) ?_)
    all_goals (refine an1 21 rfl rfl rfl rfl ?_)
    all_goals (refine an1 22 rfl rfl rfl rfl ?_)
    all_goals (refine an1 23 rfl rfl rfl rfl ?_)
    all_goals (refine an1 24 rfl rfl rfl rfl ?_)
    all_goals (refine an1 25 rfl rfl rfl rfl ?_)
    all_goals (refine an1 26 rfl rfl rfl rfl ?_)
    all_goals (refine an1 27 rfl rfl rfl rfl ?_)
    all_goals (refine an1 28 rfl rfl rfl rfl ?_)
    all_goals (refine an1 29 rfl rfl rfl rfl ?_)
    all_goals (refine at0 30 rfl (fun w' hq => pv_pick_f rfl rfl rfl) ?_)
    all_goals (refine at0 31 rfl (fun w' hq => pv_move rfl) ?_)
    all_goals (refine an1 32 rfl rfl rfl rfl ?_)
    all_goals (refine an1 33 rfl rfl rfl rfl ?_)
    all_goals (refine an1 34 rfl rfl rfl rfl ?_)
    all_goals (refine an1 35 rfl rfl rfl rfl ?_)
    all_goals (refine an1 36 rfl rfl rfl rfl ?_)
    all_goals (refine an1 37 rfl rfl rfl rfl ?_)
    all_goals (refine an1 38 rfl rfl rfl rfl ?_)
    all_goals (refine an1 39 rfl rfl rfl rfl ?_)
    all_goals first | (refine an3 40 rfl rfl rfl ?_) | (refine an0 40 rfl rfl rfl ?_) | (refine aw_act_g 40 (by kernel_rfl) rfl rfl rfl (by first | rfl | assumption | exact decide_eq_true (by omega) | exact decide_eq_false (by omega) | exact dec_notT (by omega) | exact dec_notF (by omega)) rfl ?_; refine act_call (f := 23) (by kernel_rfl) rfl (rfiles_c rfl rfl (HA.mono hS) (HB.mono hS)) ?_; rintro e w1 ⟨rfl, hb⟩; refine ⟨_, rfl, grow_trans hS hb, fun hS => ?_⟩)
    all_goals (refine at0 41 rfl (fun w' hq => pv_pick_f rfl rfl rfl) ?_)
    all_goals (refine at0 42 rfl (fun w' hq => pv_assign rfl) ?_)
    all_goals (refine aw_done (by kernel_rfl) ?_; replace hw := hS; clear hS hNP)
    repeat' (first | (refine is_cw ?_; first | (refine cw_ret ?_)) | (refine is_qw ?_; first | (with_reducible refine qw_then ?_)))
    exact qw_ret1 rfl rfl ⟨rfl, hw⟩
def RLoaded (w w' : World) (cap : Int) (l : List Fil) (e : Ending) : Prop := ((loadD cap l).1 ≠ 0 ∧ e = .returned (.tuple #[.pointer none, .int .i64 (loadD cap l).1])) ∨ ((loadD cap l).1 = 0 ∧ ∃ N v, e = .returned (.tuple #[.pointer (some ⟨N, 0, none⟩), .int .i64 0]) ∧ w.heap.size ≤ N ∧ RkW w' w.heap.size N v ⟨l, cap, -1, false⟩)
set_option maxRecDepth 20000 in
set_option maxHeartbeats 2000000 in
theorem rload_c {l : List Fil} {cap : Int} {n : Nat} {a : Option Addr} {ca : Nat} {w : World} (hn : l.length = n) (hcap : cap ≤ 9223372036854775807) (hsz : ∀ f ∈ l, f.name.size ≤ 4611686018427387903 ∧ f.firm.size ≤ 4611686018427387903 ∧ f.pend.size ≤ 4611686018427387903) (HS : SlR encF 3 w a ca l) : Calls Tryd.prog 22 #[.int .i64 cap, .slice a n ca] w fun e w' => RLoaded w w' cap l e ∧ Below w.heap.size w w' := by
  subst hn
  have hle := HS.le
  have hmx := HS.max
  have hw := Below.refl w.heap.size w
  refine fn_enter 76 Tryd.func22 rfl rfl rfl ?_
  by_cases hc : cap < 0
  · have e1 : (loadD cap l).1 = 1 := by unfold loadD; rw [if_pos hc]
    repeat' (first | (refine lw_pure rfl (pv_move rfl) ?_) | (refine lw_pure rfl (pv_assign rfl) ?_) | (refine is_cw ?_; first | (refine cw_seq ?_) | (refine cw_region ?_) | (refine cw_true rfl (by first | assumption | exact decide_eq_true (by omega) | exact dec_notT (by omega)) ?_) | (refine cw_ret ?_)) | (refine is_qw ?_; first | (with_reducible refine qw_then ?_) | (with_reducible refine qw_then_ret ?_)) | (refine lw_nil ?_) | ((refine is_bin ?_; first | (refine lw_pure rfl (pv_lss rfl rfl) ?_))))
    exact qw_ret2 rfl rfl rfl ⟨Or.inl ⟨by rw [e1]; decide, by rw [e1]⟩, hw⟩
  · repeat' (first | (refine lw_pure rfl (pv_move rfl) ?_) | (refine lw_pure rfl (pv_assign rfl) ?_) | (refine is_cw ?_; first | (refine cw_seq ?_) | (refine cw_region ?_) | (refine cw_false rfl (by first | assumption | exact decide_eq_false (by omega) | exact dec_notF (by omega)) ?_) | (refine cw_skip ?_) | (refine cw_block ?_)) | (refine is_qw ?_; first | (with_reducible refine qw_then ?_)) | (refine lw_nil ?_) | ((refine is_bin ?_; first | (refine lw_pure rfl (pv_lss rfl rfl) ?_))))
    refine cw_loop (σ := Nat × ByteArray × Nat) (fun s => [(0, .int .i64 cap), (1, .slice a l.length ca), (6, .int .i64 (s.2.2 : Nat)), (7, .int .i64 (s.1 : Nat))]) (fun s wr => s.1 ≤ l.length ∧ Below w.heap.size w wr ∧ Good l s.1 s.2.1 ∧ s.2.2 = usedF (l.take s.1)) (fun s => l.length - s.1) (0, emptyB, 0) (by repeat' (first | exact trivial | refine ⟨rfl, ?_⟩)) ⟨Nat.zero_le _, hw, ⟨List.Pairwise.nil, fun f hf => (by simp at hf), fun f hf => (by simp at hf), fun h => absurd h (Nat.lt_irrefl _), Or.inl ⟨rfl, rfl⟩⟩, rfl⟩ ?_
    clear hw
    rintro ⟨k, last, n⟩ wr ⟨hk, hw, hgd, hn⟩
    replace hk : k ≤ l.length := hk
    replace hgd : Good l k last := hgd
    replace hn : n = usedF (l.take k) := hn
    change CW Tryd.prog _ _ _ [(0, .int .i64 cap), (1, .slice a l.length ca), (6, .int .i64 (n : Nat)), (7, .int .i64 (k : Nat))] wr
    have hnb : n ≤ 64 * 1048576 := by
      by_cases h0 : 0 < k
      · have h1 := used_le hgd.sizes
        have h2 := hgd.cnt h0
        have h3 : (l.take k).length ≤ 64 := by rw [List.length_take]; omega
        have h4 : (l.take k).length * 1048576 ≤ 64 * 1048576 := Nat.mul_le_mul_right _ h3
        omega
      · have h1 : k = 0 := by omega
        subst h1
        rw [hn]
        exact Nat.zero_le _
    by_cases hlt : k < l.length
    · have hxk : l[k]? = some l[k] := List.getElem?_eq_getElem hlt
      generalize l[k] = f at hxk
      have hfm := List.mem_of_getElem? hxk
      obtain ⟨hz1, hz2, hz3⟩ := hsz f hfm
      have hzf : szF f = f.firm.size + f.pend.size := rfl
      have hut := usedT hxk
      have hnz : f.name.size ≤ 9223372036854775807 := by omega
      obtain ⟨ab, ao, rfl, -, -⟩ := HS.at (by intro h; rw [h] at hlt; simp at hlt)
      repeat' (first | (refine lw_pure rfl (pv_move rfl) ?_) | (refine is_cw ?_; first | (refine cw_seq ?_) | (refine cw_region ?_) | (refine cw_true rfl (by first | assumption | exact decide_eq_true (by omega) | exact dec_notT (by omega)) ?_) | (refine cw_skip ?_) | (refine cw_block ?_)) | (refine is_qw ?_; first | (with_reducible refine qw_then ?_)) | (refine lw_nil ?_) | ((refine is_bin ?_; first | (refine lw_pure rfl (pv_lss rfl rfl) ?_))) | ((refine is_bi ?_; first | (refine lw_pure rfl (pv_lenl (tS rfl) rfl) ?_))))
      refine cw_drawn (fun w' => Below w.heap.size w w') (by kernel_rfl) (by repeat (first | exact NoPanic.body | with_reducible refine NoPanic.then ?_ | with_reducible refine NoPanic.inBlock ?_)) (fun hNP => ?_)
      have hS := hw.drew
      all_goals (refine at0 0 rfl (fun w' hq => pv_move rfl) ?_)
      all_goals (refine at0 1 rfl (fun w' hq => pv_move rfl) ?_)
      all_goals (refine at0 2 rfl (fun w' hq => pv_ian (tS rfl) rfl rfl (by omega)) ?_)
      all_goals (refine at0 3 rfl (fun w' hq => pv_fa (tF rfl) rfl) ?_)
      all_goals (refine at0 4 rfl (fun w' hq => pv_load (t1 rfl) rfl (by first | exact SlR.ld (HS.mono hq) hxk rfl | exact SlR.ld1 (HS.mono hq) hxk rfl)) ?_)
      all_goals (refine at0 5 rfl (fun w' hq => pv_lens (tStr rfl) rfl) ?_)
      all_goals (refine at0 6 rfl (fun w' hq => pv_move rfl) ?_)
      all_goals (refine at0 7 rfl (fun w' hq => pv_move rfl) ?_)
      all_goals (refine at0 8 rfl (fun w' hq => pv_ian (tS rfl) rfl rfl (by omega)) ?_)
      all_goals (refine at0 9 rfl (fun w' hq => pv_fa (tF rfl) rfl) ?_)
      all_goals (refine at0 10 rfl (fun w' hq => pv_load (t1 rfl) rfl (by first | exact SlR.ld (HS.mono hq) hxk rfl | exact SlR.ld1 (HS.mono hq) hxk rfl)) ?_)
      all_goals (refine at0 11 rfl (fun w' hq => pv_lens (tStr rfl) rfl) ?_)
      all_goals (refine at0 12 rfl (fun w' hq => pv_add rfl rfl (by omega)) ?_)
      all_goals (refine at0 13 rfl (fun w' hq => pv_assign rfl) ?_)
      all_goals (refine aw_done (by kernel_rfl) ?_; replace hw := hS; clear hS hNP)
      repeat' (first | (refine is_cw ?_; first | (refine cw_seq ?_)) | (refine is_qw ?_; first | (with_reducible refine qw_then ?_)))
      cases hq : nameF f.name with
      | false =>
        have e4 : (loadD cap l).1 = 4 := by unfold loadD; rw [if_neg hc, if_pos (badF_name hfm hq)]
        refine cw_drawn (fun w' => Below w.heap.size w w') (by kernel_rfl) (by repeat (first | exact NoPanic.body | with_reducible refine NoPanic.then ?_ | with_reducible refine NoPanic.inBlock ?_)) (fun hNP => ?_)
        have hS := hw.drew
        all_goals (refine at0 0 rfl (fun w' hq => pv_move rfl) ?_)
        all_goals (refine at0 1 rfl (fun w' hq => pv_move rfl) ?_)
        all_goals (refine at0 2 rfl (fun w' hq => pv_ian (tS rfl) rfl rfl (by omega)) ?_)
        all_goals (refine at0 3 rfl (fun w' hq => pv_fa (tF rfl) rfl) ?_)
        all_goals (refine at0 4 rfl (fun w' hq => pv_load (t1 rfl) rfl (by first | exact SlR.ld (HS.mono hq) hxk rfl | exact SlR.ld1 (HS.mono hq) hxk rfl)) ?_)
        all_goals (refine aw_act 5 (by kernel_rfl) rfl rfl rfl ?_; refine act_call (f := 24) (by kernel_rfl) rfl (rname_is hnz hq _) ?_; rintro e w1 ⟨rfl, hb⟩; refine ⟨_, rfl, grow_trans hS hb, fun hS => ?_⟩)
        all_goals (refine at0 6 rfl (fun w' hq => pv_not rfl) ?_)
        all_goals (refine at0 7 rfl (fun w' hq => pv_move rfl) ?_)
        all_goals (refine an1 8 rfl rfl rfl rfl ?_)
        all_goals (refine an1 9 rfl rfl rfl rfl ?_)
        all_goals (refine an1 10 rfl rfl rfl rfl ?_)
        all_goals (refine an0 11 rfl rfl rfl ?_)
        all_goals (refine an0 12 rfl rfl rfl ?_)
        all_goals (refine an0 13 rfl rfl rfl ?_)
        all_goals (refine an0 14 rfl rfl rfl ?_)
        all_goals (refine an0 15 rfl rfl rfl ?_)
        all_goals (refine an0 16 rfl rfl rfl ?_)
        all_goals (refine an0 17 rfl rfl rfl ?_)
        all_goals (refine an0 18 rfl rfl rfl ?_)
        all_goals (refine an0 19 rfl rfl rfl ?_)
        all_goals (refine an0 20 rfl rfl rfl ?_)
        all_goals (refine an0 21 rfl rfl rfl ?_)
        all_goals (refine an0 22 rfl rfl rfl ?_)
        all_goals (refine an1 23 rfl rfl rfl rfl ?_)
        all_goals (refine at0 24 rfl (fun w' hq => pv_pick_t rfl rfl rfl) ?_)
        all_goals (refine at0 25 rfl (fun w' hq => pv_move rfl) ?_)
        all_goals (refine an1 26 rfl rfl rfl rfl ?_)
        all_goals (refine an1 27 rfl rfl rfl rfl ?_)
        all_goals (refine at0 28 rfl (fun w' hq => pv_pick_t rfl rfl rfl) ?_)
        all_goals (refine at0 29 rfl (fun w' hq => pv_move rfl) ?_)
        all_goals (refine an1 30 rfl rfl rfl rfl ?_)
        all_goals (refine an1 31 rfl rfl rfl rfl ?_)
        all_goals (refine an1 32 rfl rfl rfl rfl ?_)
        all_goals (refine at0 33 rfl (fun w' hq => pv_pick_t rfl rfl rfl) ?_)
        all_goals (refine aw_done (by kernel_rfl) ?_; replace hw := hS; clear hS hNP)
        repeat' (first | (refine lw_pure rfl (pv_assign rfl) ?_) | (refine is_cw ?_; first | (refine cw_seq ?_) | (refine cw_region ?_) | (refine cw_true rfl rfl ?_) | (refine cw_ret ?_)) | (refine is_qw ?_; first | (with_reducible refine qw_then ?_) | (with_reducible refine qw_then_ret ?_) | (with_reducible refine qw_in_ret ?_)) | (refine lw_nil ?_))
        exact qw_ret2 rfl rfl rfl ⟨Or.inl ⟨by rw [e4]; decide, by rw [e4]⟩, hw⟩
      | true =>
        rcases hgd.last with ⟨hk0, hl0⟩ | ⟨i, g, hki, hgi, hl0⟩
        · have hk0' : k = 0 := hk0
          have hlast : ltN last f.name := by rw [hl0]; exact nameF_ne hq
          by_cases hs : 1048576 < szF f
          · have e4 : (loadD cap l).1 = 4 := by unfold loadD; rw [if_neg hc, if_pos (badF_size hfm hs)]
            refine cw_drawn (fun w' => Below w.heap.size w w') (by kernel_rfl) (by repeat (first | exact NoPanic.body | with_reducible refine NoPanic.then ?_ | with_reducible refine NoPanic.inBlock ?_)) (fun hNP => ?_)
            have hS := hw.drew
            all_goals (refine at0 0 rfl (fun w' hq => pv_move rfl) ?_)
            all_goals (refine at0 1 rfl (fun w' hq => pv_move rfl) ?_)
            all_goals (refine at0 2 rfl (fun w' hq => pv_ian (tS rfl) rfl rfl (by omega)) ?_)
            all_goals (refine at0 3 rfl (fun w' hq => pv_fa (tF rfl) rfl) ?_)
            all_goals (refine at0 4 rfl (fun w' hq => pv_load (t1 rfl) rfl (by first | exact SlR.ld (HS.mono hq) hxk rfl | exact SlR.ld1 (HS.mono hq) hxk rfl)) ?_)
            all_goals (refine aw_act 5 (by kernel_rfl) rfl rfl rfl ?_; refine act_call (f := 24) (by kernel_rfl) rfl (rname_is hnz hq _) ?_; rintro e w1 ⟨rfl, hb⟩; refine ⟨_, rfl, grow_trans hS hb, fun hS => ?_⟩)
            all_goals (refine at0 6 rfl (fun w' hq => pv_not rfl) ?_)
            all_goals (refine at0 7 rfl (fun w' hq => pv_move rfl) ?_)
            all_goals (refine at1 8 rfl rfl rfl rfl (fun w' hq => pv_move rfl) ?_)
            all_goals (refine at1 9 rfl rfl rfl rfl (fun w' hq => pv_gtr rfl rfl) ?_)
            all_goals (refine at1 10 rfl rfl rfl rfl (fun w' hq => pv_move rfl) ?_)
            all_goals (refine an2 11 rfl rfl rfl ?_)
            all_goals (refine an2 12 rfl rfl rfl ?_)
            all_goals (refine an2 13 rfl rfl rfl ?_)
            all_goals (refine an2 14 rfl rfl rfl ?_)
            all_goals (refine an2 15 rfl rfl rfl ?_)
            all_goals (refine an2 16 rfl rfl rfl ?_)
            all_goals (refine an2 17 rfl rfl rfl ?_)
            all_goals (refine an2 18 rfl rfl rfl ?_)
            all_goals (refine an2 19 rfl rfl rfl ?_)
            all_goals (refine an2 20 rfl rfl rfl ?_)
            all_goals (refine an2 21 rfl rfl rfl ?_)
            all_goals (refine an2 22 rfl rfl rfl ?_)
            all_goals (refine at1 23 rfl rfl rfl rfl (fun w' hq => pv_pick_f rfl (by first | assumption | exact decide_eq_false (by omega) | exact dec_notF (by omega)) rfl) ?_)
            all_goals (refine at0 24 rfl (fun w' hq => pv_pick_f rfl rfl rfl) ?_)
            all_goals (refine at0 25 rfl (fun w' hq => pv_move rfl) ?_)
            all_goals (refine at1 26 rfl rfl rfl rfl (fun w' hq => pv_move rfl) ?_)
            all_goals (refine at1 27 rfl rfl rfl rfl (fun w' hq => pv_gtr rfl rfl) ?_)
            all_goals (refine at0 28 rfl (fun w' hq => pv_pick_f rfl rfl rfl) ?_)
            all_goals (refine at0 29 rfl (fun w' hq => pv_move rfl) ?_)
            all_goals (refine an2 30 rfl rfl rfl ?_)
            all_goals (refine an2 31 rfl rfl rfl ?_)
            all_goals (refine an2 32 rfl rfl rfl ?_)
            all_goals (refine at0 33 rfl (fun w' hq => pv_pick_t rfl (by first | assumption | exact decide_eq_true (by omega) | exact dec_notT (by omega)) rfl) ?_)
            all_goals (refine aw_done (by kernel_rfl) ?_; replace hw := hS; clear hS hNP)
            repeat' (first | (refine lw_pure rfl (pv_assign rfl) ?_) | (refine is_cw ?_; first | (refine cw_seq ?_) | (refine cw_region ?_) | (refine cw_true rfl rfl ?_) | (refine cw_ret ?_)) | (refine is_qw ?_; first | (with_reducible refine qw_then ?_) | (with_reducible refine qw_then_ret ?_) | (with_reducible refine qw_in_ret ?_)) | (refine lw_nil ?_))
            exact qw_ret2 rfl rfl rfl ⟨Or.inl ⟨by rw [e4]; decide, by rw [e4]⟩, hw⟩
          · by_cases h64 : 64 < l.length
            · have e4 : (loadD cap l).1 = 4 := by unfold loadD; rw [if_neg hc, if_pos (badF_len h64)]
              refine cw_drawn (fun w' => Below w.heap.size w w') (by kernel_rfl) (by repeat (first | exact NoPanic.body | with_reducible refine NoPanic.then ?_ | with_reducible refine NoPanic.inBlock ?_)) (fun hNP => ?_)
              have hS := hw.drew
              all_goals (refine at0 0 rfl (fun w' hq => pv_move rfl) ?_)
              all_goals (refine at0 1 rfl (fun w' hq => pv_move rfl) ?_)
              all_goals (refine at0 2 rfl (fun w' hq => pv_ian (tS rfl) rfl rfl (by omega)) ?_)
              all_goals (refine at0 3 rfl (fun w' hq => pv_fa (tF rfl) rfl) ?_)
              all_goals (refine at0 4 rfl (fun w' hq => pv_load (t1 rfl) rfl (by first | exact SlR.ld (HS.mono hq) hxk rfl | exact SlR.ld1 (HS.mono hq) hxk rfl)) ?_)
              all_goals (refine aw_act 5 (by kernel_rfl) rfl rfl rfl ?_; refine act_call (f := 24) (by kernel_rfl) rfl (rname_is hnz hq _) ?_; rintro e w1 ⟨rfl, hb⟩; refine ⟨_, rfl, grow_trans hS hb, fun hS => ?_⟩)
              all_goals (refine at0 6 rfl (fun w' hq => pv_not rfl) ?_)
              all_goals (refine at0 7 rfl (fun w' hq => pv_move rfl) ?_)
              all_goals (refine at1 8 rfl rfl rfl rfl (fun w' hq => pv_move rfl) ?_)
              all_goals (refine at1 9 rfl rfl rfl rfl (fun w' hq => pv_gtr rfl rfl) ?_)
              all_goals (refine at1 10 rfl rfl rfl rfl (fun w' hq => pv_move rfl) ?_)
              all_goals (refine an2 11 rfl rfl rfl ?_)
              all_goals (refine an2 12 rfl rfl rfl ?_)
              all_goals (refine an2 13 rfl rfl rfl ?_)
              all_goals (refine an2 14 rfl rfl rfl ?_)
              all_goals (refine an2 15 rfl rfl rfl ?_)
              all_goals (refine an2 16 rfl rfl rfl ?_)
              all_goals (refine an2 17 rfl rfl rfl ?_)
              all_goals (refine an2 18 rfl rfl rfl ?_)
              all_goals (refine an2 19 rfl rfl rfl ?_)
              all_goals (refine an2 20 rfl rfl rfl ?_)
              all_goals (refine an2 21 rfl rfl rfl ?_)
              all_goals (refine an2 22 rfl rfl rfl ?_)
              all_goals (refine at1 23 rfl rfl rfl rfl (fun w' hq => pv_pick_f rfl (by first | assumption | exact decide_eq_false (by omega) | exact dec_notF (by omega)) rfl) ?_)
              all_goals (refine at0 24 rfl (fun w' hq => pv_pick_f rfl rfl rfl) ?_)
              all_goals (refine at0 25 rfl (fun w' hq => pv_move rfl) ?_)
              all_goals (refine at1 26 rfl rfl rfl rfl (fun w' hq => pv_move rfl) ?_)
              all_goals (refine at1 27 rfl rfl rfl rfl (fun w' hq => pv_gtr rfl rfl) ?_)
              all_goals (refine at0 28 rfl (fun w' hq => pv_pick_f rfl rfl rfl) ?_)
              all_goals (refine at0 29 rfl (fun w' hq => pv_move rfl) ?_)
              all_goals (refine at2 30 rfl rfl rfl (fun w' hq => pv_move rfl) ?_)
              all_goals (refine at2 31 rfl rfl rfl (fun w' hq => pv_lenl (tS rfl) rfl) ?_)
              all_goals (refine at2 32 rfl rfl rfl (fun w' hq => pv_gtr rfl rfl) ?_)
              all_goals (refine at0 33 rfl (fun w' hq => pv_pick_f rfl (by first | assumption | exact decide_eq_false (by omega) | exact dec_notF (by omega)) rfl) ?_)
              all_goals (refine aw_done (by kernel_rfl) ?_; replace hw := hS; clear hS hNP)
              repeat' (first | (refine lw_pure rfl (pv_assign rfl) ?_) | (refine is_cw ?_; first | (refine cw_seq ?_) | (refine cw_region ?_) | (refine cw_true rfl (by first | assumption | exact decide_eq_true (by omega) | exact dec_notT (by omega)) ?_) | (refine cw_ret ?_)) | (refine is_qw ?_; first | (with_reducible refine qw_then ?_) | (with_reducible refine qw_then_ret ?_) | (with_reducible refine qw_in_ret ?_)) | (refine lw_nil ?_))
              exact qw_ret2 rfl rfl rfl ⟨Or.inl ⟨by rw [e4]; decide, by rw [e4]⟩, hw⟩
            · skip
              refine cw_drawn (fun w' => Below w.heap.size w w') (by kernel_rfl) (by repeat (first | exact NoPanic.body | with_reducible refine NoPanic.then ?_ | with_reducible refine NoPanic.inBlock ?_)) (fun hNP => ?_)
              have hS := hw.drew
              all_goals (refine at0 0 rfl (fun w' hq => pv_move rfl) ?_)
              all_goals (refine at0 1 rfl (fun w' hq => pv_move rfl) ?_)
              all_goals (refine at0 2 rfl (fun w' hq => pv_ian (tS rfl) rfl rfl (by omega)) ?_)
              all_goals (refine at0 3 rfl (fun w' hq => pv_fa (tF rfl) rfl) ?_)
              all_goals (refine at0 4 rfl (fun w' hq => pv_load (t1 rfl) rfl (by first | exact SlR.ld (HS.mono hq) hxk rfl | exact SlR.ld1 (HS.mono hq) hxk rfl)) ?_)
              all_goals (refine aw_act 5 (by kernel_rfl) rfl rfl rfl ?_; refine act_call (f := 24) (by kernel_rfl) rfl (rname_is hnz hq _) ?_; rintro e w1 ⟨rfl, hb⟩; refine ⟨_, rfl, grow_trans hS hb, fun hS => ?_⟩)
              all_goals (refine at0 6 rfl (fun w' hq => pv_not rfl) ?_)
              all_goals (refine at0 7 rfl (fun w' hq => pv_move rfl) ?_)
              all_goals (refine at1 8 rfl rfl rfl rfl (fun w' hq => pv_move rfl) ?_)
              all_goals (refine at1 9 rfl rfl rfl rfl (fun w' hq => pv_gtr rfl rfl) ?_)
              all_goals (refine at1 10 rfl rfl rfl rfl (fun w' hq => pv_move rfl) ?_)
              all_goals (refine an2 11 rfl rfl rfl ?_)
              all_goals (refine an2 12 rfl rfl rfl ?_)
              all_goals (refine an2 13 rfl rfl rfl ?_)
              all_goals (refine an2 14 rfl rfl rfl ?_)
              all_goals (refine an2 15 rfl rfl rfl ?_)
              all_goals (refine an2 16 rfl rfl rfl ?_)
              all_goals (refine an2 17 rfl rfl rfl ?_)
              all_goals (refine an2 18 rfl rfl rfl ?_)
              all_goals (refine an2 19 rfl rfl rfl ?_)
              all_goals (refine an2 20 rfl rfl rfl ?_)
              all_goals (refine an2 21 rfl rfl rfl ?_)
              all_goals (refine an2 22 rfl rfl rfl ?_)
              all_goals (refine at1 23 rfl rfl rfl rfl (fun w' hq => pv_pick_f rfl (by first | assumption | exact decide_eq_false (by omega) | exact dec_notF (by omega)) rfl) ?_)
              all_goals (refine at0 24 rfl (fun w' hq => pv_pick_f rfl rfl rfl) ?_)
              all_goals (refine at0 25 rfl (fun w' hq => pv_move rfl) ?_)
              all_goals (refine at1 26 rfl rfl rfl rfl (fun w' hq => pv_move rfl) ?_)
              all_goals (refine at1 27 rfl rfl rfl rfl (fun w' hq => pv_gtr rfl rfl) ?_)
              all_goals (refine at0 28 rfl (fun w' hq => pv_pick_f rfl rfl rfl) ?_)
              all_goals (refine at0 29 rfl (fun w' hq => pv_move rfl) ?_)
              all_goals (refine at2 30 rfl rfl rfl (fun w' hq => pv_move rfl) ?_)
              all_goals (refine at2 31 rfl rfl rfl (fun w' hq => pv_lenl (tS rfl) rfl) ?_)
              all_goals (refine at2 32 rfl rfl rfl (fun w' hq => pv_gtr rfl rfl) ?_)
              all_goals (refine at0 33 rfl (fun w' hq => pv_pick_f rfl (by first | assumption | exact decide_eq_false (by omega) | exact dec_notF (by omega)) rfl) ?_)
              all_goals (refine aw_done (by kernel_rfl) ?_; replace hw := hS; clear hS hNP)
              have hgd2 := (hgd.step hxk hq hlast (by omega) (by omega)).1
              repeat' (first | (refine lw_pure rfl (pv_move rfl) ?_) | (refine lw_pure rfl (pv_assign rfl) ?_) | (refine is_cw ?_; first | (refine cw_region ?_) | (refine cw_false rfl (by first | assumption | exact decide_eq_false (by omega) | exact dec_notF (by omega)) ?_) | (refine cw_skip ?_)) | (refine is_qw ?_; first | (with_reducible refine qw_then ?_) | (with_reducible refine qw_in ?_)) | (refine lw_nil ?_) | ((refine is_bin ?_; first | (refine lw_pure rfl (pv_inc rfl rfl (by omega)) ?_) | (refine lw_pure rfl (pv_add rfl rfl (by omega)) ?_))))
              exact qw_round (k + 1, f.name, n + (f.firm.size + f.pend.size)) (by repeat' (first | exact trivial | refine ⟨rfl, ?_⟩)) ⟨by show k + 1 ≤ _; omega, hw, hgd2, by show n + (f.firm.size + f.pend.size) = usedF (l.take (k + 1)); omega⟩ (by show l.length - (k + 1) < l.length - k; omega)
        · subst hki
          by_cases hlast : ltN last f.name
          · have hE : decide (¬ ltN g.name f.name) = false := decide_eq_false (fun h => h (hl0 ▸ hlast))
            by_cases hs : 1048576 < szF f
            · have e4 : (loadD cap l).1 = 4 := by unfold loadD; rw [if_neg hc, if_pos (badF_size hfm hs)]
              refine cw_drawn (fun w' => Below w.heap.size w w') (by kernel_rfl) (by repeat (first | exact NoPanic.body | with_reducible refine NoPanic.then ?_ | with_reducible refine NoPanic.inBlock ?_)) (fun hNP => ?_)
              have hS := hw.drew
              all_goals (refine at0 0 rfl (fun w' hq => pv_move rfl) ?_)
              all_goals (refine at0 1 rfl (fun w' hq => pv_move rfl) ?_)
              all_goals (refine at0 2 rfl (fun w' hq => pv_ian (tS rfl) rfl rfl (by omega)) ?_)
              all_goals (refine at0 3 rfl (fun w' hq => pv_fa (tF rfl) rfl) ?_)
              all_goals (refine at0 4 rfl (fun w' hq => pv_load (t1 rfl) rfl (by first | exact SlR.ld (HS.mono hq) hxk rfl | exact SlR.ld1 (HS.mono hq) hxk rfl | exact SlR.ld (HS.mono hq) hgi rfl | exact SlR.ld1 (HS.mono hq) hgi rfl)) ?_)
              all_goals (refine aw_act 5 (by kernel_rfl) rfl rfl rfl ?_; refine act_call (f := 24) (by kernel_rfl) rfl (rname_is hnz hq _) ?_; rintro e w1 ⟨rfl, hb⟩; refine ⟨_, rfl, grow_trans hS hb, fun hS => ?_⟩)
              all_goals (refine at0 6 rfl (fun w' hq => pv_not rfl) ?_)
              all_goals (refine at0 7 rfl (fun w' hq => pv_move rfl) ?_)
              all_goals (refine at1 8 rfl rfl rfl rfl (fun w' hq => pv_move rfl) ?_)
              all_goals (refine at1 9 rfl rfl rfl rfl (fun w' hq => pv_gtr rfl rfl) ?_)
              all_goals (refine at1 10 rfl rfl rfl rfl (fun w' hq => pv_move rfl) ?_)
              all_goals (refine at2 11 rfl rfl rfl (fun w' hq => pv_move rfl) ?_)
              all_goals (refine at2 12 rfl rfl rfl (fun w' hq => pv_move rfl) ?_)
              all_goals (refine at2 13 rfl rfl rfl (fun w' hq => pv_ian (tS rfl) rfl rfl (by omega)) ?_)
              all_goals (refine at2 14 rfl rfl rfl (fun w' hq => pv_fa (tF rfl) rfl) ?_)
              all_goals (refine at2 15 rfl rfl rfl (fun w' hq => pv_load (t1 rfl) rfl (by first | exact SlR.ld (HS.mono hq) hxk rfl | exact SlR.ld1 (HS.mono hq) hxk rfl | exact SlR.ld (HS.mono hq) hgi rfl | exact SlR.ld1 (HS.mono hq) hgi rfl)) ?_)
              all_goals (refine at2 16 rfl rfl rfl (fun w' hq => pv_move rfl) ?_)
              all_goals (refine at2 17 rfl rfl rfl (fun w' hq => pv_move rfl) ?_)
              all_goals (refine at2 18 rfl rfl rfl (fun w' hq => pv_predn rfl rfl (by omega)) ?_)
              all_goals (refine at2 19 rfl rfl rfl (fun w' hq => pv_ian (tS rfl) rfl rfl (by omega)) ?_)
              all_goals (refine at2 20 rfl rfl rfl (fun w' hq => pv_fa (tF rfl) rfl) ?_)
              all_goals (refine at2 21 rfl rfl rfl (fun w' hq => pv_load (t1 rfl) rfl (by first | exact SlR.ld (HS.mono hq) hxk rfl | exact SlR.ld1 (HS.mono hq) hxk rfl | exact SlR.ld (HS.mono hq) hgi rfl | exact SlR.ld1 (HS.mono hq) hgi rfl)) ?_)
              all_goals (refine at2 22 rfl rfl rfl (fun w' hq => pv_sleq rfl rfl) ?_)
              all_goals (refine at1 23 rfl rfl rfl rfl (fun w' hq => pv_pick_t rfl (by first | assumption | exact decide_eq_true (by omega) | exact dec_notT (by omega)) rfl) ?_)
              all_goals (refine at0 24 rfl (fun w' hq => pv_pick_f rfl rfl rfl) ?_)
              all_goals (refine at0 25 rfl (fun w' hq => pv_move rfl) ?_)
              all_goals (refine at2 26 rfl rfl rfl (fun w' hq => pv_move rfl) ?_)
              all_goals (refine at2 27 rfl rfl rfl (fun w' hq => pv_gtr rfl rfl) ?_)
              all_goals (refine at0 28 rfl (fun w' hq => pv_pick_f rfl (by first | assumption | exact decide_eq_false (by omega) | exact dec_notF (by omega)) rfl) ?_)
              all_goals (refine at0 29 rfl (fun w' hq => pv_move rfl) ?_)
              all_goals (refine an2 30 rfl rfl rfl ?_)
              all_goals (refine an2 31 rfl rfl rfl ?_)
              all_goals (refine an2 32 rfl rfl rfl ?_)
              all_goals (refine at0 33 rfl (fun w' hq => pv_pick_t rfl (by first | assumption | exact decide_eq_true (by omega) | exact dec_notT (by omega)) rfl) ?_)
              all_goals (refine aw_done (by kernel_rfl) ?_; replace hw := hS; clear hS hNP)
              repeat' (first | (refine lw_pure rfl (pv_assign rfl) ?_) | (refine is_cw ?_; first | (refine cw_seq ?_) | (refine cw_region ?_) | (refine cw_true rfl rfl ?_) | (refine cw_ret ?_)) | (refine is_qw ?_; first | (with_reducible refine qw_then ?_) | (with_reducible refine qw_then_ret ?_) | (with_reducible refine qw_in_ret ?_)) | (refine lw_nil ?_))
              exact qw_ret2 rfl rfl rfl ⟨Or.inl ⟨by rw [e4]; decide, by rw [e4]⟩, hw⟩
            · by_cases h64 : 64 < l.length
              · have e4 : (loadD cap l).1 = 4 := by unfold loadD; rw [if_neg hc, if_pos (badF_len h64)]
                refine cw_drawn (fun w' => Below w.heap.size w w') (by kernel_rfl) (by repeat (first | exact NoPanic.body | with_reducible refine NoPanic.then ?_ | with_reducible refine NoPanic.inBlock ?_)) (fun hNP => ?_)
                have hS := hw.drew
                all_goals (refine at0 0 rfl (fun w' hq => pv_move rfl) ?_)
                all_goals (refine at0 1 rfl (fun w' hq => pv_move rfl) ?_)
                all_goals (refine at0 2 rfl (fun w' hq => pv_ian (tS rfl) rfl rfl (by omega)) ?_)
                all_goals (refine at0 3 rfl (fun w' hq => pv_fa (tF rfl) rfl) ?_)
                all_goals (refine at0 4 rfl (fun w' hq => pv_load (t1 rfl) rfl (by first | exact SlR.ld (HS.mono hq) hxk rfl | exact SlR.ld1 (HS.mono hq) hxk rfl | exact SlR.ld (HS.mono hq) hgi rfl | exact SlR.ld1 (HS.mono hq) hgi rfl)) ?_)
                all_goals (refine aw_act 5 (by kernel_rfl) rfl rfl rfl ?_; refine act_call (f := 24) (by kernel_rfl) rfl (rname_is hnz hq _) ?_; rintro e w1 ⟨rfl, hb⟩; refine ⟨_, rfl, grow_trans hS hb, fun hS => ?_⟩)
                all_goals (refine at0 6 rfl (fun w' hq => pv_not rfl) ?_)
                all_goals (refine at0 7 rfl (fun w' hq => pv_move rfl) ?_)
                all_goals (refine at1 8 rfl rfl rfl rfl (fun w' hq => pv_move rfl) ?_)
                all_goals (refine at1 9 rfl rfl rfl rfl (fun w' hq => pv_gtr rfl rfl) ?_)
                all_goals (refine at1 10 rfl rfl rfl rfl (fun w' hq => pv_move rfl) ?_)
                all_goals (refine at2 11 rfl rfl rfl (fun w' hq => pv_move rfl) ?_)
                all_goals (refine at2 12 rfl rfl rfl (fun w' hq => pv_move rfl) ?_)
                all_goals (refine at2 13 rfl rfl rfl (fun w' hq => pv_ian (tS rfl) rfl rfl (by omega)) ?_)
                all_goals (refine at2 14 rfl rfl rfl (fun w' hq => pv_fa (tF rfl) rfl) ?_)
                all_goals (refine at2 15 rfl rfl rfl (fun w' hq => pv_load (t1 rfl) rfl (by first | exact SlR.ld (HS.mono hq) hxk rfl | exact SlR.ld1 (HS.mono hq) hxk rfl | exact SlR.ld (HS.mono hq) hgi rfl | exact SlR.ld1 (HS.mono hq) hgi rfl)) ?_)
                all_goals (refine at2 16 rfl rfl rfl (fun w' hq => pv_move rfl) ?_)
                all_goals (refine at2 17 rfl rfl rfl (fun w' hq => pv_move rfl) ?_)
                all_goals (refine at2 18 rfl rfl rfl (fun w' hq => pv_predn rfl rfl (by omega)) ?_)
                all_goals (refine at2 19 rfl rfl rfl (fun w' hq => pv_ian (tS rfl) rfl rfl (by omega)) ?_)
                all_goals (refine at2 20 rfl rfl rfl (fun w' hq => pv_fa (tF rfl) rfl) ?_)
                all_goals (refine at2 21 rfl rfl rfl (fun w' hq => pv_load (t1 rfl) rfl (by first | exact SlR.ld (HS.mono hq) hxk rfl | exact SlR.ld1 (HS.mono hq) hxk rfl | exact SlR.ld (HS.mono hq) hgi rfl | exact SlR.ld1 (HS.mono hq) hgi rfl)) ?_)
                all_goals (refine at2 22 rfl rfl rfl (fun w' hq => pv_sleq rfl rfl) ?_)
                all_goals (refine at1 23 rfl rfl rfl rfl (fun w' hq => pv_pick_t rfl (by first | assumption | exact decide_eq_true (by omega) | exact dec_notT (by omega)) rfl) ?_)
                all_goals (refine at0 24 rfl (fun w' hq => pv_pick_f rfl rfl rfl) ?_)
                all_goals (refine at0 25 rfl (fun w' hq => pv_move rfl) ?_)
                all_goals (refine at2 26 rfl rfl rfl (fun w' hq => pv_move rfl) ?_)
                all_goals (refine at2 27 rfl rfl rfl (fun w' hq => pv_gtr rfl rfl) ?_)
                all_goals (refine at0 28 rfl (fun w' hq => pv_pick_f rfl (by first | assumption | exact decide_eq_false (by omega) | exact dec_notF (by omega)) rfl) ?_)
                all_goals (refine at0 29 rfl (fun w' hq => pv_move rfl) ?_)
                all_goals (refine at2 30 rfl rfl rfl (fun w' hq => pv_move rfl) ?_)
                all_goals (refine at2 31 rfl rfl rfl (fun w' hq => pv_lenl (tS rfl) rfl) ?_)
                all_goals (refine at2 32 rfl rfl rfl (fun w' hq => pv_gtr rfl rfl) ?_)
                all_goals (refine at0 33 rfl (fun w' hq => pv_pick_f rfl (by first | assumption | exact decide_eq_false (by omega) | exact dec_notF (by omega)) rfl) ?_)
                all_goals (refine aw_done (by kernel_rfl) ?_; replace hw := hS; clear hS hNP)
                repeat' (first | (refine lw_pure rfl (pv_assign rfl) ?_) | (refine is_cw ?_; first | (refine cw_seq ?_) | (refine cw_region ?_) | (refine cw_true rfl (by first | assumption | exact decide_eq_true (by omega) | exact dec_notT (by omega)) ?_) | (refine cw_ret ?_)) | (refine is_qw ?_; first | (with_reducible refine qw_then ?_) | (with_reducible refine qw_then_ret ?_) | (with_reducible refine qw_in_ret ?_)) | (refine lw_nil ?_))
                exact qw_ret2 rfl rfl rfl ⟨Or.inl ⟨by rw [e4]; decide, by rw [e4]⟩, hw⟩
              · skip
                refine cw_drawn (fun w' => Below w.heap.size w w') (by kernel_rfl) (by repeat (first | exact NoPanic.body | with_reducible refine NoPanic.then ?_ | with_reducible refine NoPanic.inBlock ?_)) (fun hNP => ?_)
                have hS := hw.drew
                all_goals (refine at0 0 rfl (fun w' hq => pv_move rfl) ?_)
                all_goals (refine at0 1 rfl (fun w' hq => pv_move rfl) ?_)
                all_goals (refine at0 2 rfl (fun w' hq => pv_ian (tS rfl) rfl rfl (by omega)) ?_)
                all_goals (refine at0 3 rfl (fun w' hq => pv_fa (tF rfl) rfl) ?_)
                all_goals (refine at0 4 rfl (fun w' hq => pv_load (t1 rfl) rfl (by first | exact SlR.ld (HS.mono hq) hxk rfl | exact SlR.ld1 (HS.mono hq) hxk rfl | exact SlR.ld (HS.mono hq) hgi rfl | exact SlR.ld1 (HS.mono hq) hgi rfl)) ?_)
                all_goals (refine aw_act 5 (by kernel_rfl) rfl rfl rfl ?_; refine act_call (f := 24) (by kernel_rfl) rfl (rname_is hnz hq _) ?_; rintro e w1 ⟨rfl, hb⟩; refine ⟨_, rfl, grow_trans hS hb, fun hS => ?_⟩)
                all_goals (refine at0 6 rfl (fun w' hq => pv_not rfl) ?_)
                all_goals (refine at0 7 rfl (fun w' hq => pv_move rfl) ?_)
                all_goals (refine at1 8 rfl rfl rfl rfl (fun w' hq => pv_move rfl) ?_)
                all_goals (refine at1 9 rfl rfl rfl rfl (fun w' hq => pv_gtr rfl rfl) ?_)
                all_goals (refine at1 10 rfl rfl rfl rfl (fun w' hq => pv_move rfl) ?_)
                all_goals (refine at2 11 rfl rfl rfl (fun w' hq => pv_move rfl) ?_)
                all_goals (refine at2 12 rfl rfl rfl (fun w' hq => pv_move rfl) ?_)
                all_goals (refine at2 13 rfl rfl rfl (fun w' hq => pv_ian (tS rfl) rfl rfl (by omega)) ?_)
                all_goals (refine at2 14 rfl rfl rfl (fun w' hq => pv_fa (tF rfl) rfl) ?_)
                all_goals (refine at2 15 rfl rfl rfl (fun w' hq => pv_load (t1 rfl) rfl (by first | exact SlR.ld (HS.mono hq) hxk rfl | exact SlR.ld1 (HS.mono hq) hxk rfl | exact SlR.ld (HS.mono hq) hgi rfl | exact SlR.ld1 (HS.mono hq) hgi rfl)) ?_)
                all_goals (refine at2 16 rfl rfl rfl (fun w' hq => pv_move rfl) ?_)
                all_goals (refine at2 17 rfl rfl rfl (fun w' hq => pv_move rfl) ?_)
                all_goals (refine at2 18 rfl rfl rfl (fun w' hq => pv_predn rfl rfl (by omega)) ?_)
                all_goals (refine at2 19 rfl rfl rfl (fun w' hq => pv_ian (tS rfl) rfl rfl (by omega)) ?_)
                all_goals (refine at2 20 rfl rfl rfl (fun w' hq => pv_fa (tF rfl) rfl) ?_)
                all_goals (refine at2 21 rfl rfl rfl (fun w' hq => pv_load (t1 rfl) rfl (by first | exact SlR.ld (HS.mono hq) hxk rfl | exact SlR.ld1 (HS.mono hq) hxk rfl | exact SlR.ld (HS.mono hq) hgi rfl | exact SlR.ld1 (HS.mono hq) hgi rfl)) ?_)
                all_goals (refine at2 22 rfl rfl rfl (fun w' hq => pv_sleq rfl rfl) ?_)
                all_goals (refine at1 23 rfl rfl rfl rfl (fun w' hq => pv_pick_t rfl (by first | assumption | exact decide_eq_true (by omega) | exact dec_notT (by omega)) rfl) ?_)
                all_goals (refine at0 24 rfl (fun w' hq => pv_pick_f rfl rfl rfl) ?_)
                all_goals (refine at0 25 rfl (fun w' hq => pv_move rfl) ?_)
                all_goals (refine at2 26 rfl rfl rfl (fun w' hq => pv_move rfl) ?_)
                all_goals (refine at2 27 rfl rfl rfl (fun w' hq => pv_gtr rfl rfl) ?_)
                all_goals (refine at0 28 rfl (fun w' hq => pv_pick_f rfl (by first | assumption | exact decide_eq_false (by omega) | exact dec_notF (by omega)) rfl) ?_)
                all_goals (refine at0 29 rfl (fun w' hq => pv_move rfl) ?_)
                all_goals (refine at2 30 rfl rfl rfl (fun w' hq => pv_move rfl) ?_)
                all_goals (refine at2 31 rfl rfl rfl (fun w' hq => pv_lenl (tS rfl) rfl) ?_)
                all_goals (refine at2 32 rfl rfl rfl (fun w' hq => pv_gtr rfl rfl) ?_)
                all_goals (refine at0 33 rfl (fun w' hq => pv_pick_f rfl (by first | assumption | exact decide_eq_false (by omega) | exact dec_notF (by omega)) rfl) ?_)
                all_goals (refine aw_done (by kernel_rfl) ?_; replace hw := hS; clear hS hNP)
                have hgd2 := (hgd.step hxk hq hlast (by omega) (by omega)).1
                repeat' (first | (refine lw_pure rfl (pv_move rfl) ?_) | (refine lw_pure rfl (pv_assign rfl) ?_) | (refine is_cw ?_; first | (refine cw_region ?_) | (refine cw_false rfl (by first | assumption | exact decide_eq_false (by omega) | exact dec_notF (by omega)) ?_) | (refine cw_skip ?_)) | (refine is_qw ?_; first | (with_reducible refine qw_then ?_) | (with_reducible refine qw_in ?_)) | (refine lw_nil ?_) | ((refine is_bin ?_; first | (refine lw_pure rfl (pv_inc rfl rfl (by omega)) ?_) | (refine lw_pure rfl (pv_add rfl rfl (by omega)) ?_))))
                exact qw_round (i + 1 + 1, f.name, n + (f.firm.size + f.pend.size)) (by repeat' (first | exact trivial | refine ⟨rfl, ?_⟩)) ⟨by show i + 1 + 1 ≤ _; omega, hw, hgd2, by show n + (f.firm.size + f.pend.size) = usedF (l.take (i + 1 + 1)); omega⟩ (by show l.length - (i + 1 + 1) < l.length - (i + 1); omega)
          · have hE : decide (¬ ltN g.name f.name) = true := decide_eq_true (fun h => hlast (hl0 ▸ h))
            have e4 : (loadD cap l).1 = 4 := by unfold loadD; rw [if_neg hc, if_pos (badF_srt (hgd.bad hxk hq hlast))]
            refine cw_drawn (fun w' => Below w.heap.size w w') (by kernel_rfl) (by repeat (first | exact NoPanic.body | with_reducible refine NoPanic.then ?_ | with_reducible refine NoPanic.inBlock ?_)) (fun hNP => ?_)
            have hS := hw.drew
            all_goals (refine at0 0 rfl (fun w' hq => pv_move rfl) ?_)
            all_goals (refine at0 1 rfl (fun w' hq => pv_move rfl) ?_)
            all_goals (refine at0 2 rfl (fun w' hq => pv_ian (tS rfl) rfl rfl (by omega)) ?_)
            all_goals (refine at0 3 rfl (fun w' hq => pv_fa (tF rfl) rfl) ?_)
            all_goals (refine at0 4 rfl (fun w' hq => pv_load (t1 rfl) rfl (by first | exact SlR.ld (HS.mono hq) hxk rfl | exact SlR.ld1 (HS.mono hq) hxk rfl | exact SlR.ld (HS.mono hq) hgi rfl | exact SlR.ld1 (HS.mono hq) hgi rfl)) ?_)
            all_goals (refine aw_act 5 (by kernel_rfl) rfl rfl rfl ?_; refine act_call (f := 24) (by kernel_rfl) rfl (rname_is hnz hq _) ?_; rintro e w1 ⟨rfl, hb⟩; refine ⟨_, rfl, grow_trans hS hb, fun hS => ?_⟩)
            all_goals (refine at0 6 rfl (fun w' hq => pv_not rfl) ?_)
            all_goals (refine at0 7 rfl (fun w' hq => pv_move rfl) ?_)
            all_goals (refine at1 8 rfl rfl rfl rfl (fun w' hq => pv_move rfl) ?_)
            all_goals (refine at1 9 rfl rfl rfl rfl (fun w' hq => pv_gtr rfl rfl) ?_)
            all_goals (refine at1 10 rfl rfl rfl rfl (fun w' hq => pv_move rfl) ?_)
            all_goals (refine at2 11 rfl rfl rfl (fun w' hq => pv_move rfl) ?_)
            all_goals (refine at2 12 rfl rfl rfl (fun w' hq => pv_move rfl) ?_)
            all_goals (refine at2 13 rfl rfl rfl (fun w' hq => pv_ian (tS rfl) rfl rfl (by omega)) ?_)
            all_goals (refine at2 14 rfl rfl rfl (fun w' hq => pv_fa (tF rfl) rfl) ?_)
            all_goals (refine at2 15 rfl rfl rfl (fun w' hq => pv_load (t1 rfl) rfl (by first | exact SlR.ld (HS.mono hq) hxk rfl | exact SlR.ld1 (HS.mono hq) hxk rfl | exact SlR.ld (HS.mono hq) hgi rfl | exact SlR.ld1 (HS.mono hq) hgi rfl)) ?_)
            all_goals (refine at2 16 rfl rfl rfl (fun w' hq => pv_move rfl) ?_)
            all_goals (refine at2 17 rfl rfl rfl (fun w' hq => pv_move rfl) ?_)
            all_goals (refine at2 18 rfl rfl rfl (fun w' hq => pv_predn rfl rfl (by omega)) ?_)
            all_goals (refine at2 19 rfl rfl rfl (fun w' hq => pv_ian (tS rfl) rfl rfl (by omega)) ?_)
            all_goals (refine at2 20 rfl rfl rfl (fun w' hq => pv_fa (tF rfl) rfl) ?_)
            all_goals (refine at2 21 rfl rfl rfl (fun w' hq => pv_load (t1 rfl) rfl (by first | exact SlR.ld (HS.mono hq) hxk rfl | exact SlR.ld1 (HS.mono hq) hxk rfl | exact SlR.ld (HS.mono hq) hgi rfl | exact SlR.ld1 (HS.mono hq) hgi rfl)) ?_)
            all_goals (refine at2 22 rfl rfl rfl (fun w' hq => pv_sleq rfl rfl) ?_)
            all_goals (refine at1 23 rfl rfl rfl rfl (fun w' hq => pv_pick_t rfl (by first | assumption | exact decide_eq_true (by omega) | exact dec_notT (by omega)) rfl) ?_)
            all_goals (refine at0 24 rfl (fun w' hq => pv_pick_f rfl rfl rfl) ?_)
            all_goals (refine at0 25 rfl (fun w' hq => pv_move rfl) ?_)
            all_goals (refine an2 26 rfl rfl rfl ?_)
            all_goals (refine an2 27 rfl rfl rfl ?_)
            all_goals (refine at0 28 rfl (fun w' hq => pv_pick_t rfl (by first | assumption | exact decide_eq_true (by omega) | exact dec_notT (by omega)) rfl) ?_)
            all_goals (refine at0 29 rfl (fun w' hq => pv_move rfl) ?_)
            all_goals (refine an1 30 rfl rfl rfl rfl ?_)
            all_goals (refine an1 31 rfl rfl rfl rfl ?_)
            all_goals (refine an1 32 rfl rfl rfl rfl ?_)
            all_goals (refine at0 33 rfl (fun w' hq => pv_pick_t rfl rfl rfl) ?_)
            all_goals (refine aw_done (by kernel_rfl) ?_; replace hw := hS; clear hS hNP)
            repeat' (first | (refine lw_pure rfl (pv_assign rfl) ?_) | (refine is_cw ?_; first | (refine cw_seq ?_) | (refine cw_region ?_) | (refine cw_true rfl rfl ?_) | (refine cw_ret ?_)) | (refine is_qw ?_; first | (with_reducible refine qw_then ?_) | (with_reducible refine qw_then_ret ?_) | (with_reducible refine qw_in_ret ?_)) | (refine lw_nil ?_))
            exact qw_ret2 rfl rfl rfl ⟨Or.inl ⟨by rw [e4]; decide, by rw [e4]⟩, hw⟩
    · have hkl : k = l.length := by omega
      subst hkl
      have hok := hgd.ok
      have h1 := hgd.srt
      have h2 := hgd.names
      have h3 := hgd.sizes
      rw [List.take_length] at h1 h2 h3 hn
      have h64 : l.length ≤ 64 := by
        by_cases h0 : 0 < l.length
        · exact hgd.cnt h0
        · omega
      subst hn
      by_cases hu : cap < usedF l
      · have e4 : (loadD cap l).1 = 44 := by unfold loadD; rw [if_neg hc, hok, if_neg (by simp), if_pos hu]
        repeat' (first | (refine lw_pure rfl (pv_move rfl) ?_) | (refine lw_pure rfl (pv_assign rfl) ?_) | (refine is_cw ?_; first | (refine cw_seq ?_) | (refine cw_region ?_) | (refine cw_true rfl (by first | assumption | exact decide_eq_true (by omega) | exact dec_notT (by omega)) ?_) | (refine cw_false rfl (by first | assumption | exact decide_eq_false (by omega) | exact dec_notF (by omega)) ?_) | (refine cw_exit ?_) | (refine cw_ret ?_)) | (refine is_qw ?_; first | (with_reducible refine qw_then ?_) | (with_reducible refine qw_in_hit ?_) | (with_reducible refine qw_then_exit ?_) | (with_reducible refine qw_then_ret ?_)) | (refine lw_nil ?_) | ((refine is_bin ?_; first | (refine lw_pure rfl (pv_lss rfl rfl) ?_) | (refine lw_pure rfl (pv_gtr rfl rfl) ?_))) | ((refine is_bi ?_; first | (refine lw_pure rfl (pv_lenl (tS rfl) rfl) ?_))))
        exact qw_ret2 rfl rfl rfl ⟨Or.inl ⟨by rw [e4]; decide, by rw [e4]⟩, hw⟩
      · have e0 : (loadD cap l).1 = 0 := by unfold loadD; rw [if_neg hc, hok, if_neg (by simp), if_neg hu]
        repeat' (first | (refine lw_pure rfl (pv_move rfl) ?_) | (refine is_cw ?_; first | (refine cw_seq ?_) | (refine cw_region ?_) | (refine cw_false rfl (by first | assumption | exact decide_eq_false (by omega) | exact dec_notF (by omega)) ?_) | (refine cw_skip ?_) | (refine cw_exit ?_)) | (refine is_qw ?_; first | (with_reducible refine qw_then ?_) | (with_reducible refine qw_in_hit ?_) | (with_reducible refine qw_then_exit ?_)) | (refine lw_nil ?_) | ((refine is_bin ?_; first | (refine lw_pure rfl (pv_lss rfl rfl) ?_) | (refine lw_pure rfl (pv_gtr rfl rfl) ?_))) | ((refine is_bi ?_; first | (refine lw_pure rfl (pv_lenl (tS rfl) rfl) ?_))))
        refine lw_bs0 (enc := encF) elemF rfl ?_; intro wn hO hb hz
        have hB := grow_trans hw hb
        repeat' (first | (refine lw_pure rfl (pv_move rfl) ?_))
        refine lw_app elemF encF_len encF_one rfl rfl rfl hO (HS.mono hB) rfl (by omega) (by simp; omega) (by simp [maxLen]; omega) ?_; intro v2 w2 hO2 hg hb2
        have hs2 := hw.size
        replace hw := hB.trans (hb2.mono hw.size)
        have hO1 : Own encF 3 35 wr.heap.size w2 v2 l := by simpa using hO2
        have hO4 := hO1.weaken hs2
        obtain ⟨a2, c2, rfl, -, -⟩ := Own.slR encF_len hO1
        clear hO1 hO2 hO hg hb2 hB hb hz
        repeat' (first | (refine lw_pure rfl (pv_move rfl) ?_) | ((refine is_bd ?_; first | (refine lw_pure rfl (tyB_87 rfl rfl rfl) ?_))))
        refine lw_boxN rfl rfl (cs := [.slice a2 l.length c2, .int .i64 cap, .int .i64 (-1), .bool false]) rfl ?_; intro N w5 hN H hb
        have hO3 := hO4.mono hb
        replace hN := Nat.le_trans hw.size hN
        replace hw := grow_trans hw hb
        repeat' (first | (refine lw_pure rfl (pv_assign rfl) ?_) | (refine is_cw ?_; first | (refine cw_ret ?_)) | (refine is_qw ?_; first | (with_reducible refine qw_then ?_)) | (refine lw_nil ?_))
        exact qw_ret2 rfl rfl rfl ⟨Or.inr ⟨e0, N, .slice a2 l.length c2, rfl, hN, ⟨H, hO3, ⟨h1, h2, h3, h64, by show (usedF l : Int) ≤ cap; omega, hcap, by show (-1 : Int) ≤ -1; omega, by show (-1 : Int) ≤ _; omega⟩⟩⟩, hw⟩

section
variable {P : Program} {n : Nat} {l : Fr} {w : World} {d : Option Nat} {ty : TypeId} {pos : String} {af : Array Edge} {g : Option (Nat × Bool)} {t t' : TypeId} {x : Operand} {k : IntKind} {a : Int}
theorem pv_convb (ht : cvB P t t' .u8 = true) (hx : ev l x = some (.int k a)) (h : 0 ≤ a ∧ a ≤ 255) : Pv P n l ⟨d, .convert t t' x, ty, pos, af, g⟩ (.int .u8 a) w := by
  have := pv_conv_w (P := P) (n := n) (w := w) (d := d) (ty := ty) (pos := pos) (af := af) (g := g) ht hx
  rwa [IntWalk.u8_in _ h] at this
end
theorem delete_is {w : World} {N B : Nat} {d d' : Dsk} {n : ByteArray} {k : Int} (h : DkW w N B d) (hn : n.size ≤ 9223372036854775807) (hr : deleteD d n = (k, d')) : Calls Tryd.prog 39 #[.pointer (some ⟨N, 0, none⟩), .string n] w fun e w' => e = .returned (.int .i64 k) ∧ DkW w' N B d' ∧ Gw N B w w' := by
  have := delete_c h hn; rw [hr] at this; exact this
theorem used_is {w : World} {N B : Nat} {d : Dsk} {k : Nat} (h : DkW w N B d) (hr : usedF d.fs = k) : Calls Tryd.prog 32 #[.pointer (some ⟨N, 0, none⟩)] w fun e w' => e = .returned (.int .i64 (k : Nat)) ∧ Below w.heap.size w w' := by
  have := used_c h; rw [hr] at this; exact this
set_option maxRecDepth 20000 in
set_option maxHeartbeats 8000000 in
theorem nameslaw_c (w : World) : Calls Tryd.prog 9 #[] w fun e w' => e = .returned (.bool true) ∧ Below w.heap.size w w' := by
  have hw := Below.refl w.heap.size w
  refine fn_enter 345 Tryd.func9 rfl rfl rfl ?_
  repeat' (first | (refine lw_pure rfl (pv_assign rfl) ?_) | (refine is_cw ?_; first | (refine cw_seq ?_) | (refine cw_region ?_)) | (refine is_qw ?_; first | (with_reducible refine qw_then ?_)) | (refine lw_nil ?_))
  refine lw_call (f := 11) (by kernel_rfl) rfl rfl (awake_c _) ?_; rintro e w1 ⟨rfl, hb⟩; refine ⟨_, rfl, ?_⟩; replace hw := grow_trans hw hb; clear hb
  repeat' (first | (refine lw_pure rfl (pv_assign rfl) ?_) | (refine is_cw ?_; first | (refine cw_seq ?_) | (refine cw_region ?_) | (refine cw_false rfl rfl ?_) | (refine cw_skip ?_) | (refine cw_block ?_)) | (refine is_qw ?_; first | (with_reducible refine qw_then ?_)) | (refine lw_nil ?_) | ((refine is_un ?_; first | (refine lw_pure rfl (pv_not rfl) ?_))))
  refine cw_loop (σ := Nat) (fun c => [(1, .int .i64 (c : Nat))]) (fun c wr => c ≤ 256 ∧ Below w.heap.size w wr) (fun c => 256 - c) 0 (by repeat' (first | exact trivial | refine ⟨rfl, ?_⟩)) ⟨by omega, hw⟩ ?_
  clear hw
  rintro c wr ⟨hc, hw⟩
  by_cases hlt : c < 256
  · repeat' (first | (refine lw_pure rfl (pv_move rfl) ?_) | (refine is_cw ?_; first | (refine cw_seq ?_) | (refine cw_region ?_) | (refine cw_true rfl (by first | assumption | exact decide_eq_true (by omega) | exact dec_notT (by omega)) ?_) | (refine cw_skip ?_) | (refine cw_block ?_)) | (refine is_qw ?_; first | (with_reducible refine qw_then ?_)) | (refine lw_nil ?_) | ((refine is_bin ?_; first | (refine lw_pure rfl (pv_lss rfl rfl) ?_))) | (refine lw_pure rfl (pv_convb (tCv rfl rfl) rfl (by omega)) ?_))
    refine lw_bsN (vs := [.int .u8 (c : Nat)]) (cs := [.int .u8 (c : Nat)]) elemBy rfl rfl rfl (by omega) (by omega) rfl (by intro v hv; simp at hv; subst hv; rfl) ?_; intro N5 w5 hN5 H5 hb
    have HS : SlR encB 1 w5 (some ⟨N5, 0, none⟩) 1 [((c : Nat) : Int)] := H5.slR (xs := [((c : Nat) : Int)]) encB_len rfl (by omega)
    replace hw := grow_trans hw hb
    clear hb
    obtain ⟨s, hs⟩ : ∃ s, strOfNums [((c : Nat) : Int)] = s := ⟨_, rfl⟩
    have hsz : s.size = 1 := by rw [← hs]; exact strOfNums_size _
    have hl1 : [((c : Nat) : Int)].length = 1 := rfl
    have hcv := pv_b2sR (n := 345) (l := []) (d := none) (ty := 0) (pos := "") (af := #[]) (g := none) HS hl1 (x := .const (.slice (some ⟨N5, 0, none⟩) 1 1)) rfl
    obtain ⟨b, hb1⟩ : ∃ b, nameF s = b := ⟨_, rfl⟩
    have hb2 : nameF ((⟨#[97]⟩ : ByteArray) ++ s ++ ⟨#[98]⟩) = b := by rw [← hb1, ← hs]; exact nm_byte ⟨c, hlt⟩
    have h1 : (⟨#[97]⟩ : ByteArray).size = 1 := rfl
    have h2 : (⟨#[98]⟩ : ByteArray).size = 1 := rfl
    have hs1 : ((⟨#[97]⟩ : ByteArray) ++ s).size = 2 := by rw [size_append, h1, hsz]
    have hs2 : ((⟨#[97]⟩ : ByteArray) ++ s ++ ⟨#[98]⟩).size = 3 := by rw [size_append, hs1, h2]
    have hc1 : (⟨#[97]⟩ : ByteArray).size + s.size ≤ 9223372036854775807 := by omega
    have hc2 : ((⟨#[97]⟩ : ByteArray) ++ s).size + (⟨#[98]⟩ : ByteArray).size ≤ 9223372036854775807 := by omega
    have hE : (!(b == b)) = false := by simp
    repeat' (first | (refine lw_pure rfl (pv_move rfl) ?_) | (refine lw_pure rfl (pv_assign rfl) ?_) | (refine is_cw ?_; first | (refine cw_seq ?_) | (refine cw_region ?_)) | (refine is_qw ?_; first | (with_reducible refine qw_then ?_)) | (refine lw_nil ?_) | (refine lw_pure rfl (pv_b2sR HS hl1 rfl) ?_))
    rw [hs]
    skip
    refine lw_call (f := 18) (by kernel_rfl) rfl rfl (name_is (by omega) hb1 _) ?_; rintro e w1 ⟨rfl, hb⟩; refine ⟨_, rfl, ?_⟩; replace hw := grow_trans hw hb; clear hb
    repeat' (first | (refine lw_pure rfl (pv_move rfl) ?_))
    refine lw_call (f := 24) (by kernel_rfl) rfl rfl (rname_is (by omega) hb1 _) ?_; rintro e w1 ⟨rfl, hb⟩; refine ⟨_, rfl, ?_⟩; replace hw := grow_trans hw hb; clear hb
    repeat' (first | (refine lw_pure rfl (pv_move rfl) ?_) | (refine is_guarded ?_; first | (refine lw_on rfl rfl (by first | assumption | exact decide_eq_true (by omega) | exact decide_eq_false (by omega) | exact dec_notT (by omega) | exact dec_notF (by omega)) ?_)) | ((refine is_bin ?_; first | (refine lw_pure rfl (pv_cat rfl rfl hc1) ?_) | (refine lw_pure rfl (pv_cat rfl rfl hc2) ?_) | (refine lw_pure rfl (pv_bneq (tBo rfl) rfl rfl) ?_))))
    refine lw_call (f := 18) (by kernel_rfl) rfl rfl (name_is (by omega) hb2 _) ?_; rintro e w1 ⟨rfl, hb⟩; refine ⟨_, rfl, ?_⟩; replace hw := grow_trans hw hb; clear hb
    repeat' (first | (refine lw_pure rfl (pv_move rfl) ?_) | (refine is_guarded ?_; first | (refine lw_on rfl rfl (by first | assumption | exact decide_eq_true (by omega) | exact decide_eq_false (by omega) | exact dec_notT (by omega) | exact dec_notF (by omega)) ?_)))
    refine lw_call (f := 24) (by kernel_rfl) rfl rfl (rname_is (by omega) hb1 _) ?_; rintro e w1 ⟨rfl, hb⟩; refine ⟨_, rfl, ?_⟩; replace hw := grow_trans hw hb; clear hb
    repeat' (first | (refine lw_pure rfl (pv_move rfl) ?_) | (refine lw_pure rfl (pv_assign rfl) ?_) | (refine is_cw ?_; first | (refine cw_region ?_) | (refine cw_false rfl (by first | assumption | exact decide_eq_false (by omega) | exact dec_notF (by omega)) ?_) | (refine cw_skip ?_)) | (refine is_qw ?_; first | (with_reducible refine qw_then ?_) | (with_reducible refine qw_in ?_)) | (refine lw_nil ?_) | (refine is_guarded ?_; first | (refine lw_on rfl rfl (by first | assumption | exact decide_eq_true (by omega) | exact decide_eq_false (by omega) | exact dec_notT (by omega) | exact dec_notF (by omega)) ?_)) | ((refine is_bin ?_; first | (refine lw_pure rfl (pv_inc rfl rfl (by omega)) ?_) | (refine lw_pure rfl (pv_bneq (tBo rfl) rfl rfl) ?_))) | (refine lw_pure rfl (pv_pick_f rfl (by first | assumption | exact decide_eq_false (by omega) | exact dec_notF (by omega)) rfl) ?_))
    exact qw_round (c + 1) (by repeat' (first | exact trivial | refine ⟨rfl, ?_⟩)) ⟨by omega, hw⟩ (by omega)
  · have hce : c = 256 := by omega
    subst hce
    repeat' (first | (refine lw_pure rfl (pv_move rfl) ?_) | (refine is_cw ?_; first | (refine cw_seq ?_) | (refine cw_region ?_) | (refine cw_false rfl rfl ?_) | (refine cw_exit ?_)) | (refine is_qw ?_; first | (with_reducible refine qw_then ?_) | (with_reducible refine qw_in_hit ?_) | (with_reducible refine qw_then_exit ?_)) | (refine lw_nil ?_) | ((refine is_bin ?_; first | (refine lw_pure rfl (pv_lss rfl rfl) ?_))))
    refine lw_call (f := 18) (by kernel_rfl) rfl rfl (name_is (b := false) (by decide) (by decide +kernel) _) ?_; rintro e w1 ⟨rfl, hb⟩; refine ⟨_, rfl, ?_⟩; replace hw := grow_trans hw hb; clear hb
    repeat' (first | (refine lw_pure rfl (pv_move rfl) ?_) | (refine is_guarded ?_; first | (refine lw_on rfl rfl rfl ?_)))
    refine lw_call (f := 18) (by kernel_rfl) rfl rfl (name_is (b := true) (by decide) (by decide +kernel) _) ?_; rintro e w1 ⟨rfl, hb⟩; refine ⟨_, rfl, ?_⟩; replace hw := grow_trans hw hb; clear hb
    repeat' (first | (refine lw_pure rfl (pv_move rfl) ?_) | (refine is_guarded ?_; first | (refine lw_on rfl rfl rfl ?_)) | ((refine is_un ?_; first | (refine lw_pure rfl (pv_not rfl) ?_))) | (refine lw_pure rfl (pv_pick_f rfl rfl rfl) ?_))
    refine lw_call (f := 18) (by kernel_rfl) rfl rfl (name_is (b := false) (by decide) (by decide +kernel) _) ?_; rintro e w1 ⟨rfl, hb⟩; refine ⟨_, rfl, ?_⟩; replace hw := grow_trans hw hb; clear hb
    repeat' (first | (refine lw_pure rfl (pv_move rfl) ?_) | (refine lw_pure rfl (pv_assign rfl) ?_) | (refine is_cw ?_; first | (refine cw_seq ?_) | (refine cw_region ?_) | (refine cw_false rfl rfl ?_) | (refine cw_skip ?_)) | (refine is_qw ?_; first | (with_reducible refine qw_then ?_)) | (refine lw_nil ?_) | (refine lw_pure rfl (pv_pick_f rfl rfl rfl) ?_))
    refine lw_call (f := 20) (by kernel_rfl) rfl rfl (readn_c _ _) ?_; rintro e w1 ⟨rfl, hb⟩; refine ⟨_, rfl, ?_⟩; replace hw := grow_trans hw hb; clear hb
    repeat' (first | (refine lw_pure rfl (pv_move rfl) ?_) | (refine lw_pure rfl (pv_assign rfl) ?_) | (refine is_cw ?_; first | (refine cw_seq ?_) | (refine cw_region ?_)) | (refine is_qw ?_; first | (with_reducible refine qw_then ?_)) | (refine lw_nil ?_) | (refine lw_pure rfl (pv_extract rfl rfl) ?_))
    refine lw_call (f := 19) (by kernel_rfl) rfl rfl (listn_c _) ?_; rintro e w1 ⟨rfl, hb⟩; refine ⟨_, rfl, ?_⟩; replace hw := grow_trans hw hb; clear hb
    repeat' (first | (refine lw_pure rfl (pv_move rfl) ?_) | (refine lw_pure rfl (pv_assign rfl) ?_) | (refine is_cw ?_; first | (refine cw_seq ?_) | (refine cw_region ?_)) | (refine is_qw ?_; first | (with_reducible refine qw_then ?_)) | (refine lw_nil ?_) | (refine lw_pure rfl (pv_extract rfl rfl) ?_))
    refine lw_call (f := 31) (by kernel_rfl) rfl rfl (roomn_c _) ?_; rintro e w1 ⟨rfl, hb⟩; refine ⟨_, rfl, ?_⟩; replace hw := grow_trans hw hb; clear hb
    repeat' (first | (refine lw_pure rfl (pv_move rfl) ?_) | (refine lw_pure rfl (pv_assign rfl) ?_) | (refine is_cw ?_; first | (refine cw_seq ?_) | (refine cw_region ?_)) | (refine is_qw ?_; first | (with_reducible refine qw_then ?_)) | (refine lw_nil ?_) | (refine is_guarded ?_; first | (refine lw_on rfl rfl rfl ?_)) | ((refine is_bin ?_; first | (refine lw_pure rfl (pv_neq rfl rfl) ?_))) | (refine lw_pure rfl (pv_pick_f rfl rfl rfl) ?_) | (refine lw_pure rfl (pv_extract rfl rfl) ?_))
    refine lw_call (f := 35) (by kernel_rfl) rfl rfl (createn_c _ _) ?_; rintro e w1 ⟨rfl, hb⟩; refine ⟨_, rfl, ?_⟩; replace hw := grow_trans hw hb; clear hb
    repeat' (first | (refine lw_pure rfl (pv_move rfl) ?_) | (refine is_guarded ?_; first | (refine lw_on rfl rfl rfl ?_)) | ((refine is_bin ?_; first | (refine lw_pure rfl (pv_neq rfl rfl) ?_))) | (refine lw_pure rfl (pv_pick_f rfl rfl rfl) ?_))
    refine lw_call (f := 34) (by kernel_rfl) rfl rfl (appendn_c _ _ _) ?_; rintro e w1 ⟨rfl, hb⟩; refine ⟨_, rfl, ?_⟩; replace hw := grow_trans hw hb; clear hb
    repeat' (first | (refine lw_pure rfl (pv_move rfl) ?_) | (refine is_guarded ?_; first | (refine lw_on rfl rfl rfl ?_)) | ((refine is_bin ?_; first | (refine lw_pure rfl (pv_neq rfl rfl) ?_))) | (refine lw_pure rfl (pv_pick_f rfl rfl rfl) ?_))
    refine lw_call (f := 36) (by kernel_rfl) rfl rfl (syncn_c _ _) ?_; rintro e w1 ⟨rfl, hb⟩; refine ⟨_, rfl, ?_⟩; replace hw := grow_trans hw hb; clear hb
    repeat' (first | (refine lw_pure rfl (pv_move rfl) ?_) | (refine is_guarded ?_; first | (refine lw_on rfl rfl rfl ?_)) | ((refine is_bin ?_; first | (refine lw_pure rfl (pv_neq rfl rfl) ?_))) | (refine lw_pure rfl (pv_pick_f rfl rfl rfl) ?_))
    refine lw_call (f := 37) (by kernel_rfl) rfl rfl (trimn_c _ _ _) ?_; rintro e w1 ⟨rfl, hb⟩; refine ⟨_, rfl, ?_⟩; replace hw := grow_trans hw hb; clear hb
    repeat' (first | (refine lw_pure rfl (pv_move rfl) ?_) | (refine is_guarded ?_; first | (refine lw_on rfl rfl rfl ?_)) | ((refine is_bin ?_; first | (refine lw_pure rfl (pv_neq rfl rfl) ?_))) | (refine lw_pure rfl (pv_pick_f rfl rfl rfl) ?_))
    refine lw_call (f := 38) (by kernel_rfl) rfl rfl (renamen_c _ _ _) ?_; rintro e w1 ⟨rfl, hb⟩; refine ⟨_, rfl, ?_⟩; replace hw := grow_trans hw hb; clear hb
    repeat' (first | (refine lw_pure rfl (pv_move rfl) ?_) | (refine is_guarded ?_; first | (refine lw_on rfl rfl rfl ?_)) | ((refine is_bin ?_; first | (refine lw_pure rfl (pv_neq rfl rfl) ?_))) | (refine lw_pure rfl (pv_pick_f rfl rfl rfl) ?_))
    refine lw_call (f := 39) (by kernel_rfl) rfl rfl (deleten_c _ _) ?_; rintro e w1 ⟨rfl, hb⟩; refine ⟨_, rfl, ?_⟩; replace hw := grow_trans hw hb; clear hb
    repeat' (first | (refine lw_pure rfl (pv_move rfl) ?_) | (refine is_guarded ?_; first | (refine lw_on rfl rfl rfl ?_)) | ((refine is_bin ?_; first | (refine lw_pure rfl (pv_neq rfl rfl) ?_))) | (refine lw_pure rfl (pv_pick_f rfl rfl rfl) ?_))
    refine lw_call (f := 29) (by kernel_rfl) rfl rfl (cutn_c _ _) ?_; rintro e w1 ⟨rfl, hb⟩; refine ⟨_, rfl, ?_⟩; replace hw := grow_trans hw hb; clear hb
    repeat' (first | (refine lw_pure rfl (pv_move rfl) ?_) | (refine is_guarded ?_; first | (refine lw_on rfl rfl rfl ?_)) | ((refine is_bin ?_; first | (refine lw_pure rfl (pv_neq rfl rfl) ?_))) | (refine lw_pure rfl (pv_pick_f rfl rfl rfl) ?_))
    refine lw_call (f := 17) (by kernel_rfl) rfl rfl (crashn_c _ _ _ _) ?_; rintro e w1 ⟨rfl, hb⟩; refine ⟨_, rfl, ?_⟩; replace hw := grow_trans hw hb; clear hb
    repeat' (first | (refine lw_pure rfl (pv_move rfl) ?_) | (refine is_guarded ?_; first | (refine lw_on rfl rfl rfl ?_)) | ((refine is_bin ?_; first | (refine lw_pure rfl (pv_neq rfl rfl) ?_))) | (refine lw_pure rfl (pv_pick_f rfl rfl rfl) ?_))
    refine lw_call (f := 30) (by kernel_rfl) rfl rfl (upn_c _) ?_; rintro e w1 ⟨rfl, hb⟩; refine ⟨_, rfl, ?_⟩; replace hw := grow_trans hw hb; clear hb
    repeat' (first | (refine lw_pure rfl (pv_move rfl) ?_) | (refine is_guarded ?_; first | (refine lw_on rfl rfl rfl ?_)) | (refine lw_pure rfl (pv_pick_f rfl rfl rfl) ?_))
    refine lw_call (f := 32) (by kernel_rfl) rfl rfl (usedn_c _) ?_; rintro e w1 ⟨rfl, hb⟩; refine ⟨_, rfl, ?_⟩; replace hw := grow_trans hw hb; clear hb
    repeat' (first | (refine lw_pure rfl (pv_move rfl) ?_) | (refine is_guarded ?_; first | (refine lw_on rfl rfl rfl ?_)))
    refine lw_call (f := 33) (by kernel_rfl) rfl rfl (capn_c _) ?_; rintro e w1 ⟨rfl, hb⟩; refine ⟨_, rfl, ?_⟩; replace hw := grow_trans hw hb; clear hb
    repeat' (first | (refine lw_pure rfl (pv_move rfl) ?_) | (refine is_guarded ?_; first | (refine lw_on rfl rfl rfl ?_)) | ((refine is_bin ?_; first | (refine lw_pure rfl (pv_add rfl rfl (by omega)) ?_))))
    refine lw_call (f := 13) (by kernel_rfl) rfl rfl (filesn_c _) ?_; rintro e w1 ⟨rfl, hb⟩; refine ⟨_, rfl, ?_⟩; replace hw := grow_trans hw hb; clear hb
    repeat' (first | (refine lw_pure rfl (pv_move rfl) ?_) | (refine is_guarded ?_; first | (refine lw_on rfl rfl rfl ?_)) | ((refine is_bin ?_; first | (refine lw_pure rfl (pv_neq rfl rfl) ?_) | (refine lw_pure rfl (pv_add rfl rfl (by omega)) ?_))) | ((refine is_bi ?_; first | (refine lw_pure rfl (pv_lenl (tS rfl) rfl) ?_))) | (refine lw_pure rfl (pv_pick_f rfl rfl rfl) ?_))
    refine lw_call (f := 28) (by kernel_rfl) rfl rfl (copyn_c _) ?_; rintro e w1 ⟨rfl, hb⟩; refine ⟨_, rfl, ?_⟩; replace hw := grow_trans hw hb; clear hb
    repeat' (first | (refine lw_pure rfl (pv_move rfl) ?_) | (refine is_guarded ?_; first | (refine lw_on rfl rfl rfl ?_)) | ((refine is_bin ?_; first | (refine lw_pure rfl (pv_pnnil tpD rfl rfl) ?_))) | (refine lw_pure rfl (pv_pick_f rfl rfl rfl) ?_))
    refine lw_call (f := 26) (by kernel_rfl) rfl rfl (same00_c _) ?_; rintro e w1 ⟨rfl, hb⟩; refine ⟨_, rfl, ?_⟩; replace hw := grow_trans hw hb; clear hb
    repeat' (first | (refine is_cw ?_; first | (refine cw_seq ?_) | (refine cw_region ?_) | (refine cw_false rfl rfl ?_) | (refine cw_skip ?_)) | (refine is_qw ?_; first | (with_reducible refine qw_then ?_)) | (refine lw_nil ?_) | (refine is_guarded ?_; first | (refine lw_on rfl rfl rfl ?_)) | ((refine is_un ?_; first | (refine lw_pure rfl (pv_not rfl) ?_))) | (refine lw_pure rfl (pv_pick_f rfl rfl rfl) ?_))
    refine lw_call (f := 40) (by kernel_rfl) rfl rfl (new_c (by omega) _) ?_; rintro e w2 ⟨hL, hb⟩
    rcases hL with ⟨_, rfl⟩ | ⟨h1, _⟩
    · refine ⟨_, rfl, ?_⟩
      replace hw := grow_trans hw hb
      clear hb
      rw [show loadD (-1) [] = (1, default) from by decide +kernel]
      repeat' (first | (refine lw_pure rfl (pv_move rfl) ?_) | (refine lw_pure rfl (pv_assign rfl) ?_) | (refine is_cw ?_; first | (refine cw_seq ?_) | (refine cw_region ?_)) | (refine is_qw ?_; first | (with_reducible refine qw_then ?_)) | (refine lw_nil ?_) | (refine lw_pure rfl (pv_extract rfl rfl) ?_))
      refine lw_call (f := 40) (by kernel_rfl) rfl rfl (new_c (by omega) _) ?_; rintro e w2 ⟨hL, hb⟩
      rcases hL with ⟨h1, _⟩ | ⟨_, N, B, rfl, hN, hB, hD⟩
      · exact absurd (by decide +kernel) h1
      · refine ⟨_, rfl, ?_⟩
        replace hN := Nat.le_trans hw.size hN
        replace hB := Nat.le_trans hw.size hB
        replace hw := grow_trans hw hb
        clear hb
        replace hD : DkW w2 N B (mkD 0) := hD
        repeat' (first | (refine lw_pure rfl (pv_move rfl) ?_) | (refine lw_pure rfl (pv_assign rfl) ?_) | (refine is_cw ?_; first | (refine cw_seq ?_) | (refine cw_region ?_)) | (refine is_qw ?_; first | (with_reducible refine qw_then ?_)) | (refine lw_nil ?_) | (refine is_guarded ?_; first | (refine lw_on rfl rfl rfl ?_)) | ((refine is_bin ?_; first | (refine lw_pure rfl (pv_neq rfl rfl) ?_))) | (refine lw_pure rfl (pv_pick_f rfl rfl rfl) ?_) | (refine lw_pure rfl (pv_extract rfl rfl) ?_))
        refine lw_call (f := 26) (by kernel_rfl) rfl rfl (same10_c N _) ?_; rintro e w1 ⟨rfl, hb⟩; refine ⟨_, rfl, ?_⟩; replace hD := hD.mono hb; replace hw := grow_trans hw hb; clear hb
        repeat' (first | (refine lw_pure rfl (pv_move rfl) ?_) | (refine is_guarded ?_; first | (refine lw_on rfl rfl rfl ?_)) | (refine lw_pure rfl (pv_pick_f rfl rfl rfl) ?_))
        refine lw_call (f := 26) (by kernel_rfl) rfl rfl (same01_c N _) ?_; rintro e w1 ⟨rfl, hb⟩; refine ⟨_, rfl, ?_⟩; replace hD := hD.mono hb; replace hw := grow_trans hw hb; clear hb
        repeat' (first | (refine lw_pure rfl (pv_assign rfl) ?_) | (refine is_cw ?_; first | (refine cw_seq ?_) | (refine cw_region ?_) | (refine cw_false rfl rfl ?_) | (refine cw_skip ?_) | (refine cw_block ?_)) | (refine is_qw ?_; first | (with_reducible refine qw_then ?_)) | (refine lw_nil ?_) | (refine lw_pure rfl (pv_pick_f rfl rfl rfl) ?_))
        refine cw_loop (σ := Nat) (fun i => [(13, .pointer (some ⟨N, 0, none⟩)), (12, .int .i64 1), (14, .int .i64 0), (15, .int .i64 (i : Nat))]) (fun i wr => i ≤ 64 ∧ Below w.heap.size w wr ∧ DkW wr N B (mkD i)) (fun i => 64 - i) 0 (by repeat' (first | exact trivial | refine ⟨rfl, ?_⟩)) ⟨by omega, hw, hD⟩ ?_
        clear hw hD
        rintro i wr ⟨hi, hw, hD⟩
        by_cases hlt : i < 64
        · have hd8 : i / 8 < 8 := by omega
          have hm8 : i % 8 < 8 := by omega
          repeat' (first | (refine lw_pure rfl (pv_move rfl) ?_) | (refine is_cw ?_; first | (refine cw_seq ?_) | (refine cw_region ?_) | (refine cw_true rfl (by first | assumption | exact decide_eq_true (by omega) | exact dec_notT (by omega)) ?_) | (refine cw_skip ?_) | (refine cw_block ?_)) | (refine is_qw ?_; first | (with_reducible refine qw_then ?_)) | (refine lw_nil ?_) | ((refine is_bin ?_; first | (refine lw_pure rfl (pv_quoz (b := 8) rfl rfl (by omega) (by omega)) ?_) | (refine lw_pure rfl (pv_remz (b := 8) rfl rfl (by omega)) ?_) | (refine lw_pure rfl (pv_lss rfl rfl) ?_) | (refine lw_pure rfl (pv_add rfl rfl (by omega)) ?_))) | (refine lw_pure rfl (pv_convb (tCv rfl rfl) rfl (by omega)) ?_))
          refine lw_bsN (vs := [.int .u8 (97 + ((i / 8 : Nat) : Int)), .int .u8 (97 + ((i % 8 : Nat) : Int))]) (cs := [.int .u8 (97 + ((i / 8 : Nat) : Int)), .int .u8 (97 + ((i % 8 : Nat) : Int))]) elemBy rfl rfl rfl (by omega) (by omega) rfl (by intro v hv; simp at hv; rcases hv with rfl | rfl <;> rfl) ?_; intro N5 w5 hN5 H5 hb
          have HS : SlR encB 1 w5 (some ⟨N5, 0, none⟩) 2 [97 + ((i / 8 : Nat) : Int), 97 + ((i % 8 : Nat) : Int)] := H5.slR (xs := [97 + ((i / 8 : Nat) : Int), 97 + ((i % 8 : Nat) : Int)]) encB_len rfl (by omega)
          replace hD := hD.mono hb
          replace hw := grow_trans hw hb
          clear hb
          have hl2 : [97 + ((i / 8 : Nat) : Int), 97 + ((i % 8 : Nat) : Int)].length = 2 := rfl
          have hfn : (⟨#[102]⟩ : ByteArray) ++ strOfNums [97 + ((i / 8 : Nat) : Int), 97 + ((i % 8 : Nat) : Int)] = fnm i := by
            rw [show 97 + ((i / 8 : Nat) : Int) = ((97 + i / 8 : Nat) : Int) from by omega, show 97 + ((i % 8 : Nat) : Int) = ((97 + i % 8 : Nat) : Int) from by omega]
            exact fnm_is ⟨i, hlt⟩
          have hss := strOfNums_size [97 + ((i / 8 : Nat) : Int), 97 + ((i % 8 : Nat) : Int)]
          obtain ⟨s, hs⟩ : ∃ s, strOfNums [97 + ((i / 8 : Nat) : Int), 97 + ((i % 8 : Nat) : Int)] = s := ⟨_, rfl⟩
          rw [hs] at hss hfn
          have hss2 : s.size = 2 := hss
          have h1 : (⟨#[102]⟩ : ByteArray).size = 1 := rfl
          have hc1 : (⟨#[102]⟩ : ByteArray).size + s.size ≤ 9223372036854775807 := by omega
          repeat' (first | (refine lw_pure rfl (pv_b2sR HS hl2 rfl) ?_))
          rw [hs]
          repeat' (first | ((refine is_bin ?_; first | (refine lw_pure rfl (pv_cat rfl rfl hc1) ?_))))
          rw [hfn]
          refine lw_call (f := 35) (by kernel_rfl) rfl rfl (create_is (n := fnm i) hD (by show 3 ≤ _; omega) (mk_step ⟨i, hlt⟩)) ?_; clear hD; rintro e w1 ⟨rfl, hD, hG⟩; refine ⟨_, rfl, ?_⟩; replace hw := hG.below hw hN hB; clear hG
          repeat' (first | (refine lw_pure rfl (pv_move rfl) ?_) | (refine lw_pure rfl (pv_assign rfl) ?_) | (refine is_cw ?_; first | (refine cw_region ?_) | (refine cw_false rfl rfl ?_) | (refine cw_skip ?_)) | (refine is_qw ?_; first | (with_reducible refine qw_then ?_) | (with_reducible refine qw_in ?_)) | (refine lw_nil ?_) | ((refine is_bin ?_; first | (refine lw_pure rfl (pv_neq rfl rfl) ?_) | (refine lw_pure rfl (pv_inc rfl rfl (by omega)) ?_))))
          exact qw_round (i + 1) (by repeat' (first | exact trivial | refine ⟨rfl, ?_⟩)) ⟨by omega, hw, hD⟩ (by omega)
        · have hie : i = 64 := by omega
          subst hie
          rw [nD0] at hD
          have cm : createD (nD emptyB emptyB) more = (44, nD emptyB emptyB) := by rw [← nD0]; exact c_more
          have cf : createD (nD emptyB emptyB) faa = (6, nD emptyB emptyB) := by rw [← nD0]; exact c_faa
          have ca : createD (nD emptyB emptyB) aSb = (4, nD emptyB emptyB) := by rw [← nD0]; exact c_asb
          repeat' (first | (refine lw_pure rfl (pv_move rfl) ?_) | (refine is_cw ?_; first | (refine cw_seq ?_) | (refine cw_region ?_) | (refine cw_false rfl rfl ?_) | (refine cw_exit ?_)) | (refine is_qw ?_; first | (with_reducible refine qw_then ?_) | (with_reducible refine qw_in_hit ?_) | (with_reducible refine qw_then_exit ?_)) | (refine lw_nil ?_) | ((refine is_bin ?_; first | (refine lw_pure rfl (pv_lss rfl rfl) ?_))))
          refine lw_mkbig (m := 1048576) (by omega) rfl rfl rfl ?_; intro N3 xs w3 hxl hO hb
          obtain ⟨xa, xc, e, HS, -⟩ := Own.slR encB_len hO
          injection e with e1 e2 e3
          subst e1 e3
          replace hD := hD.mono hb
          replace hw := grow_trans hw hb
          clear hb hO e2
          have hsz := (strOfNums_size xs).trans hxl
          obtain ⟨big, hbig⟩ : ∃ big, strOfNums xs = big := ⟨_, rfl⟩
          rw [hbig] at hsz
          repeat' (first | (refine lw_pure rfl (pv_move rfl) ?_) | (refine lw_pure rfl (pv_assign rfl) ?_) | (refine is_cw ?_; first | (refine cw_seq ?_) | (refine cw_region ?_)) | (refine is_qw ?_; first | (with_reducible refine qw_then ?_)) | (refine lw_nil ?_) | (refine lw_pure rfl (pv_b2sR HS hxl rfl) ?_))
          rw [hbig]
          clear HS hxl hbig
          have h120 : (⟨#[120]⟩ : ByteArray).size = 1 := rfl
          have hcx : big.size + (⟨#[120]⟩ : ByteArray).size ≤ 9223372036854775807 := by omega
          obtain ⟨p, hp⟩ : ∃ p, emptyB ++ big = p := ⟨_, rfl⟩
          have hpz := n_psz hsz
          have hk := n_k hsz
          rw [hp] at hpz hk
          have hm := n_m hpz hsz
          rw [hp] at hm
          skip
          refine lw_call (f := 35) (by kernel_rfl) rfl rfl (create_is (n := more) hD (by decide) cm) ?_; clear hD; rintro e w1 ⟨rfl, hD, hG⟩; refine ⟨_, rfl, ?_⟩; replace hw := hG.below hw hN hB; clear hG
          repeat' (first | (refine lw_pure rfl (pv_move rfl) ?_))
          refine lw_call (f := 35) (by kernel_rfl) rfl rfl (create_is (n := faa) hD (by decide) cf) ?_; clear hD; rintro e w1 ⟨rfl, hD, hG⟩; refine ⟨_, rfl, ?_⟩; replace hw := hG.below hw hN hB; clear hG
          repeat' (first | (refine lw_pure rfl (pv_move rfl) ?_))
          refine lw_call (f := 35) (by kernel_rfl) rfl rfl (create_is (n := aSb) hD (by decide) ca) ?_; clear hD; rintro e w1 ⟨rfl, hD, hG⟩; refine ⟨_, rfl, ?_⟩; replace hw := hG.below hw hN hB; clear hG
          repeat' (first | (refine lw_pure rfl (pv_move rfl) ?_) | ((refine is_bin ?_; first | (refine lw_pure rfl (pv_cat rfl rfl hcx) ?_))))
          refine lw_call (f := 34) (by kernel_rfl) rfl rfl (append_is (n := faa) (b := big ++ sx) hD (by decide) (n_j hsz)) ?_; clear hD; rintro e w1 ⟨rfl, hD, hG⟩; refine ⟨_, rfl, ?_⟩; replace hw := hG.below hw hN hB; clear hG
          repeat' (first | (refine lw_pure rfl (pv_move rfl) ?_) | (refine lw_pure rfl (pv_assign rfl) ?_) | (refine is_cw ?_; first | (refine cw_seq ?_) | (refine cw_region ?_)) | (refine is_qw ?_; first | (with_reducible refine qw_then ?_)) | (refine lw_nil ?_))
          refine lw_call (f := 34) (by kernel_rfl) rfl rfl (append_is (n := faa) (b := big) hD (by decide) hk) ?_; clear hD; rintro e w1 ⟨rfl, hD, hG⟩; refine ⟨_, rfl, ?_⟩; replace hw := hG.below hw hN hB; clear hG
          repeat' (first | (refine lw_pure rfl (pv_move rfl) ?_))
          refine lw_call (f := 34) (by kernel_rfl) rfl rfl (append_is (n := faa) (b := sx) hD (by decide) (n_l hpz)) ?_; clear hD; rintro e w1 ⟨rfl, hD, hG⟩; refine ⟨_, rfl, ?_⟩; replace hw := hG.below hw hN hB; clear hG
          repeat' (first | (refine lw_pure rfl (pv_move rfl) ?_) | (refine lw_pure rfl (pv_assign rfl) ?_) | (refine is_cw ?_; first | (refine cw_seq ?_) | (refine cw_region ?_)) | (refine is_qw ?_; first | (with_reducible refine qw_then ?_)) | (refine lw_nil ?_))
          refine lw_call (f := 34) (by kernel_rfl) rfl rfl (append_is (n := fab) (b := big) hD (by decide) hm) ?_; clear hD; rintro e w1 ⟨rfl, hD, hG⟩; refine ⟨_, rfl, ?_⟩; replace hw := hG.below hw hN hB; clear hG
          repeat' (first | (refine lw_pure rfl (pv_move rfl) ?_))
          refine lw_call (f := 34) (by kernel_rfl) rfl rfl (append_is (n := fac) (b := sx) hD (by decide) (n_n hpz hpz)) ?_; clear hD; rintro e w1 ⟨rfl, hD, hG⟩; refine ⟨_, rfl, ?_⟩; replace hw := hG.below hw hN hB; clear hG
          repeat' (first | (refine lw_pure rfl (pv_move rfl) ?_))
          refine lw_call (f := 34) (by kernel_rfl) rfl rfl (append_is (n := fac) (b := emptyB) hD (by decide) (n_o hpz hpz)) ?_; clear hD; rintro e w1 ⟨rfl, hD, hG⟩; refine ⟨_, rfl, ?_⟩; replace hw := hG.below hw hN hB; clear hG
          repeat' (first | (refine lw_pure rfl (pv_move rfl) ?_) | (refine lw_pure rfl (pv_assign rfl) ?_) | (refine is_cw ?_; first | (refine cw_seq ?_) | (refine cw_region ?_)) | (refine is_qw ?_; first | (with_reducible refine qw_then ?_)) | (refine lw_nil ?_))
          refine lw_call (f := 37) (by kernel_rfl) rfl rfl (trim_is (n := faa) hD (by decide) n_p) ?_; clear hD; rintro e w1 ⟨rfl, hD, hG⟩; refine ⟨_, rfl, ?_⟩; replace hw := hG.below hw hN hB; clear hG
          repeat' (first | (refine lw_pure rfl (pv_move rfl) ?_))
          refine lw_call (f := 37) (by kernel_rfl) rfl rfl (trim_is (n := faa) hD (by decide) (n_q hpz)) ?_; clear hD; rintro e w1 ⟨rfl, hD, hG⟩; refine ⟨_, rfl, ?_⟩; replace hw := hG.below hw hN hB; clear hG
          repeat' (first | (refine lw_pure rfl (pv_move rfl) ?_))
          refine lw_call (f := 37) (by kernel_rfl) rfl rfl (trim_is (n := nonB) hD (by decide) n_r) ?_; clear hD; rintro e w1 ⟨rfl, hD, hG⟩; refine ⟨_, rfl, ?_⟩; replace hw := hG.below hw hN hB; clear hG
          repeat' (first | (refine lw_pure rfl (pv_move rfl) ?_) | (refine lw_pure rfl (pv_assign rfl) ?_) | (refine is_cw ?_; first | (refine cw_seq ?_) | (refine cw_region ?_)) | (refine is_qw ?_; first | (with_reducible refine qw_then ?_)) | (refine lw_nil ?_))
          refine lw_call (f := 38) (by kernel_rfl) rfl rfl (rename_is (n := nonB) (t := aSb) hD (by decide) (by decide) n_s) ?_; clear hD; rintro e w1 ⟨rfl, hD, hG⟩; refine ⟨_, rfl, ?_⟩; replace hw := hG.below hw hN hB; clear hG
          repeat' (first | (refine lw_pure rfl (pv_move rfl) ?_))
          refine lw_call (f := 38) (by kernel_rfl) rfl rfl (rename_is (n := faa) (t := aSb) hD (by decide) (by decide) n_t) ?_; clear hD; rintro e w1 ⟨rfl, hD, hG⟩; refine ⟨_, rfl, ?_⟩; replace hw := hG.below hw hN hB; clear hG
          repeat' (first | (refine lw_pure rfl (pv_move rfl) ?_))
          refine lw_call (f := 38) (by kernel_rfl) rfl rfl (rename_is (n := faa) (t := faa) hD (by decide) (by decide) n_u) ?_; clear hD; rintro e w1 ⟨rfl, hD, hG⟩; refine ⟨_, rfl, ?_⟩; replace hw := hG.below hw hN hB; clear hG
          repeat' (first | (refine lw_pure rfl (pv_move rfl) ?_))
          refine lw_call (f := 38) (by kernel_rfl) rfl rfl (rename_is (n := faa) (t := fab) hD (by decide) (by decide) n_v) ?_; clear hD; rintro e w1 ⟨rfl, hD, hG⟩; refine ⟨_, rfl, ?_⟩; replace hw := hG.below hw hN hB; clear hG
          repeat' (first | (refine lw_pure rfl (pv_move rfl) ?_) | (refine lw_pure rfl (pv_assign rfl) ?_) | (refine is_cw ?_; first | (refine cw_seq ?_) | (refine cw_region ?_)) | (refine is_qw ?_; first | (with_reducible refine qw_then ?_)) | (refine lw_nil ?_))
          refine lw_call (f := 29) (by kernel_rfl) rfl rfl (cut_is hD (by omega) n_w) ?_; clear hD; rintro e w1 ⟨rfl, hD, hG⟩; refine ⟨_, rfl, ?_⟩; replace hw := hG.below hw hN hB; clear hG
          repeat' (first | (refine lw_pure rfl (pv_move rfl) ?_))
          refine lw_call (f := 29) (by kernel_rfl) rfl rfl (cut_is hD (by omega) n_x) ?_; clear hD; rintro e w1 ⟨rfl, hD, hG⟩; refine ⟨_, rfl, ?_⟩; replace hw := hG.below hw hN hB; clear hG
          repeat' (first | (refine lw_pure rfl (pv_move rfl) ?_) | (refine lw_pure rfl (pv_assign rfl) ?_) | (refine is_cw ?_; first | (refine cw_seq ?_) | (refine cw_region ?_)) | (refine is_qw ?_; first | (with_reducible refine qw_then ?_)) | (refine lw_nil ?_))
          refine lw_call (f := 36) (by kernel_rfl) rfl rfl (sync_is (n := nonB) hD (by decide) n_y) ?_; clear hD; rintro e w1 ⟨rfl, hD, hG⟩; refine ⟨_, rfl, ?_⟩; replace hw := hG.below hw hN hB; clear hG
          repeat' (first | (refine lw_pure rfl (pv_move rfl) ?_))
          refine lw_call (f := 36) (by kernel_rfl) rfl rfl (sync_is (n := fab) hD (by decide) n_z) ?_; clear hD; rintro e w1 ⟨rfl, hD, hG⟩; refine ⟨_, rfl, ?_⟩; replace hw := hG.below hw hN hB; clear hG
          repeat' (first | (refine lw_pure rfl (pv_move rfl) ?_) | (refine lw_pure rfl (pv_assign rfl) ?_) | (refine is_cw ?_; first | (refine cw_seq ?_) | (refine cw_region ?_)) | (refine is_qw ?_; first | (with_reducible refine qw_then ?_)) | (refine lw_nil ?_) | (refine is_guarded ?_; first | (refine lw_on rfl rfl rfl ?_)) | ((refine is_bin ?_; first | (refine lw_pure rfl (pv_eql rfl rfl) ?_))) | (refine lw_pure rfl (pv_pick_t rfl rfl rfl) ?_))
          refine lw_call (f := 29) (by kernel_rfl) rfl rfl (cut_is hD (by omega) n_c) ?_; clear hD; rintro e w1 ⟨rfl, hD, hG⟩; refine ⟨_, rfl, ?_⟩; replace hw := hG.below hw hN hB; clear hG
          repeat' (first | (refine lw_pure rfl (pv_move rfl) ?_) | (refine is_guarded ?_; first | (refine lw_on rfl rfl rfl ?_)) | ((refine is_bin ?_; first | (refine lw_pure rfl (pv_eql rfl rfl) ?_))) | (refine lw_pure rfl (pv_pick_t rfl rfl rfl) ?_))
          refine lw_call (f := 39) (by kernel_rfl) rfl rfl (delete_is (n := nonB) hD (by decide) n_d) ?_; clear hD; rintro e w1 ⟨rfl, hD, hG⟩; refine ⟨_, rfl, ?_⟩; replace hw := hG.below hw hN hB; clear hG
          repeat' (first | (refine lw_pure rfl (pv_move rfl) ?_) | (refine is_guarded ?_; first | (refine lw_on rfl rfl rfl ?_)) | ((refine is_bin ?_; first | (refine lw_pure rfl (pv_eql rfl rfl) ?_))) | (refine lw_pure rfl (pv_pick_t rfl rfl rfl) ?_))
          refine lw_call (f := 32) (by kernel_rfl) rfl rfl (used_is hD (n_used hpz)) ?_; rintro e w1 ⟨rfl, hb⟩; refine ⟨_, rfl, ?_⟩; replace hD := hD.mono hb; replace hw := grow_trans hw hb; clear hb
          repeat' (first | (refine lw_pure rfl (pv_move rfl) ?_) | (refine is_guarded ?_; first | (refine lw_on rfl rfl rfl ?_)) | ((refine is_bin ?_; first | (refine lw_pure rfl (pv_eql rfl rfl) ?_))) | (refine lw_pure rfl (pv_pick_t rfl rfl rfl) ?_))
          refine lw_call (f := 13) (by kernel_rfl) rfl rfl (files_c hD) ?_; rintro e w7 ⟨⟨v7, rfl, hO7⟩, hb⟩; refine ⟨_, rfl, ?_⟩
          obtain ⟨fa, fc, rfl, -, -⟩ := Own.slR encF_len hO7
          rw [n_len]
          replace hw := grow_trans hw hb
          repeat' (first | (refine lw_pure rfl (pv_assign rfl) ?_) | (refine is_cw ?_; first | (refine cw_ret ?_)) | (refine is_qw ?_; first | (with_reducible refine qw_then ?_)) | (refine lw_nil ?_) | (refine is_guarded ?_; first | (refine lw_on rfl rfl rfl ?_)) | ((refine is_bin ?_; first | (refine lw_pure rfl (pv_eql rfl rfl) ?_))) | ((refine is_bi ?_; first | (refine lw_pure rfl (pv_lenl (tS rfl) rfl) ?_))) | (refine lw_pure rfl (pv_pick_t rfl rfl rfl) ?_))
          exact qw_ret1 rfl rfl ⟨rfl, hw⟩
    · exact absurd h1 (by decide +kernel)
end Go.Proofs.YtncicecmhibpcaaDoor
namespace Go.Proofs.YtncicecmhibpcaaDoor
open Go.ChangeShapes Go.WideShapes Go.ChangeAt Go.RowKit

set_option maxRecDepth 100000 in
theorem diskNames_lifted (os : Os) (started : os.Started) (H : Type) (enc : TypeId × Value → H) :
    ReturnsInHanded {} Tryd.checked os 9 .any (fun w args => (Rows.diskNamesSpec.pre enc Tryd.prog Tryd.f9 [] false w args ∧ laidMetH Tryd.prog Rows.diskNamesRow.laid w) ∧ sizedMet enc Tryd.prog Tryd.f9 (OpenSpec.ofChange Rows.diskNamesSpec) false w args)
      (Rows.diskNamesSpec.post enc Tryd.prog Tryd.f9 false true false false) := by
  refine returnsInHanded_of_change_and (C := Tryd.checked) (X := fun w _ => laidMetH Tryd.prog Rows.diskNamesRow.laid w) (fun _ _ _ hh h => h.of_heap hh) seatOwn started (by kernel_rfl) Tryd.func9
    (ChangeSpec.witness_shaped (enc := enc) (C := Tryd.checked) (os := os) (X := fun w _ => laidMetH Tryd.prog Rows.diskNamesRow.laid w) false (World.laidAll Tryd.prog os seatLaid) #[] 8 (World.laidAll_os _ _ _) (World.shaped_of_ZipB (by kernel_rfl) (by kernel_rfl)) (by kernel_rfl) (by kernel_rfl) (by kernel_rfl) (door_met os _)) ?_
  intro W base args ds gs before hval0 hW _ _ hL _
  have hval : ∀ (j : Nat) t v, Tryd.f9.params[j]? = some t → args[j]? = some v → Value.okWide Tryd.prog W .any base t v := hval0
  have hW' := hW
  obtain ⟨p, q, hA0, hV, hpq, hfz, hnd⟩ := hW
  have hA : DataW.TrodAll enc Tryd.prog W 0 (fun _ => true) true Tryd.f9.params.toList args.toList ds p := hA0
  rw [Tryd.params9] at hA hval
  obtain ⟨args⟩ := args
  have hA1 : DataW.TrodAll enc Tryd.prog W 0 (fun _ => true) true _ args ds p := hA
  clear hA
  obtain ⟨hvn, hdn, hpn⟩ := trodAll_nil hA1
  subst hvn hdn hpn
  obtain ⟨rfl, rfl⟩ := trodVars_none hV
  clear hL
  subst hpq
  refine (nameslaw_c _).mono fun e W' ⟨he, hw⟩ => ?_
  subst he
  have hB := below_trodAll hw (by decide +kernel) hA1
  rw [← Tryd.params9] at hB
  exact ⟨_, rfl, _, _, _, [], _, [], hW', trodAll_mk1 (shut_bool Tryd.underlying4 true), hB, rfl, hw.frame _, fun h => by cases h⟩
theorem diskNames_holds : Rows.DiskNamesSaid :=
  OpenClaim.holds_of_wide 9 Tryd.f9 rfl rfl rfl rfl rfl rfl rfl ⟨rfl, rfl, rfl, rfl, rfl⟩ rfl rfl rfl rfl rfl (by kernel_rfl) Tryd.func9 (by kernel_rfl)
    (of_decide_eq_true (by kernel_rfl)) (by unfold Func.isWrapper; first | (rw [if_pos (by decide +kernel)]; kernel_rfl) | (rw [if_neg (by decide +kernel)]; exact ⟨rfl, rfl⟩))
    (fun os started H enc _ => diskNames_lifted os started H enc)
theorem diskNames_card : Rows.DiskNamesCardSaid :=
  Claim7.holds_tied_plain_at .later [] [.data, .pinned] true (true, "79b72f06149c7553d9b585f3288860acabfcbb772ee7816aa2474633bacae2cd") true
    diskNames_holds (fun _ h => by cases h) (by kernel_rfl) (fun _ h => by cases h) diskNames_row_tie rfl ⟨rfl, rfl⟩ (by kernel_rfl) rfl
    (fun f fn hf hfn => by
      obtain rfl : f = 9 := Option.some.inj ((show Tryd.prog.funcNamed Rows.diskNamesRow.func = some 9 by kernel_rfl).symm.trans hf) |>.symm
      obtain rfl : fn = Tryd.f9 := (Option.some.inj (Tryd.func9.symm.trans hfn)).symm
      exact ⟨by kernel_rfl, fun j t ht => by
        have hall : (Tryd.f9.params.toList.all fun u => !Tryd.prog.wantsStandIn u) = true := by kernel_rfl
        have hm : t ∈ Tryd.f9.params.toList := Array.mem_toList_iff.2 (Array.mem_of_getElem? ht)
        exact (show Tryd.prog.wantsStandIn t = false by simpa using List.all_eq_true.1 hall t hm)⟩)
    (by kernel_rfl)
#print axioms diskNames_card
end Go.Proofs.YtncicecmhibpcaaDoor
