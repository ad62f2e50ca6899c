/-
  DiskMap: its row and its card: whatever the input: true; the input reads as it did. Conditions: what the row prints (the table of functions reads as the program's text lays it).
-/
import Derived.Test.YtncicecmhibpcaaDoorZE2
import Derived.Test.YtncicecmhibpcaaDoorTie
import Derived.Test.YtncicecmhibpcaaDoorCards
import Derived.SevenTiedAt
namespace Go.Proofs.YtncicecmhibpcaaDoor
open Go.RowKit Go.PlainAid

section
variable {w : World} {N B : Nat} {d d' : Dsk} {n t b : ByteArray} {k q : Int}
theorem create_is (h : DkW w N B d) (hn : n.size ≤ 9223372036854775807) (hr : createD d n = (k, d')) : Calls Tryd.prog 35 #[.pointer (some ⟨N, 0, none⟩), .string n] w fun e w' => e = .returned (.int .i64 k) ∧ DkW w' N B d' ∧ Gw N B w w' := by
  have := create_c h hn; rw [hr] at this; exact this
theorem append_is (h : DkW w N B d) (hn : n.size ≤ 9223372036854775807) (hr : appendD d n b = (k, d')) : Calls Tryd.prog 34 #[.pointer (some ⟨N, 0, none⟩), .string n, .string b] w fun e w' => e = .returned (.int .i64 k) ∧ DkW w' N B d' ∧ Gw N B w w' := by
  have := append_c (b := b) h hn; rw [hr] at this; exact this
theorem sync_is (h : DkW w N B d) (hn : n.size ≤ 9223372036854775807) (hr : syncD d n = (k, d')) : Calls Tryd.prog 36 #[.pointer (some ⟨N, 0, none⟩), .string n] w fun e w' => e = .returned (.int .i64 k) ∧ DkW w' N B d' ∧ Gw N B w w' := by
  have := sync_c h hn; rw [hr] at this; exact this
theorem trim_is (h : DkW w N B d) (hn : n.size ≤ 9223372036854775807) (hr : trimD d n q = (k, d')) : Calls Tryd.prog 37 #[.pointer (some ⟨N, 0, none⟩), .string n, .int .i64 q] w fun e w' => e = .returned (.int .i64 k) ∧ DkW w' N B d' ∧ Gw N B w w' := by
  have := dtrim_c h hn q; rw [hr] at this; exact this
theorem rename_is (h : DkW w N B d) (hn : n.size ≤ 9223372036854775807) (ht : t.size ≤ 9223372036854775807) (hr : renameD d n t = (k, d')) : Calls Tryd.prog 38 #[.pointer (some ⟨N, 0, none⟩), .string n, .string t] w fun e w' => e = .returned (.int .i64 k) ∧ DkW w' N B d' ∧ Gw N B w w' := by
  have := rename_c h hn ht; rw [hr] at this; exact this
theorem cut_is (h : DkW w N B d) (hm : q ≤ 9223372036854775807) (hr : cutD d q = (k, d')) : Calls Tryd.prog 29 #[.pointer (some ⟨N, 0, none⟩), .int .i64 q] w fun e w' => e = .returned (.int .i64 k) ∧ DkW w' N B d' ∧ Gw N B w w' := by
  have := cut_c h hm; rw [hr] at this; exact this
theorem crash_is {keep : List Int} {kn kc : Nat} {ka : Option Addr} (h : DkW w N B d) (hkl : keep.length = kn) (HK : SlR encI 1 w ka kc keep) (hka : ∀ x, ka = some x → x.block ≠ B) (hr : crashD d keep = d') : Calls Tryd.prog 17 #[.pointer (some ⟨N, 0, none⟩), .slice ka kn kc] w fun e w' => e = .returned (.int .i64 0) ∧ DkW w' N B d' ∧ Gw N B w w' := by
  have := crash_c h hkl HK hka; rw [hr] at this; exact this
theorem one_is {p r : ByteArray} {c : Bool} (h : DkW w N B d) (hr : decide (d.fs = [⟨n, p, r⟩]) = c) : Calls Tryd.prog 41 #[.pointer (some ⟨N, 0, none⟩), .string n, .string p, .string r] w fun e w' => e = .returned (.bool c) ∧ Below w.heap.size w w' := by
  have := one_c h n p r; rw [hr] at this; exact this
theorem up_is {c : Bool} (h : DkW w N B d) (hr : (!d.dark) = c) : Calls Tryd.prog 30 #[.pointer (some ⟨N, 0, none⟩)] w fun e w' => e = .returned (.bool c) ∧ Below w.heap.size w w' := by
  have := up_c h; rw [hr] at this; exact this
theorem read_is {s : ByteArray} (h : DkW w N B d) (hn : n.size ≤ 9223372036854775807) (hr : readD d n = (s, k)) : Calls Tryd.prog 20 #[.pointer (some ⟨N, 0, none⟩), .string n] w fun e w' => e = .returned (.tuple #[.string s, .int .i64 k]) ∧ Below w.heap.size w w' := by
  have := read_c h hn; rw [hr] at this; exact this
end
section
variable {k nb : Nat} {P : Program} {n : Nat} {l : Fr} {w : World} {Q : Exit → Act → World → Prop} {ops : Array Oper} {os : List Oper} {d : Nat} {ty : TypeId} {pos : String} {af : Array Edge} {S T : TypeId}
theorem lw_bsN (E : ElemT P S T k nb) {m : Nat} {ps : List (Nat × Operand)} {vs cs : List Value} (hd : Nat.blt d n = true) (hps : ps.map (·.1) = List.range m) (hvs : evs l (ps.map (·.2)) = some vs) (hp : 0 < m) (hs : m * k ≤ 16777216) (hcs : (vs.flatMap fun v => v.cells.toList) = cs) (h1 : ∀ v ∈ vs, v.cells.size = k)
    (h : ∀ N w', w.heap.size ≤ N → PT w' N T cs → Below w.heap.size w w' → LW P n ops Q os ((d, .slice (some ⟨N, 0, none⟩) m m) :: l) w') :
    LW P n ops Q (⟨some d, .buildSlice S m ps.toArray, ty, pos, af, none⟩ :: os) l w :=
  lw_bs E hd hps hvs hp hs hcs h1 fun w' hp hb _ => h _ w' (Nat.le_refl _) hp hb
end
def sa : ByteArray := ⟨#[97]⟩
def sb : ByteArray := ⟨#[98]⟩
def sx : ByteArray := ⟨#[120]⟩
def syz : ByteArray := ⟨#[121, 122]⟩
def s17 : ByteArray := ⟨#[49, 50, 51, 52, 53, 54, 55]⟩
def sab : ByteArray := ⟨#[97, 47, 98]⟩
def dA0 : Dsk := ⟨[], 9, -1, false⟩
def dA1 : Dsk := ⟨[⟨sa, emptyB, emptyB⟩], 9, -1, false⟩
def dA2 : Dsk := ⟨[⟨sa, emptyB, sx⟩], 9, -1, false⟩
def dA3 : Dsk := ⟨[⟨sa, sx, emptyB⟩], 9, -1, false⟩
def dA4 : Dsk := ⟨[⟨sa, sx, syz⟩], 9, -1, false⟩
def dA5 : Dsk := ⟨[⟨sa, sx, syz⟩, ⟨sb, emptyB, emptyB⟩], 9, -1, false⟩
def dA6 : Dsk := ⟨[⟨sb, sx, syz⟩], 9, -1, false⟩
def dA7 : Dsk := ⟨[⟨sb, emptyB, emptyB⟩], 9, -1, false⟩
def dC1 : Dsk := ⟨[], 9, 1, false⟩
def dC2 : Dsk := ⟨[⟨sa, emptyB, emptyB⟩], 9, 0, false⟩
def dC3 : Dsk := ⟨[⟨sa, emptyB, sx⟩], 9, 0, true⟩
def dC4 : Dsk := ⟨[⟨sa, sx, emptyB⟩], 9, -1, false⟩
theorem rA1 : createD dA0 sa = (0, dA1) := by decide +kernel
theorem rA2 : appendD dA1 sa sx = (0, dA2) := by decide +kernel
theorem rA3 : syncD dA2 sa = (0, dA3) := by decide +kernel
theorem rA4 : appendD dA3 sa syz = (0, dA4) := by decide +kernel
theorem rA44 : appendD dA4 sa s17 = (44, dA4) := by decide +kernel
theorem rA5 : createD dA4 sb = (0, dA5) := by decide +kernel
theorem rA6 : renameD dA5 sa sb = (0, dA6) := by decide +kernel
theorem rA7 : trimD dA6 sb 0 = (0, dA7) := by decide +kernel
theorem rA8 : createD dA7 sab = (4, dA7) := by decide +kernel
theorem rC1 : cutD dA0 1 = (0, dC1) := by decide +kernel
theorem rC2 : createD dC1 sa = (0, dC2) := by decide +kernel
theorem rC3 : appendD dC2 sa sx = (45, dC3) := by decide +kernel
theorem rC4 : crashD dC3 [1] = dC4 := by decide +kernel
theorem rCr : readD dC3 sa = (emptyB, 45) := by decide +kernel
def wantsL : List ByteArray := [⟨#[120]⟩, ⟨#[120, 121]⟩, ⟨#[120, 121, 122]⟩, ⟨#[120]⟩]
theorem rW0 : ∀ k : Fin 4, (crashD dA4 [((k.val : Nat) : Int)]).fs = [⟨sa, wantsL.getD k.val emptyB, emptyB⟩] := by decide +kernel
theorem rW {k : Nat} (h : k < 4) {s : ByteArray} (hs : wantsL[k]? = some s) : decide ((crashD dA4 [(k : Int)]).fs = [⟨sa, s, emptyB⟩]) = true := by
  have := rW0 ⟨k, h⟩
  dsimp only at this
  rw [this, List.getD_eq_getElem?_getD, hs]
  simp
theorem elemXn : ElemT Tryd.prog 23 3 1 8 := elem_of Tryd.underlying23 (by kernel_rfl) (by omega)
set_option maxRecDepth 20000 in
set_option maxHeartbeats 1000000 in
theorem awake_c (w : World) : Calls Tryd.prog 11 #[] w fun e w' => e = .returned (.bool true) ∧ Below w.heap.size w w' := by
  have hw := Below.refl w.heap.size w
  refine fn_enter 129 Tryd.func11 rfl rfl rfl ?_
  repeat' (first | (refine lw_pure rfl (pv_assign rfl) ?_) | (refine is_cw ?_; first | (refine cw_seq ?_) | (refine cw_region ?_)) | (refine is_qw ?_; first | (with_reducible refine qw_then ?_)) | (refine lw_nil ?_))
  refine lw_call (f := 12) (by kernel_rfl) rfl rfl (small_c (cap := 9) (by omega) (by omega) _) ?_; rintro e w1 ⟨⟨N, B, rfl, hN, hB, hD0⟩, hb⟩; refine ⟨_, rfl, ?_⟩
  replace hN := Nat.le_trans hw.size hN
  replace hB := Nat.le_trans hw.size hB
  replace hw := grow_trans hw hb
  clear hb
  have hD : DkW w1 N B dA0 := hD0
  clear hD0
  repeat' (first | (refine lw_pure rfl (pv_move rfl) ?_) | (refine lw_pure rfl (pv_assign rfl) ?_) | (refine is_cw ?_; first | (refine cw_seq ?_) | (refine cw_region ?_)) | (refine is_qw ?_; first | (with_reducible refine qw_then ?_)) | (refine lw_nil ?_) | (refine is_guarded ?_; first | (refine lw_on rfl rfl rfl ?_)) | ((refine is_bin ?_; first | (refine lw_pure rfl (pv_pnil tpD rfl rfl) ?_))))
  refine lw_call (f := 35) (by kernel_rfl) rfl rfl (create_is (n := sa) hD (by decide) rA1) ?_; clear hD; rintro e w1 ⟨rfl, hD, hG⟩; refine ⟨_, rfl, ?_⟩; replace hw := hG.below hw hN hB; clear hG
  repeat' (first | (refine lw_pure rfl (pv_move rfl) ?_) | (refine is_guarded ?_; first | (refine lw_on rfl rfl rfl ?_)) | ((refine is_bin ?_; first | (refine lw_pure rfl (pv_neq rfl rfl) ?_))) | (refine lw_pure rfl (pv_pick_f rfl rfl rfl) ?_))
  refine lw_call (f := 34) (by kernel_rfl) rfl rfl (append_is (n := sa) (b := sx) hD (by decide) rA2) ?_; clear hD; rintro e w1 ⟨rfl, hD, hG⟩; refine ⟨_, rfl, ?_⟩; replace hw := hG.below hw hN hB; clear hG
  repeat' (first | (refine lw_pure rfl (pv_move rfl) ?_) | (refine is_guarded ?_; first | (refine lw_on rfl rfl rfl ?_)) | ((refine is_bin ?_; first | (refine lw_pure rfl (pv_neq rfl rfl) ?_))) | (refine lw_pure rfl (pv_pick_f rfl rfl rfl) ?_))
  refine lw_call (f := 36) (by kernel_rfl) rfl rfl (sync_is (n := sa) hD (by decide) rA3) ?_; clear hD; rintro e w1 ⟨rfl, hD, hG⟩; refine ⟨_, rfl, ?_⟩; replace hw := hG.below hw hN hB; clear hG
  repeat' (first | (refine lw_pure rfl (pv_move rfl) ?_) | (refine is_guarded ?_; first | (refine lw_on rfl rfl rfl ?_)) | ((refine is_bin ?_; first | (refine lw_pure rfl (pv_neq rfl rfl) ?_))) | (refine lw_pure rfl (pv_pick_f rfl rfl rfl) ?_))
  refine lw_call (f := 34) (by kernel_rfl) rfl rfl (append_is (n := sa) (b := syz) hD (by decide) rA4) ?_; clear hD; rintro e w1 ⟨rfl, hD, hG⟩; refine ⟨_, rfl, ?_⟩; replace hw := hG.below hw hN hB; clear hG
  repeat' (first | (refine lw_pure rfl (pv_move rfl) ?_) | (refine is_guarded ?_; first | (refine lw_on rfl rfl rfl ?_)) | ((refine is_bin ?_; first | (refine lw_pure rfl (pv_neq rfl rfl) ?_))) | (refine lw_pure rfl (pv_pick_f rfl rfl rfl) ?_))
  refine lw_call (f := 34) (by kernel_rfl) rfl rfl (append_is (n := sa) (b := s17) hD (by decide) rA44) ?_; clear hD; rintro e w1 ⟨rfl, hD, hG⟩; refine ⟨_, rfl, ?_⟩; replace hw := hG.below hw hN hB; clear hG
  repeat' (first | (refine lw_pure rfl (pv_move rfl) ?_) | (refine is_guarded ?_; first | (refine lw_on rfl rfl rfl ?_)) | ((refine is_bin ?_; first | (refine lw_pure rfl (pv_neq rfl rfl) ?_))) | (refine lw_pure rfl (pv_pick_f rfl rfl rfl) ?_))
  refine lw_call (f := 41) (by kernel_rfl) rfl rfl (one_is (n := sa) (p := sx) (r := syz) (c := true) hD (by decide +kernel)) ?_; rintro e w1 ⟨rfl, hb⟩; refine ⟨_, rfl, ?_⟩; replace hD := hD.mono hb; replace hw := grow_trans hw hb; clear hb
  repeat' (first | (refine is_cw ?_; first | (refine cw_seq ?_) | (refine cw_region ?_) | (refine cw_false rfl rfl ?_) | (refine cw_skip ?_)) | (refine is_qw ?_; first | (with_reducible refine qw_then ?_)) | (refine lw_nil ?_) | (refine is_guarded ?_; first | (refine lw_on rfl rfl rfl ?_)) | ((refine is_un ?_; first | (refine lw_pure rfl (pv_not rfl) ?_))) | (refine lw_pure rfl (pv_pick_f rfl rfl rfl) ?_))
  refine lw_bsN (vs := [.string ⟨#[120]⟩, .string ⟨#[120, 121]⟩, .string ⟨#[120, 121, 122]⟩, .string ⟨#[120]⟩]) (cs := wantsL.flatMap encT) elemXs rfl rfl rfl (by omega) (by omega) rfl (by intro v hv; simp at hv; rcases hv with rfl | rfl | rfl | rfl <;> rfl) ?_; intro N3 w3 hN3 HB hb
  have hl4 : wantsL.length = 4 := rfl
  have HW : SlR encT 1 w3 (some ⟨N3, 0, none⟩) 4 wantsL := HB.slR (xs := wantsL) encT_len rfl (by omega)
  replace hD := hD.mono hb
  replace hw := grow_trans hw hb
  clear hb
  repeat' (first | (refine lw_pure rfl (pv_move rfl) ?_) | (refine is_cw ?_; first | (refine cw_block ?_)) | (refine is_qw ?_; first | (with_reducible refine qw_then ?_)) | (refine lw_nil ?_) | ((refine is_bi ?_; first | (refine lw_pure rfl (pv_lenl (tS rfl) rfl) ?_))))
  refine cw_loop (σ := Nat) (fun k => [(1, .pointer (some ⟨N, 0, none⟩)), (41, .slice (some ⟨N3, 0, none⟩) 4 4), (42, .int .i64 4), (43, .int .i64 (k : Nat))]) (fun k wr => k ≤ 4 ∧ Below w.heap.size w wr ∧ DkW wr N B dA4 ∧ SlR encT 1 wr (some ⟨N3, 0, none⟩) 4 wantsL) (fun k => 4 - k) 0 (by repeat' (first | exact trivial | refine ⟨rfl, ?_⟩)) ⟨Nat.zero_le _, hw, hD, HW⟩ ?_
  clear hw hD HW HB
  rintro k wr ⟨hk, hw, hD, HW⟩
  by_cases hlt : k < 4
  · have hxk : wantsL[k]? = some wantsL[k] := List.getElem?_eq_getElem (by rw [hl4]; exact hlt)
    generalize wantsL[k] = s at hxk
    have hw0 := hw
    have hDl := hD.lt
    clear hw
    have hw := Below.refl wr.heap.size wr
    repeat' (first | (refine lw_pure rfl (pv_move rfl) ?_) | (refine lw_pure rfl (pv_assign rfl) ?_) | (refine is_cw ?_; first | (refine cw_seq ?_) | (refine cw_region ?_) | (refine cw_true rfl (by first | assumption | exact decide_eq_true (by omega) | exact dec_notT (by omega)) ?_) | (refine cw_skip ?_) | (refine cw_block ?_)) | (refine is_qw ?_; first | (with_reducible refine qw_then ?_)) | (refine lw_nil ?_) | ((refine is_bin ?_; first | (refine lw_pure rfl (pv_lss rfl rfl) ?_))) | ((refine is_load ?_; first | (refine lw_pure rfl (pv_load (t1 rfl) rfl (by first | exact SlR.ld (HW.mono hw) hxk rfl | exact SlR.ld1 (HW.mono hw) hxk rfl)) ?_))) | ((refine is_ia ?_; first | (refine lw_pure rfl (pv_ian (tS rfl) rfl rfl (by omega)) ?_))))
    refine lw_call (f := 28) (by kernel_rfl) rfl rfl (copy_c (hD.mono hw)) ?_; rintro e w4 ⟨⟨N4, B4, rfl, hN4, hB4, hD4⟩, hb⟩; refine ⟨_, rfl, ?_⟩
    replace hN4 := Nat.le_trans hw.size hN4
    replace hB4 := Nat.le_trans hw.size hB4
    replace hw := grow_trans hw hb
    clear hb
    repeat' (first | (refine lw_pure rfl (pv_move rfl) ?_) | (refine lw_pure rfl (pv_assign rfl) ?_) | (refine is_cw ?_; first | (refine cw_seq ?_) | (refine cw_region ?_)) | (refine is_qw ?_; first | (with_reducible refine qw_then ?_)) | (refine lw_nil ?_))
    refine lw_bsN (vs := [.int .i64 (k : Nat)]) (cs := [.int .i64 (k : Nat)]) elemXn rfl rfl rfl (by omega) (by omega) rfl (by intro v hv; simp at hv; subst hv; rfl) ?_; intro N5 w5 hN5 H5 hb
    have HK : SlR encI 1 w5 (some ⟨N5, 0, none⟩) 1 [((k : Nat) : Int)] := H5.slR (xs := [((k : Nat) : Int)]) encI_len rfl (by omega)
    have hl2 := hD4.lt
    replace hD4 := hD4.mono hb
    replace hw := grow_trans hw hb
    clear hb
    refine lw_call (f := 17) (by kernel_rfl) rfl rfl (crash_c hD4 (keep := [((k : Nat) : Int)]) rfl HK (fun x hx => by injection hx with hx; subst hx; show N5 ≠ B4; omega)) ?_; clear hD4; rintro e w6 ⟨rfl, hD4, hG⟩; refine ⟨_, rfl, ?_⟩
    have hD6 := (hD.mono hw).gw hG ⟨by omega, by omega⟩ ⟨by omega, by omega⟩
    have HW6 := (HW.mono hw).gw hG (fun x hx => by injection hx with hx; subst hx; have := (HW.ofSome _ rfl (by omega)).2.1; exact ⟨by show N3 ≠ N4; dsimp only at this; omega, by show N3 ≠ B4; dsimp only at this; omega⟩)
    replace hw := hG.below hw hN4 hB4
    clear hG
    repeat' (first | (refine lw_pure rfl (pv_move rfl) ?_) | (refine is_guarded ?_; first | (refine lw_on rfl rfl rfl ?_)) | ((refine is_bin ?_; first | (refine lw_pure rfl (pv_neq rfl rfl) ?_))))
    refine lw_call (f := 41) (by kernel_rfl) rfl rfl (one_is (n := sa) (p := s) (r := emptyB) (c := true) hD4 (rW hlt hxk)) ?_; rintro e w7 ⟨rfl, hb⟩; refine ⟨_, rfl, ?_⟩
    replace hw := grow_trans hw hb
    repeat' (first | (refine lw_pure rfl (pv_move rfl) ?_) | (refine is_cw ?_; first | (refine cw_region ?_) | (refine cw_false rfl rfl ?_) | (refine cw_skip ?_)) | (refine is_qw ?_; first | (with_reducible refine qw_then ?_) | (with_reducible refine qw_in ?_)) | (refine lw_nil ?_) | (refine is_guarded ?_; first | (refine lw_on rfl rfl rfl ?_)) | ((refine is_bin ?_; first | (refine lw_pure rfl (pv_inc rfl rfl (by omega)) ?_))) | ((refine is_un ?_; first | (refine lw_pure rfl (pv_not rfl) ?_))) | (refine lw_pure rfl (pv_pick_f rfl rfl rfl) ?_))
    exact qw_round (k + 1) (by repeat' (first | exact trivial | refine ⟨rfl, ?_⟩)) ⟨by omega, grow_trans hw0 hw, hD6.mono hb, HW6.mono hb⟩ (by omega)
  · have hk4 : k = 4 := by omega
    subst hk4
    clear HW hlt hk
    repeat' (first | (refine is_cw ?_; first | (refine cw_seq ?_) | (refine cw_region ?_) | (refine cw_false rfl rfl ?_) | (refine cw_exit ?_)) | (refine is_qw ?_; first | (with_reducible refine qw_then ?_) | (with_reducible refine qw_in_hit ?_) | (with_reducible refine qw_then_exit ?_)) | (refine lw_nil ?_) | ((refine is_bin ?_; first | (refine lw_pure rfl (pv_lss rfl rfl) ?_))))
    have hDk := hD
    clear hD
    refine lw_call (f := 12) (by kernel_rfl) rfl rfl (small_c (cap := 9) (by omega) (by omega) _) ?_; rintro e w5 ⟨⟨N5, B5, rfl, hN5, hB5, hD0⟩, hb⟩; refine ⟨_, rfl, ?_⟩
    have hDl := hDk.lt
    replace hDk := (hDk.mono hb)
    have hc1 : N ≠ N5 ∧ N ≠ B5 := ⟨by omega, by omega⟩
    have hc2 : B ≠ N5 ∧ B ≠ B5 := ⟨by omega, by omega⟩
    replace hN5 := Nat.le_trans hw.size hN5
    replace hB5 := Nat.le_trans hw.size hB5
    replace hw := grow_trans hw hb
    clear hb
    have hD : DkW w5 N5 B5 dA0 := hD0
    clear hD0
    repeat' (first | (refine lw_pure rfl (pv_move rfl) ?_) | (refine lw_pure rfl (pv_assign rfl) ?_) | (refine is_cw ?_; first | (refine cw_seq ?_) | (refine cw_region ?_)) | (refine is_qw ?_; first | (with_reducible refine qw_then ?_)) | (refine lw_nil ?_))
    refine lw_call (f := 29) (by kernel_rfl) rfl rfl (cut_is hD (by omega) rC1) ?_; clear hD; rintro e w1 ⟨rfl, hD, hG⟩; refine ⟨_, rfl, ?_⟩; replace hDk := hDk.gw hG hc1 hc2; replace hw := hG.below hw hN5 hB5; clear hG
    repeat' (first | (refine lw_pure rfl (pv_move rfl) ?_) | (refine is_guarded ?_; first | (refine lw_on rfl rfl rfl ?_)) | ((refine is_bin ?_; first | (refine lw_pure rfl (pv_neq rfl rfl) ?_))))
    refine lw_call (f := 35) (by kernel_rfl) rfl rfl (create_is (n := sa) hD (by decide) rC2) ?_; clear hD; rintro e w1 ⟨rfl, hD, hG⟩; refine ⟨_, rfl, ?_⟩; replace hDk := hDk.gw hG hc1 hc2; replace hw := hG.below hw hN5 hB5; clear hG
    repeat' (first | (refine lw_pure rfl (pv_move rfl) ?_) | (refine is_guarded ?_; first | (refine lw_on rfl rfl rfl ?_)) | ((refine is_bin ?_; first | (refine lw_pure rfl (pv_neq rfl rfl) ?_))) | (refine lw_pure rfl (pv_pick_f rfl rfl rfl) ?_))
    refine lw_call (f := 34) (by kernel_rfl) rfl rfl (append_is (n := sa) (b := sx) hD (by decide) rC3) ?_; clear hD; rintro e w1 ⟨rfl, hD, hG⟩; refine ⟨_, rfl, ?_⟩; replace hDk := hDk.gw hG hc1 hc2; replace hw := hG.below hw hN5 hB5; clear hG
    repeat' (first | (refine lw_pure rfl (pv_move rfl) ?_) | (refine is_guarded ?_; first | (refine lw_on rfl rfl rfl ?_)) | ((refine is_bin ?_; first | (refine lw_pure rfl (pv_neq rfl rfl) ?_))) | (refine lw_pure rfl (pv_pick_f rfl rfl rfl) ?_))
    refine lw_call (f := 30) (by kernel_rfl) rfl rfl (up_is (c := false) hD rfl) ?_; rintro e w1 ⟨rfl, hb⟩; refine ⟨_, rfl, ?_⟩; replace hD := hD.mono hb; replace hDk := hDk.mono hb; replace hw := grow_trans hw hb; clear hb
    repeat' (first | (refine lw_pure rfl (pv_move rfl) ?_) | (refine is_cw ?_; first | (refine cw_seq ?_) | (refine cw_region ?_) | (refine cw_false rfl rfl ?_) | (refine cw_skip ?_)) | (refine is_qw ?_; first | (with_reducible refine qw_then ?_)) | (refine lw_nil ?_) | (refine lw_pure rfl (pv_pick_f rfl rfl rfl) ?_))
    refine lw_call (f := 20) (by kernel_rfl) rfl rfl (read_is (n := sa) hD (by decide) rCr) ?_; rintro e w1 ⟨rfl, hb⟩; refine ⟨_, rfl, ?_⟩; replace hD := hD.mono hb; replace hDk := hDk.mono hb; replace hw := grow_trans hw hb; clear hb
    repeat' (first | (refine lw_pure rfl (pv_move rfl) ?_) | (refine lw_pure rfl (pv_assign rfl) ?_) | (refine is_cw ?_; first | (refine cw_seq ?_) | (refine cw_region ?_)) | (refine is_qw ?_; first | (with_reducible refine qw_then ?_)) | (refine lw_nil ?_) | (refine is_guarded ?_; first | (refine lw_on rfl rfl rfl ?_)) | ((refine is_bin ?_; first | (refine lw_pure rfl (pv_neq rfl rfl) ?_))) | (refine lw_pure rfl (pv_extract rfl rfl) ?_))
    refine lw_bsN (vs := [.int .i64 1]) (cs := [.int .i64 1]) elemXn rfl rfl rfl (by omega) (by omega) rfl (by intro v hv; simp at hv; subst hv; rfl) ?_; intro N6 w6 hN6 H6 hb
    have HK : SlR encI 1 w6 (some ⟨N6, 0, none⟩) 1 [(1 : Int)] := H6.slR (xs := [(1 : Int)]) encI_len rfl (by omega)
    have hl2 := hD.lt
    replace hD := hD.mono hb
    replace hDk := hDk.mono hb
    replace hw := grow_trans hw hb
    clear hb
    repeat' (first | (refine is_guarded ?_; first | (refine lw_on rfl rfl rfl ?_)))
    refine lw_call (f := 17) (by kernel_rfl) rfl rfl (crash_is hD (keep := [(1 : Int)]) rfl HK (fun x hx => by injection hx with hx; subst hx; show N6 ≠ B5; omega) rC4) ?_; clear hD; rintro e w1 ⟨rfl, hD, hG⟩; refine ⟨_, rfl, ?_⟩; replace hDk := hDk.gw hG hc1 hc2; replace hw := hG.below hw hN5 hB5; clear hG
    repeat' (first | (refine lw_pure rfl (pv_move rfl) ?_) | (refine is_guarded ?_; first | (refine lw_on rfl rfl rfl ?_)) | ((refine is_bin ?_; first | (refine lw_pure rfl (pv_neq rfl rfl) ?_))) | (refine lw_pure rfl (pv_pick_f rfl rfl rfl) ?_))
    refine lw_call (f := 41) (by kernel_rfl) rfl rfl (one_is (n := sa) (p := sx) (r := emptyB) (c := true) hD (by decide +kernel)) ?_; rintro e w1 ⟨rfl, hb⟩; refine ⟨_, rfl, ?_⟩; replace hD := hD.mono hb; replace hDk := hDk.mono hb; replace hw := grow_trans hw hb; clear hb
    repeat' (first | (refine lw_pure rfl (pv_move rfl) ?_) | (refine is_guarded ?_; first | (refine lw_on rfl rfl rfl ?_)) | ((refine is_un ?_; first | (refine lw_pure rfl (pv_not rfl) ?_))) | (refine lw_pure rfl (pv_pick_f rfl rfl rfl) ?_))
    refine lw_call (f := 30) (by kernel_rfl) rfl rfl (up_is (c := true) hD rfl) ?_; rintro e w1 ⟨rfl, hb⟩; refine ⟨_, rfl, ?_⟩; replace hD := hD.mono hb; replace hDk := hDk.mono hb; replace hw := grow_trans hw hb; clear hb
    repeat' (first | (refine lw_pure rfl (pv_move rfl) ?_) | (refine is_cw ?_; first | (refine cw_seq ?_) | (refine cw_region ?_) | (refine cw_false rfl rfl ?_) | (refine cw_skip ?_)) | (refine is_qw ?_; first | (with_reducible refine qw_then ?_)) | (refine lw_nil ?_) | (refine is_guarded ?_; first | (refine lw_on rfl rfl rfl ?_)) | ((refine is_un ?_; first | (refine lw_pure rfl (pv_not rfl) ?_))) | (refine lw_pure rfl (pv_pick_f rfl rfl rfl) ?_))
    clear hD
    have hD := hDk
    clear hDk
    refine lw_call (f := 35) (by kernel_rfl) rfl rfl (create_is (n := sb) hD (by decide) rA5) ?_; clear hD; rintro e w1 ⟨rfl, hD, hG⟩; refine ⟨_, rfl, ?_⟩; replace hw := hG.below hw hN hB; clear hG
    repeat' (first | (refine lw_pure rfl (pv_move rfl) ?_) | (refine is_guarded ?_; first | (refine lw_on rfl rfl rfl ?_)) | ((refine is_bin ?_; first | (refine lw_pure rfl (pv_eql rfl rfl) ?_))))
    refine lw_call (f := 38) (by kernel_rfl) rfl rfl (rename_is (n := sa) (t := sb) hD (by decide) (by decide) rA6) ?_; clear hD; rintro e w1 ⟨rfl, hD, hG⟩; refine ⟨_, rfl, ?_⟩; replace hw := hG.below hw hN hB; clear hG
    repeat' (first | (refine lw_pure rfl (pv_move rfl) ?_) | (refine is_guarded ?_; first | (refine lw_on rfl rfl rfl ?_)) | ((refine is_bin ?_; first | (refine lw_pure rfl (pv_eql rfl rfl) ?_))) | (refine lw_pure rfl (pv_pick_t rfl rfl rfl) ?_))
    refine lw_call (f := 41) (by kernel_rfl) rfl rfl (one_is (n := sb) (p := sx) (r := syz) (c := true) hD (by decide +kernel)) ?_; rintro e w1 ⟨rfl, hb⟩; refine ⟨_, rfl, ?_⟩; replace hD := hD.mono hb; replace hw := grow_trans hw hb; clear hb
    repeat' (first | (refine lw_pure rfl (pv_move rfl) ?_) | (refine is_guarded ?_; first | (refine lw_on rfl rfl rfl ?_)) | (refine lw_pure rfl (pv_pick_t rfl rfl rfl) ?_))
    refine lw_call (f := 37) (by kernel_rfl) rfl rfl (trim_is (n := sb) hD (by decide) rA7) ?_; clear hD; rintro e w1 ⟨rfl, hD, hG⟩; refine ⟨_, rfl, ?_⟩; replace hw := hG.below hw hN hB; clear hG
    repeat' (first | (refine lw_pure rfl (pv_move rfl) ?_) | (refine is_guarded ?_; first | (refine lw_on rfl rfl rfl ?_)) | ((refine is_bin ?_; first | (refine lw_pure rfl (pv_eql rfl rfl) ?_))) | (refine lw_pure rfl (pv_pick_t rfl rfl rfl) ?_))
    refine lw_call (f := 41) (by kernel_rfl) rfl rfl (one_is (n := sb) (p := emptyB) (r := emptyB) (c := true) hD (by decide +kernel)) ?_; rintro e w1 ⟨rfl, hb⟩; refine ⟨_, rfl, ?_⟩; replace hD := hD.mono hb; replace hw := grow_trans hw hb; clear hb
    repeat' (first | (refine lw_pure rfl (pv_move rfl) ?_) | (refine is_guarded ?_; first | (refine lw_on rfl rfl rfl ?_)) | (refine lw_pure rfl (pv_pick_t rfl rfl rfl) ?_))
    refine lw_call (f := 35) (by kernel_rfl) rfl rfl (create_is (n := sab) hD (by decide) rA8) ?_; clear hD; rintro e w1 ⟨rfl, hD, hG⟩; refine ⟨_, rfl, ?_⟩; replace hw := hG.below hw hN hB; clear hG
    repeat' (first | (refine lw_pure rfl (pv_assign rfl) ?_) | (refine is_cw ?_; first | (refine cw_ret ?_)) | (refine is_qw ?_; first | (with_reducible refine qw_then ?_)) | (refine lw_nil ?_) | (refine is_guarded ?_; first | (refine lw_on rfl rfl rfl ?_)) | ((refine is_bin ?_; first | (refine lw_pure rfl (pv_eql rfl rfl) ?_))) | (refine lw_pure rfl (pv_pick_t rfl rfl rfl) ?_))
    exact qw_ret1 rfl rfl ⟨rfl, hw⟩

theorem is_seqr {P : Program} {n : Nat} {l : Fr} {w : World} {Q : Exit → Act → World → Prop} (i : Nat) {ops : Array Oper} {d : Bool} {y : Code} (h : CW P n (.seq (.region i ops d) y) Q l w) : CW P n (.seq (.region i ops d) y) Q l w := h
theorem free0 {cap : Int} (h : 0 ≤ cap) (h2 : cap ≤ 9223372036854775807) : Free ⟨[], cap, -1, false⟩ := ⟨⟨List.Pairwise.nil, fun f hf => (by cases hf), fun f hf => (by cases hf), (by simp), (by simpa [usedF] using h), h2, (by show (-1 : Int) ≤ -1; omega), (by show (-1 : Int) ≤ 9223372036854775807; omega)⟩, rfl, rfl⟩
theorem free_is {d : Dsk} (h : Free d) {c : Int} (hc : d.cap = c) : (⟨d.fs, c, -1, false⟩ : Dsk) = d := by
  rw [dsk_ext]; exact ⟨rfl, hc.symm, h.left.symm, h.up.symm⟩
theorem same_is {w : World} {N1 B1 N2 B2 : Nat} {a b : Dsk} {c : Bool} (h1 : DkW w N1 B1 a) (h2 : DkW w N2 B2 b) (hr : decide (a = b) = c) : Calls Tryd.prog 26 #[.pointer (some ⟨N1, 0, none⟩), .pointer (some ⟨N2, 0, none⟩)] w fun e w' => e = .returned (.bool c) ∧ Below w.heap.size w w' := by
  have := same_c h1 h2; rw [hr] at this; exact this
theorem load_is {w : World} {cap : Int} {l : List Fil} {n ca : Nat} {a : Option Addr} (hO : SlR encF 3 w a ca l) (hn : l.length = n) (hcap : cap ≤ 9223372036854775807) (hs : ∀ f ∈ l, nameF f.name = true ∧ szF f ≤ 1048576) (hr : loadD cap l = (0, ⟨l, cap, -1, false⟩)) : Calls Tryd.prog 21 #[.int .i64 cap, .slice a n ca] w fun e w' => (∃ N B, e = .returned (.tuple #[.pointer (some ⟨N, 0, none⟩), .int .i64 0]) ∧ w.heap.size ≤ N ∧ w.heap.size ≤ B ∧ DkW w' N B ⟨l, cap, -1, false⟩) ∧ Below w.heap.size w w' := by
  refine (load_c hn hcap (fun f hf => ?_) hO).mono ?_
  · obtain ⟨h1, h2⟩ := hs f hf
    unfold nameF at h1
    simp only [Bool.and_eq_true, decide_eq_true_eq] at h1
    unfold szF at h2
    omega
  · rintro e w' ⟨hL, hb⟩
    rcases hL with ⟨h1, _⟩ | ⟨_, h2⟩
    · rw [hr] at h1; exact absurd rfl h1
    · exact ⟨h2, hb⟩

abbrev evK (t : ByteArray) : Value := .agg #[.string t]
theorem zK (w : World) : (zeroValue 44).run Tryd.prog w = .ok (evK emptyB) w := by kernel_rfl
section
variable {P : Program} {n : Nat} {l : Fr} {w : World} {B : Nat} {Q : Exit → Act → World → Prop} {ops : Array Oper} {os : List Oper} {d : Option Nat} {ty : TypeId} {pos : String} {af : Array Edge} {g : Option (Nat × Bool)} {T K V t t' : TypeId} {x y z : Operand} {m : List (ByteArray × ByteArray)} {k : ByteArray}
theorem pv_lookK (ht : P.underlying T = some (.map K V)) (E : KeyE P K ekS) (hz : ∀ w, (zeroValue V).run P w = .ok (evK emptyB) w) (hk : k.size ≤ 9223372036854775807) {s : ByteArray} {is : Bool} (h1 : (getM m k).getD emptyB = s) (h2 : (getM m k).isSome = is) (hx : ev l x = some (.map (some B))) (hy : ev l y = some (.string k)) (h : MpB evK w B m) :
    Pv P n l ⟨d, .lookup T x y true, ty, pos, af, g⟩ (.tuple #[evK s, .bool is]) w := by
  subst h1 h2
  exact pv_lookB_ok ht E hz hk hx hy h
theorem lw_delB {ts : Array TypeId} (hts : ts[0]? = some T) (ht : P.underlying T = some (.map K V)) (E : KeyE P K ekS) (hk : k.size ≤ 9223372036854775807) (hx : ev l x = some (.map (some B))) (hy : ev l y = some (.string k)) (h : MpB evK w B m)
    (hc : ∀ w', MpB evK w' B (delM m k) → w.grownBy w' (some B) → w'.heap.size = w.heap.size → LW P n ops Q os l w') : LW P n ops Q (⟨none, .call ⟨.builtin .delete, #[x, y], ts⟩, ty, pos, af, none⟩ :: os) l w :=
  lw_some0 (Φ := fun w' => MpB evK w' B (delM m k) ∧ w.grownBy w' (some B) ∧ w'.heap.size = w.heap.size) (fun a ha => by
    obtain ⟨v, w', e1, _, e3⟩ := some_delB (d := none) (ty := ty) (pos := pos) (af := af) (g := none) hts ht E hk hx hy h a ha
    exact ⟨v, w', e1, e3⟩) fun w' ⟨h1, h2, h3⟩ => hc w' h1 h2 h3
theorem pv_predn {i : Nat} (hx : ev l x = some (.int .i64 ((i + 1 : Nat) : Int))) (hy : ev l y = some (.int .i64 1)) (h : i < 9223372036854775807) : Pv P n l ⟨d, .binOp .sub t x y t', ty, pos, af, g⟩ (.int .i64 (i : Nat)) w := by
  have e : ((i + 1 : Nat) : Int) - 1 = (i : Int) := by omega
  have := pv_sub (P := P) (n := n) (w := w) (d := d) (ty := ty) (pos := pos) (af := af) (g := g) (t := t) (t' := t') hx hy (by omega)
  rwa [e] at this
end
def wantE (o : DOp) (m : List (ByteArray × ByteArray)) : List (ByteArray × ByteArray) := if wantN o m = 0 then wantM o m else m
section
variable {o : DOp} {m m9 : List (ByteArray × ByteArray)} {wn : Int} {t : ByteArray}
theorem we_no {k : Int} (h1 : wantN o m = wn) (h2 : wantE o m = m9) (h : wantN o m = k) (hk : k ≠ 0) : wn = k ∧ m9 = m := by
  unfold wantE at h2
  rw [h, if_neg hk] at h2
  exact ⟨h1.symm.trans h, h2.symm⟩
theorem we_yes {r : List (ByteArray × ByteArray)} (h1 : wantN o m = wn) (h2 : wantE o m = m9) (h : wantN o m = 0) (hr : wantM o m = r) : wn = 0 ∧ m9 = r := by
  unfold wantE at h2
  rw [h, if_pos rfl, hr] at h2
  exact ⟨h1.symm.trans h, h2.symm⟩
variable (h1 : wantN o m = wn) (h2 : wantE o m = m9)
include h1 h2
theorem we_form (h0 : o.kind = 0) (hn : nameF o.name = false) : wn = 4 ∧ m9 = m := we_no h1 h2 (by unfold wantN; rw [if_pos h0, if_pos hn]) (by decide)
theorem we_twice (h0 : o.kind = 0) (hn : nameF o.name = true) (hg : (getM m o.name).isSome = true) : wn = 6 ∧ m9 = m := we_no h1 h2 (by unfold wantN; rw [if_pos h0, hn, if_neg (by simp), if_pos hg]) (by decide)
theorem we_full (h0 : o.kind = 0) (hn : nameF o.name = true) (hg : (getM m o.name).isSome = false) (hl : 64 ≤ m.length) : wn = 44 ∧ m9 = m := we_no h1 h2 (by unfold wantN; rw [if_pos h0, hn, if_neg (by simp), hg, if_neg (by simp), if_pos hl]) (by decide)
theorem we_new (h0 : o.kind = 0) (hn : nameF o.name = true) (hg : (getM m o.name).isSome = false) (hl : ¬ 64 ≤ m.length) : wn = 0 ∧ m9 = putM m o.name emptyB := we_yes h1 h2 (by unfold wantN; rw [if_pos h0, hn, if_neg (by simp), hg, if_neg (by simp), if_neg hl]) (by unfold wantM; rw [if_pos h0])
theorem we_none (h0 : ¬ o.kind = 0) (hg : getM m o.name = none) : wn = 5 ∧ m9 = m := we_no h1 h2 (by unfold wantN; rw [if_neg h0, hg]) (by decide)
theorem we_app (hk : o.kind = 1) (hg : getM m o.name = some t) : wn = 0 ∧ m9 = putM m o.name (t ++ o.bytes) := we_yes h1 h2 (by unfold wantN; rw [if_neg (by omega), hg]; dsimp only; rw [if_pos hk]) (by unfold wantM; rw [if_neg (by omega), hg]; dsimp only; rw [if_pos hk])
theorem we_sync (hk : o.kind = 2) (hg : getM m o.name = some t) : wn = 0 ∧ m9 = m := we_yes h1 h2 (by unfold wantN; rw [if_neg (by omega), hg]; dsimp only; rw [if_neg (by omega), if_pos hk]) (by unfold wantM; rw [if_neg (by omega), hg]; dsimp only; rw [if_neg (by omega), if_pos hk])
theorem we_cut0 (hk : o.kind = 3) (hg : getM m o.name = some t) (hn : o.n < 0 ∨ (t.size : Int) < o.n) : wn = 1 ∧ m9 = m := we_no h1 h2 (by unfold wantN; rw [if_neg (by omega), hg]; dsimp only; rw [if_neg (by omega), if_neg (by omega), if_pos hk, if_pos hn]) (by decide)
theorem we_cut (hk : o.kind = 3) (hg : getM m o.name = some t) (hn : ¬ (o.n < 0 ∨ (t.size : Int) < o.n)) : wn = 0 ∧ m9 = putM m o.name (t.extract 0 o.n.toNat) := we_yes h1 h2 (by unfold wantN; rw [if_neg (by omega), hg]; dsimp only; rw [if_neg (by omega), if_neg (by omega), if_pos hk, if_neg hn]) (by unfold wantM; rw [if_neg (by omega), hg]; dsimp only; rw [if_neg (by omega), if_neg (by omega), if_pos hk])
theorem we_to0 (hk : o.kind = 4) (hg : getM m o.name = some t) (hn : nameF o.to = false) : wn = 4 ∧ m9 = m := we_no h1 h2 (by unfold wantN; rw [if_neg (by omega), hg]; dsimp only; rw [if_neg (by omega), if_neg (by omega), if_neg (by omega), if_pos hk, if_pos hn]) (by decide)
theorem we_to1 (hk : o.kind = 4) (hg : getM m o.name = some t) (hn : nameF o.to = true) (he : o.name = o.to) : wn = 1 ∧ m9 = m := we_no h1 h2 (by unfold wantN; rw [if_neg (by omega), hg]; dsimp only; rw [if_neg (by omega), if_neg (by omega), if_neg (by omega), if_pos hk, hn, if_neg (by simp), if_pos he]) (by decide)
theorem we_to (hk : o.kind = 4) (hg : getM m o.name = some t) (hn : nameF o.to = true) (he : ¬ o.name = o.to) : wn = 0 ∧ m9 = putM (delM m o.name) o.to t := we_yes h1 h2 (by unfold wantN; rw [if_neg (by omega), hg]; dsimp only; rw [if_neg (by omega), if_neg (by omega), if_neg (by omega), if_pos hk, hn, if_neg (by simp), if_neg he]) (by unfold wantM; rw [if_neg (by omega), hg]; dsimp only; rw [if_neg (by omega), if_neg (by omega), if_neg (by omega), if_pos hk])
theorem we_del (hk : 5 ≤ o.kind) (hg : getM m o.name = some t) : wn = 0 ∧ m9 = delM m o.name := we_yes h1 h2 (by unfold wantN; rw [if_neg (by omega), hg]; dsimp only; rw [if_neg (by omega), if_neg (by omega), if_neg (by omega), if_neg (by omega)]) (by unfold wantM; rw [if_neg (by omega), hg]; dsimp only; rw [if_neg (by omega), if_neg (by omega), if_neg (by omega), if_neg (by omega)])
end
theorem map_step {o : DOp} {d : Dsk} {m : List (ByteArray × ByteArray)} {u : Nat} (hF : Free d) (hp : m.Perm (mapG txt d.fs)) (hc : d.cap = 1048576) (hu : usedF d.fs ≤ u) (hu2 : u + 2000 ≤ 1048576) (hb : o.bytes.size ≤ 2000) :
    (actD o d).1 = wantN o m ∧ (wantE o m).Perm (mapG txt (actD o d).2.fs) ∧ usedF (actD o d).2.fs ≤ u + 2000 := by
  have hn := num_map (o := o) (cap := d.cap) hp hF.ok.srt (fun _ => ⟨by omega, by omega⟩)
  have hu3 := used_files (o := o) hF.ok.srt
  rw [free_eq hF, hn]
  unfold wantE
  by_cases h : wantN o m = 0
  · rw [if_neg (by simp [h]), if_pos h]
    refine ⟨h.symm, files_map hp hF.ok.srt, ?_⟩
    show usedF (filesD o d.fs) ≤ _
    split at hu3 <;> omega
  · rw [if_pos h, if_neg h]
    exact ⟨rfl, hp, by show usedF d.fs ≤ _; omega⟩
structure MapR (w0 w : World) (N B M : Nat) (d : Dsk) (m : List (ByteArray × ByteArray)) (u : Nat) : Prop where
  hw : Below w0.heap.size w0 w
  hD : DkW w N B d
  hF : Free d
  hM : MpB evK w M m
  hp : m.Perm (mapG txt d.fs)
  cap : d.cap = 1048576
  us : usedF d.fs ≤ u
set_option maxRecDepth 20000 in
set_option maxHeartbeats 8000000 in
theorem maplaw_c {xs : List OpC} {n0 : Nat} {a : Option Addr} {ca : Nat} {w : World} (hm0 : xs.length = n0) (HX : SlR encQ 6 w a ca xs) (bX : ∀ x ∈ xs, OpB x) : Calls Tryd.prog 4 #[.slice a n0 ca] w fun e w' => e = .returned (.bool true) ∧ Below w.heap.size w w' := by
  subst hm0
  have hle := HX.le
  have hmx := HX.max
  have hw := Below.refl w.heap.size w
  refine fn_enter 244 Tryd.func4 rfl rfl rfl ?_
  repeat' (first | (refine lw_pure rfl (pv_move rfl) ?_) | (refine lw_pure rfl (pv_assign rfl) ?_) | (refine is_cw ?_; first | (refine cw_seq ?_) | (refine cw_region ?_)) | (refine is_qw ?_; first | (with_reducible refine qw_then ?_)) | (refine lw_nil ?_))
  refine lw_call (f := 10) (by kernel_rfl) rfl rfl (long_c rfl (HX.mono hw)) ?_; rintro e w1 ⟨⟨b1, rfl, hL1⟩, hb⟩; refine ⟨_, rfl, ?_⟩; replace hw := grow_trans hw hb; clear hb
  cases b1 with
  | true =>
    repeat' (first | (refine lw_pure rfl (pv_move rfl) ?_) | (refine lw_pure rfl (pv_assign rfl) ?_) | ((refine lw_call (f := 11) (by kernel_rfl) rfl rfl (awake_c _) ?_; rintro e1 wz ⟨rfl, hb⟩; refine ⟨_, rfl, ?_⟩; replace hw := grow_trans hw hb; clear hb)) | (refine is_cw ?_; first | (refine cw_seq ?_) | (refine cw_region ?_) | (refine cw_true rfl rfl ?_) | (refine cw_ret ?_)) | (refine is_qw ?_; first | (with_reducible refine qw_then ?_) | (with_reducible refine qw_then_ret ?_)) | (refine lw_nil ?_) | (refine is_guarded ?_; first | (refine lw_not rfl rfl rfl rfl ?_)) | (refine lw_pure rfl (pv_pick_t rfl rfl rfl) ?_))
    exact qw_ret1 rfl rfl ⟨rfl, hw⟩
  | false =>
    obtain ⟨hx60, hxs⟩ := hL1 rfl
    repeat' (first | (refine lw_pure rfl (pv_move rfl) ?_) | ((refine lw_call (f := 11) (by kernel_rfl) rfl rfl (awake_c _) ?_; rintro e1 wz ⟨rfl, hb⟩; refine ⟨_, rfl, ?_⟩; replace hw := grow_trans hw hb; clear hb)) | (refine is_cw ?_; first | (refine cw_seq ?_) | (refine cw_region ?_) | (refine cw_false rfl rfl ?_) | (refine cw_skip ?_)) | (refine is_qw ?_; first | (with_reducible refine qw_then ?_)) | (refine lw_nil ?_) | (refine is_guarded ?_; first | (refine lw_on rfl rfl rfl ?_)) | ((refine is_un ?_; first | (refine lw_pure rfl (pv_not rfl) ?_))) | (refine lw_pure rfl (pv_pick_f rfl rfl rfl) ?_))
    refine lw_call (f := 12) (by kernel_rfl) rfl rfl (small_c (cap := 1048576) (by omega) (by omega) _) ?_; rintro e w1 ⟨⟨N, B, rfl, hN, hB, hD⟩, hb⟩; refine ⟨_, rfl, ?_⟩
    replace hN := Nat.le_trans hw.size hN
    replace hB := Nat.le_trans hw.size hB
    replace hw := grow_trans hw hb
    clear hb
    repeat' (first | (refine lw_pure rfl (pv_assign rfl) ?_) | (refine is_cw ?_; first | (refine cw_seq ?_) | (refine cw_region ?_)) | (refine is_qw ?_; first | (with_reducible refine qw_then ?_)) | (refine lw_nil ?_))
    refine lw_makeMap ekS evK rfl ?_; intro M w2 hMl hM0 hb
    have hM : MpB evK w2 M [] := ⟨[], hM0, rfl⟩
    have l1 := hD.lt
    have qM : (M ≠ N ∧ M ≠ B) ∧ (N ≠ M ∧ B ≠ M) := ⟨⟨by omega, by omega⟩, ⟨by omega, by omega⟩⟩
    replace hMl := Nat.le_trans hw.size hMl
    replace hD := hD.mono hb
    replace hw := grow_trans hw hb
    clear hb l1 hM0
    repeat' (first | (refine lw_pure rfl (pv_assign rfl) ?_) | (refine is_cw ?_; first | (refine cw_seq ?_) | (refine cw_region ?_) | (refine cw_block ?_)) | (refine is_qw ?_; first | (with_reducible refine qw_then ?_)) | (refine lw_nil ?_))
    refine cw_loop (σ := Nat × Dsk × List (ByteArray × ByteArray)) (fun s => [(0, .slice a xs.length ca), (3, .pointer (some ⟨N, 0, none⟩)), (4, .map (some M)), (5, .int .i64 (s.1 : Nat))]) (fun s wr => s.1 ≤ xs.length ∧ MapR w wr N B M s.2.1 s.2.2 (2000 * s.1)) (fun s => xs.length - s.1) (0, ⟨[], 1048576, -1, false⟩, []) (by repeat' (first | exact trivial | refine ⟨rfl, ?_⟩)) ⟨Nat.zero_le _, hw, hD, free0 (by omega) (by omega), hM, List.Perm.refl _, rfl, Nat.le_refl _⟩ ?_
    clear hw hD hM
    rintro ⟨k, d, m⟩ wr ⟨hk1, hR⟩
    replace hk1 : k ≤ xs.length := hk1
    replace hR : MapR w wr N B M d m (2000 * k) := hR
    obtain ⟨hw, hD, hF, hM, hp, hcap, hus⟩ := hR
    change CW Tryd.prog _ _ _ [(0, .slice a xs.length ca), (3, .pointer (some ⟨N, 0, none⟩)), (4, .map (some M)), (5, .int .i64 (k : Nat))] wr
    by_cases hlt : k < xs.length
    · have hxk : xs[k]? = some xs[k] := List.getElem?_eq_getElem hlt
      generalize xs[k] = x at hxk
      have hxm := List.mem_of_getElem? hxk
      have hkd := (bX x hxm).kind
      have hxx := hxs x hxm
      have hs1 := hxx.name
      have hs2 := hxx.to
      have hs3 := hxx.bytes
      have hz1 : x.name.size ≤ 9223372036854775807 := by omega
      have hz2 : x.to.size ≤ 9223372036854775807 := by omega
      obtain ⟨ab, ao, rfl, -, -⟩ := HX.at (by intro h; rw [h] at hlt; simp at hlt)
      repeat' (first | (refine lw_pure rfl (pv_move rfl) ?_) | (refine is_cw ?_; first | (refine cw_seq ?_) | (refine cw_region ?_) | (refine cw_true rfl (by first | assumption | exact decide_eq_true (by omega) | exact dec_notT (by omega)) ?_) | (refine cw_skip ?_) | (refine cw_block ?_)) | (refine is_qw ?_; first | (with_reducible refine qw_then ?_)) | (refine lw_nil ?_) | ((refine is_bin ?_; first | (refine lw_pure rfl (pv_lss rfl rfl) ?_))) | ((refine is_load ?_; first | (refine lw_pure rfl (pv_loada (tA rfl) rfl (by first | exact SlR.lda (HX.mono hw) hxk) (by rfl)) ?_))) | ((refine is_ia ?_; first | (refine lw_pure rfl (pv_ian (tS rfl) rfl rfl (by omega)) ?_))) | ((refine is_bi ?_; first | (refine lw_pure rfl (pv_lenl (tS rfl) rfl) ?_))))
      refine lw_varN rfl (by first | exact tyv_28 | exact tyv_29 | exact tyv_34 | exact tyv_35 | exact tyv_43 | exact tyv_44 | exact tyv_77 | exact tyv_78 | exact tyv_80 | exact tyv_81 | exact tyv_86 | exact tyv_87 | exact tyv_126 | exact tyv_127) rfl (tZ rfl) (fun _ => rfl) rfl rfl ?_; intro N6 w6 hN6 H6 hb
      replace H6 : PT w6 N6 29 (encQ x) := H6
      have l1 := hD.lt
      have l2 := hM.bound
      have q6 : (N6 ≠ N ∧ N6 ≠ B) ∧ N6 ≠ M := ⟨⟨by omega, by omega⟩, by omega⟩
      replace hD := hD.mono hb
      replace hM := hM.mono hb
      replace hw := grow_trans hw hb
      clear hb l1 l2
      by_cases h5 : 5 < x.kind
      · repeat' (first | (refine lw_pure rfl (pv_move rfl) ?_) | (refine lw_pure rfl (pv_assign rfl) ?_) | (refine is_cw ?_; first | (refine cw_seq ?_) | (refine cw_region ?_) | (refine cw_true rfl (by first | assumption | exact decide_eq_true (by omega) | exact dec_notT (by omega)) ?_) | (refine cw_exit ?_)) | (refine is_qw ?_; first | (with_reducible refine qw_then ?_) | (with_reducible refine qw_in_hit ?_) | (with_reducible refine qw_then_exit ?_)) | (refine lw_nil ?_) | ((refine is_bin ?_; first | (refine lw_pure rfl (pv_gtr rfl rfl) ?_) | (refine lw_pure rfl (pv_inc rfl rfl (by omega)) ?_))) | ((refine is_load ?_; first | (refine lw_pure rfl (pv_load (t1 rfl) rfl (by first | exact PT.ld0 H6 rfl | exact PT.ld H6 rfl)) ?_))) | ((refine is_fa ?_; first | (refine lw_pure rfl (pv_fa (tF rfl) rfl) ?_))))
        exact qw_round (k + 1, d, m) (by repeat' (first | exact trivial | refine ⟨rfl, ?_⟩)) ⟨by show k + 1 ≤ _; omega, hw, hD, hF, hM, hp, hcap, by show usedF d.fs ≤ 2000 * (k + 1); omega⟩ (by show xs.length - (k + 1) < xs.length - k; omega)
      · obtain ⟨t, is, ht, his, hg⟩ : ∃ t is, (getM m x.name).getD emptyB = t ∧ (getM m x.name).isSome = is ∧ getM m x.name = if is = true then some t else none := ⟨_, _, rfl, rfl, by cases getM m x.name <;> rfl⟩
        have htz : t.size ≤ 2000 * k := by
          rw [← ht, perm_get hp hF.ok.srt]
          cases hgf : getF d.fs x.name with
          | none => exact Nat.zero_le _
          | some f =>
            show (txt f).size ≤ _
            rw [txt_sz]
            have := usedF_mem (getF_some hgf).1
            omega
        repeat' (first | (refine lw_pure rfl (pv_move rfl) ?_) | (refine is_cw ?_; first | (refine cw_seq ?_) | (refine cw_region ?_) | (refine cw_false rfl (by first | assumption | exact decide_eq_false (by omega) | exact dec_notF (by omega)) ?_) | (refine cw_skip ?_)) | (refine is_qw ?_; first | (with_reducible refine qw_then ?_)) | (refine lw_nil ?_) | ((refine is_bin ?_; first | (refine lw_pure rfl (pv_gtr rfl rfl) ?_))) | ((refine is_load ?_; first | (refine lw_pure rfl (pv_load (t1 rfl) rfl (by first | exact PT.ld0 H6 rfl | exact PT.ld H6 rfl)) ?_))) | ((refine is_fa ?_; first | (refine lw_pure rfl (pv_fa (tF rfl) rfl) ?_))))
        refine lw_pure rfl (pv_lookK (k := x.name) Tryd.underlying42 keyS zK hz1 ht his rfl rfl hM) ?_
        repeat' (first | (refine lw_pure rfl (pv_move rfl) ?_) | (refine lw_pure rfl (pv_extract rfl rfl) ?_))
        refine lw_varN (vs := [.string t]) rfl (by first | exact tyv_28 | exact tyv_29 | exact tyv_34 | exact tyv_35 | exact tyv_43 | exact tyv_44 | exact tyv_77 | exact tyv_78 | exact tyv_80 | exact tyv_81 | exact tyv_86 | exact tyv_87 | exact tyv_126 | exact tyv_127) rfl (tZ rfl) (fun _ => rfl) rfl rfl ?_; intro N7 w7 hN7 H7 hb
        have l1 := hD.lt
        have l2 := hM.bound
        have q7 : (N7 ≠ N ∧ N7 ≠ B) ∧ N7 ≠ M := ⟨⟨by omega, by omega⟩, by omega⟩
        replace hD := hD.mono hb
        replace hM := hM.mono hb
        replace H6 := H6.mono hb
        replace hw := grow_trans hw hb
        clear hb l1 l2
        repeat' (first | (refine lw_pure rfl (pv_move rfl) ?_) | (refine lw_pure rfl (pv_assign rfl) ?_) | (refine is_cw ?_; first | (refine cw_seq ?_) | (refine cw_region ?_)) | (refine is_qw ?_; first | (with_reducible refine qw_then ?_)) | (refine lw_nil ?_) | ((refine is_load ?_; first | (refine lw_pure rfl (pv_loada (tA rfl) rfl (by first | exact PT.lda H6) (by rfl)) ?_))))
        refine lw_call (f := 14) (by kernel_rfl) rfl rfl (act_c hD hxx) ?_; clear hD; rintro e w9 ⟨rfl, hD, hG⟩; refine ⟨_, rfl, ?_⟩
        replace H6 := H6.gw hG q6.1.1 q6.1.2
        replace H7 := H7.gw hG q7.1.1 q7.1.2
        replace hM := hM.gw hG qM.1.1 qM.1.2
        replace hw := hG.below hw hN hB
        clear hG
        have hF2 := hF.act (opOf x)
        have hcap2 := (act_cap (opOf x) d).trans hcap
        obtain ⟨hnum, hp2, hu2⟩ := map_step (o := opOf x) hF hp hcap hus (by omega) hs3
        rw [hnum]
        generalize (actD (opOf x) d).2 = d2 at hD hF2 hcap2 hp2 hu2
        generalize hwn : wantN (opOf x) m = wn
        generalize hm9 : wantE (opOf x) m = m9 at hp2
        clear hnum hcap hus hp
        repeat' ((fail_if_success (refine is_seqb ?_)); (fail_if_success (refine is_blk ?_)); first | (refine lw_pure rfl (pv_assign rfl) ?_) | (refine is_cw ?_; first | (refine cw_seq ?_) | (refine cw_region ?_)) | (refine is_qw ?_; first | (with_reducible refine qw_then ?_)) | (refine lw_nil ?_))
        refine cw_seq ?_
        have hw1 := hw
        clear hw
        have hw := Below.refl w9.heap.size w9
        refine cw_cutq (σ := Unit) (fun _ => [(0, .slice (some ⟨ab, ao, none⟩) xs.length ca), (3, .pointer (some ⟨N, 0, none⟩)), (4, .map (some M)), (5, .int .i64 (k : Nat)), (9, .int .i64 wn), (10, .int .i64 wn)]) (fun _ wr => MpB evK wr M m9 ∧ Gw M M w9 wr) ?_ ?_
        · by_cases k0 : x.kind = 0
          · cases hn : nameF x.name with
            | false =>
              obtain ⟨rfl, rfl⟩ := we_form hwn hm9 k0 hn
              repeat' (first | (refine lw_pure rfl (pv_move rfl) ?_) | (refine is_cw ?_; first | (refine cw_seq ?_) | (refine cw_region ?_) | (refine cw_block ?_)) | (refine is_guarded ?_; first | (refine lw_on rfl rfl (by first | assumption | exact decide_eq_true (by omega) | exact decide_eq_false (by omega) | exact dec_notT (by omega) | exact dec_notF (by omega)) ?_)) | ((refine is_bin ?_; first | (refine lw_pure rfl (pv_eql rfl rfl) ?_))) | ((refine is_load ?_; first | (refine lw_pure rfl (pv_load (t1 rfl) rfl (by first | exact PT.ld0 (H6.mono hw) rfl | exact PT.ld (H6.mono hw) rfl)) ?_))) | ((refine is_fa ?_; first | (refine lw_pure rfl (pv_fa (tF rfl) rfl) ?_))))
              refine lw_call (f := 18) (by kernel_rfl) rfl rfl (name_is hz1 hn _) ?_; rintro e w1 ⟨rfl, hb⟩; refine ⟨_, rfl, ?_⟩; replace hw := grow_trans hw hb; clear hb
              repeat' (first | (refine lw_pure rfl (pv_assign rfl) ?_) | (refine is_cw ?_; first | (refine cw_region ?_) | (refine cw_true rfl rfl ?_)) | (refine is_qw ?_; first | (with_reducible refine qw_then ?_) | (with_reducible refine qw_in ?_)) | (refine lw_nil ?_) | (refine is_guarded ?_; first | (refine lw_on rfl rfl (by first | assumption | exact decide_eq_true (by omega) | exact decide_eq_false (by omega) | exact dec_notT (by omega) | exact dec_notF (by omega)) ?_)) | ((refine is_un ?_; first | (refine lw_pure rfl (pv_not rfl) ?_))) | (refine lw_pure rfl (pv_pick_t rfl (by first | assumption | exact decide_eq_true (by omega) | exact dec_notT (by omega)) rfl) ?_))
              exact qw_join () (by repeat' (first | exact trivial | refine ⟨rfl, ?_⟩)) ⟨hM.mono hw, Gw.of_below hw⟩
            | true =>
              repeat' (first | (refine lw_pure rfl (pv_move rfl) ?_) | (refine is_cw ?_; first | (refine cw_seq ?_) | (refine cw_region ?_) | (refine cw_block ?_)) | (refine is_guarded ?_; first | (refine lw_on rfl rfl (by first | assumption | exact decide_eq_true (by omega) | exact decide_eq_false (by omega) | exact dec_notT (by omega) | exact dec_notF (by omega)) ?_)) | ((refine is_bin ?_; first | (refine lw_pure rfl (pv_eql rfl rfl) ?_))) | ((refine is_load ?_; first | (refine lw_pure rfl (pv_load (t1 rfl) rfl (by first | exact PT.ld0 (H6.mono hw) rfl | exact PT.ld (H6.mono hw) rfl)) ?_))) | ((refine is_fa ?_; first | (refine lw_pure rfl (pv_fa (tF rfl) rfl) ?_))))
              refine lw_call (f := 18) (by kernel_rfl) rfl rfl (name_is hz1 hn _) ?_; rintro e w1 ⟨rfl, hb⟩; refine ⟨_, rfl, ?_⟩; replace hw := grow_trans hw hb; clear hb
              cases is with
              | true =>
                obtain ⟨rfl, rfl⟩ := we_twice hwn hm9 k0 hn his
                repeat' (first | (refine lw_pure rfl (pv_move rfl) ?_) | (refine lw_pure rfl (pv_assign rfl) ?_) | (refine is_cw ?_; first | (refine cw_seq ?_) | (refine cw_region ?_) | (refine cw_true rfl rfl ?_) | (refine cw_false rfl rfl ?_)) | (refine is_qw ?_; first | (with_reducible refine qw_then ?_) | (with_reducible refine qw_in ?_)) | (refine lw_nil ?_) | (refine is_guarded ?_; first | (refine lw_on rfl rfl (by first | assumption | exact decide_eq_true (by omega) | exact decide_eq_false (by omega) | exact dec_notT (by omega) | exact dec_notF (by omega)) ?_)) | ((refine is_bin ?_; first | (refine lw_pure rfl (pv_eql rfl rfl) ?_))) | ((refine is_load ?_; first | (refine lw_pure rfl (pv_load (t1 rfl) rfl (by first | exact PT.ld0 (H6.mono hw) rfl | exact PT.ld (H6.mono hw) rfl)) ?_))) | ((refine is_fa ?_; first | (refine lw_pure rfl (pv_fa (tF rfl) rfl) ?_))) | ((refine is_un ?_; first | (refine lw_pure rfl (pv_not rfl) ?_))) | (refine lw_pure rfl (pv_pick_t rfl (by first | assumption | exact decide_eq_true (by omega) | exact dec_notT (by omega)) rfl) ?_))
                exact qw_join () (by repeat' (first | exact trivial | refine ⟨rfl, ?_⟩)) ⟨hM.mono hw, Gw.of_below hw⟩
              | false =>
                by_cases h64 : 64 ≤ m.length
                · obtain ⟨rfl, rfl⟩ := we_full hwn hm9 k0 hn his h64
                  repeat' (first | (refine lw_pure rfl (pv_move rfl) ?_) | (refine lw_pure rfl (pv_assign rfl) ?_) | (refine is_cw ?_; first | (refine cw_seq ?_) | (refine cw_region ?_) | (refine cw_false rfl rfl ?_) | (refine cw_true rfl (by first | assumption | exact decide_eq_true (by omega) | exact dec_notT (by omega)) ?_)) | (refine is_qw ?_; first | (with_reducible refine qw_then ?_) | (with_reducible refine qw_in ?_)) | (refine lw_nil ?_) | (refine is_guarded ?_; first | (refine lw_on rfl rfl (by first | assumption | exact decide_eq_true (by omega) | exact decide_eq_false (by omega) | exact dec_notT (by omega) | exact dec_notF (by omega)) ?_)) | ((refine is_bin ?_; first | (refine lw_pure rfl (pv_eql rfl rfl) ?_) | (refine lw_pure rfl (pv_geq rfl rfl) ?_))) | ((refine is_load ?_; first | (refine lw_pure rfl (pv_load (t1 rfl) rfl (by first | exact PT.ld0 (H6.mono hw) rfl | exact PT.ld (H6.mono hw) rfl)) ?_))) | ((refine is_fa ?_; first | (refine lw_pure rfl (pv_fa (tF rfl) rfl) ?_))) | ((refine is_un ?_; first | (refine lw_pure rfl (pv_not rfl) ?_))) | ((refine is_bi ?_; first | (refine lw_pure rfl (pv_lenB rfl Tryd.underlying42 rfl (hM.mono hw)) ?_))) | (refine lw_pure rfl (pv_pick_t rfl (by first | assumption | exact decide_eq_true (by omega) | exact dec_notT (by omega)) rfl) ?_))
                  exact qw_join () (by repeat' (first | exact trivial | refine ⟨rfl, ?_⟩)) ⟨hM.mono hw, Gw.of_below hw⟩
                · obtain ⟨rfl, rfl⟩ := we_new hwn hm9 k0 hn his h64
                  repeat' (first | (refine lw_pure rfl (pv_move rfl) ?_) | (refine lw_pure rfl (pv_assign rfl) ?_) | (refine is_cw ?_; first | (refine cw_seq ?_) | (refine cw_region ?_) | (refine cw_false rfl rfl ?_) | (refine cw_true rfl (by first | assumption | exact decide_eq_true (by omega) | exact dec_notT (by omega)) ?_) | (refine cw_false rfl (by first | assumption | exact decide_eq_false (by omega) | exact dec_notF (by omega)) ?_)) | (refine is_qw ?_; first | (with_reducible refine qw_then ?_)) | (refine lw_nil ?_) | (refine is_guarded ?_; first | (refine lw_on rfl rfl (by first | assumption | exact decide_eq_true (by omega) | exact decide_eq_false (by omega) | exact dec_notT (by omega) | exact dec_notF (by omega)) ?_)) | ((refine is_bin ?_; first | (refine lw_pure rfl (pv_eql rfl rfl) ?_) | (refine lw_pure rfl (pv_geq rfl rfl) ?_))) | ((refine is_load ?_; first | (refine lw_pure rfl (pv_load (t1 rfl) rfl (by first | exact PT.ld0 (H6.mono hw) rfl | exact PT.ld (H6.mono hw) rfl)) ?_))) | ((refine is_fa ?_; first | (refine lw_pure rfl (pv_fa (tF rfl) rfl) ?_))) | ((refine is_un ?_; first | (refine lw_pure rfl (pv_not rfl) ?_))) | ((refine is_bi ?_; first | (refine lw_pure rfl (pv_lenB rfl Tryd.underlying42 rfl (hM.mono hw)) ?_))) | ((refine is_bd ?_; first | (refine lw_pure rfl (tyB_44 rfl rfl rfl) ?_))) | (refine lw_pure rfl (pv_pick_t rfl (by first | assumption | exact decide_eq_true (by omega) | exact dec_notT (by omega)) rfl) ?_))
                  refine lw_updB (k := x.name) (v := emptyB) Tryd.underlying42 keyS hz1 rfl rfl rfl (hM.mono hw) ?_; intro w5 hm5 hg5 hz5
                  replace hw := (Gw.of_below (a := M) (b := M) hw).trans (Gw.of_b hg5)
                  repeat' (first | (refine is_qw ?_; first | (with_reducible refine qw_in ?_)) | (refine lw_nil ?_))
                  exact qw_join () (by repeat' (first | exact trivial | refine ⟨rfl, ?_⟩)) ⟨hm5, hw⟩
          · cases is with
            | false =>
              obtain ⟨rfl, rfl⟩ := we_none hwn hm9 k0 hg
              repeat' (first | (refine lw_pure rfl (pv_move rfl) ?_) | (refine lw_pure rfl (pv_assign rfl) ?_) | (refine is_cw ?_; first | (refine cw_seq ?_) | (refine cw_region ?_) | (refine cw_true rfl rfl ?_) | (refine cw_false rfl rfl ?_) | (refine cw_false rfl (by first | assumption | exact decide_eq_false (by omega) | exact dec_notF (by omega)) ?_) | (refine cw_skip ?_) | (refine cw_block ?_)) | (refine is_qw ?_; first | (with_reducible refine qw_then ?_) | (with_reducible refine qw_in ?_)) | (refine lw_nil ?_) | (refine is_guarded ?_; first | (refine lw_not rfl rfl rfl (by first | assumption | exact decide_eq_true (by omega) | exact decide_eq_false (by omega) | exact dec_notT (by omega) | exact dec_notF (by omega)) ?_)) | ((refine is_bin ?_; first | (refine lw_pure rfl (pv_eql rfl rfl) ?_))) | ((refine is_load ?_; first | (refine lw_pure rfl (pv_load (t1 rfl) rfl (by first | exact PT.ld0 (H6.mono hw) rfl | exact PT.ld (H6.mono hw) rfl)) ?_))) | ((refine is_fa ?_; first | (refine lw_pure rfl (pv_fa (tF rfl) rfl) ?_))) | ((refine is_un ?_; first | (refine lw_pure rfl (pv_not rfl) ?_))) | (refine lw_pure rfl (pv_pick_f rfl (by first | assumption | exact decide_eq_false (by omega) | exact dec_notF (by omega)) rfl) ?_))
              exact qw_join () (by repeat' (first | exact trivial | refine ⟨rfl, ?_⟩)) ⟨hM.mono hw, Gw.of_below hw⟩
            | true =>
              replace hg : getM m x.name = some t := hg
              by_cases k1 : x.kind = 1
              · obtain ⟨rfl, rfl⟩ := we_app hwn hm9 k1 hg
                have hcat : t.size + x.bytes.size ≤ 9223372036854775807 := by omega
                repeat' (first | (refine lw_pure rfl (pv_move rfl) ?_) | (refine lw_pure rfl (pv_assign rfl) ?_) | (refine is_cw ?_; first | (refine cw_seq ?_) | (refine cw_region ?_) | (refine cw_false rfl rfl ?_) | (refine cw_true rfl (by first | assumption | exact decide_eq_true (by omega) | exact dec_notT (by omega)) ?_) | (refine cw_false rfl (by first | assumption | exact decide_eq_false (by omega) | exact dec_notF (by omega)) ?_) | (refine cw_block ?_)) | (refine is_qw ?_; first | (with_reducible refine qw_then ?_)) | (refine lw_nil ?_) | (refine is_guarded ?_; first | (refine lw_not rfl rfl rfl (by first | assumption | exact decide_eq_true (by omega) | exact decide_eq_false (by omega) | exact dec_notT (by omega) | exact dec_notF (by omega)) ?_)) | ((refine is_bin ?_; first | (refine lw_pure rfl (pv_cat rfl rfl hcat) ?_) | (refine lw_pure rfl (pv_eql rfl rfl) ?_))) | ((refine is_load ?_; first | (refine lw_pure rfl (pv_load (t1 rfl) rfl (by first | exact PT.ld0 (H6.mono hw) rfl | exact PT.ld (H6.mono hw) rfl | exact PT.ld0 (H7.mono hw) rfl | exact PT.ld (H7.mono hw) rfl)) ?_))) | ((refine is_fa ?_; first | (refine lw_pure rfl (pv_fa (tF rfl) rfl) ?_))) | ((refine is_un ?_; first | (refine lw_pure rfl (pv_not rfl) ?_))) | ((refine is_bd ?_; first | (refine lw_pure rfl (tyB_44 rfl rfl rfl) ?_))) | (refine lw_pure rfl (pv_pick_f rfl (by first | assumption | exact decide_eq_false (by omega) | exact dec_notF (by omega)) rfl) ?_))
                refine lw_updB (k := x.name) (v := t ++ x.bytes) Tryd.underlying42 keyS hz1 rfl rfl rfl (hM.mono hw) ?_; intro w5 hm5 hg5 hz5
                replace hw := (Gw.of_below (a := M) (b := M) hw).trans (Gw.of_b hg5)
                repeat' (first | (refine is_qw ?_; first | (with_reducible refine qw_in ?_)) | (refine lw_nil ?_))
                exact qw_join () (by repeat' (first | exact trivial | refine ⟨rfl, ?_⟩)) ⟨hm5, hw⟩
              by_cases k2 : x.kind = 2
              · obtain ⟨rfl, rfl⟩ := we_sync hwn hm9 k2 hg
                repeat' (first | (refine lw_pure rfl (pv_move rfl) ?_) | (refine lw_pure rfl (pv_assign rfl) ?_) | (refine is_cw ?_; first | (refine cw_seq ?_) | (refine cw_region ?_) | (refine cw_false rfl rfl ?_) | (refine cw_true rfl (by first | assumption | exact decide_eq_true (by omega) | exact dec_notT (by omega)) ?_) | (refine cw_false rfl (by first | assumption | exact decide_eq_false (by omega) | exact dec_notF (by omega)) ?_) | (refine cw_block ?_)) | (refine is_qw ?_; first | (with_reducible refine qw_then ?_) | (with_reducible refine qw_in ?_)) | (refine lw_nil ?_) | (refine is_guarded ?_; first | (refine lw_not rfl rfl rfl (by first | assumption | exact decide_eq_true (by omega) | exact decide_eq_false (by omega) | exact dec_notT (by omega) | exact dec_notF (by omega)) ?_)) | ((refine is_bin ?_; first | (refine lw_pure rfl (pv_eql rfl rfl) ?_))) | ((refine is_load ?_; first | (refine lw_pure rfl (pv_load (t1 rfl) rfl (by first | exact PT.ld0 (H6.mono hw) rfl | exact PT.ld (H6.mono hw) rfl)) ?_))) | ((refine is_fa ?_; first | (refine lw_pure rfl (pv_fa (tF rfl) rfl) ?_))) | ((refine is_un ?_; first | (refine lw_pure rfl (pv_not rfl) ?_))) | (refine lw_pure rfl (pv_pick_f rfl (by first | assumption | exact decide_eq_false (by omega) | exact dec_notF (by omega)) rfl) ?_))
                exact qw_join () (by repeat' (first | exact trivial | refine ⟨rfl, ?_⟩)) ⟨hM.mono hw, Gw.of_below hw⟩
              by_cases k3 : x.kind = 3
              · by_cases hn0 : x.n < 0
                · obtain ⟨rfl, rfl⟩ := we_cut0 hwn hm9 k3 hg (Or.inl hn0)
                  repeat' (first | (refine lw_pure rfl (pv_move rfl) ?_) | (refine lw_pure rfl (pv_assign rfl) ?_) | (refine is_cw ?_; first | (refine cw_seq ?_) | (refine cw_region ?_) | (refine cw_true rfl rfl ?_) | (refine cw_false rfl rfl ?_) | (refine cw_false rfl (by first | assumption | exact decide_eq_false (by omega) | exact dec_notF (by omega)) ?_) | (refine cw_block ?_)) | (refine is_qw ?_; first | (with_reducible refine qw_then ?_) | (with_reducible refine qw_in ?_)) | (refine lw_nil ?_) | (refine is_guarded ?_; first | (refine lw_not rfl rfl rfl rfl ?_) | (refine lw_not_u rfl rfl rfl ?_) | (refine lw_on rfl rfl (by first | assumption | exact decide_eq_true (by omega) | exact decide_eq_false (by omega) | exact dec_notT (by omega) | exact dec_notF (by omega)) ?_) | (refine lw_not rfl rfl rfl (by first | assumption | exact decide_eq_true (by omega) | exact decide_eq_false (by omega) | exact dec_notT (by omega) | exact dec_notF (by omega)) ?_)) | ((refine is_bin ?_; first | (refine lw_pure rfl (pv_lss rfl rfl) ?_) | (refine lw_pure rfl (pv_eql rfl rfl) ?_))) | ((refine is_load ?_; first | (refine lw_pure rfl (pv_load (t1 rfl) rfl (by first | exact PT.ld0 (H6.mono hw) rfl | exact PT.ld (H6.mono hw) rfl | exact PT.ld0 (H7.mono hw) rfl | exact PT.ld (H7.mono hw) rfl)) ?_))) | ((refine is_fa ?_; first | (refine lw_pure rfl (pv_fa (tF rfl) rfl) ?_))) | ((refine is_un ?_; first | (refine lw_pure rfl (pv_not rfl) ?_))) | (refine lw_pure rfl (pv_pick_t rfl rfl rfl) ?_) | (refine lw_pure rfl (pv_pick_t rfl (by first | assumption | exact decide_eq_true (by omega) | exact dec_notT (by omega)) rfl) ?_) | (refine lw_pure rfl (pv_pick_f rfl (by first | assumption | exact decide_eq_false (by omega) | exact dec_notF (by omega)) rfl) ?_))
                  exact qw_join () (by repeat' (first | exact trivial | refine ⟨rfl, ?_⟩)) ⟨hM.mono hw, Gw.of_below hw⟩
                by_cases hn1 : (t.size : Int) < x.n
                · obtain ⟨rfl, rfl⟩ := we_cut0 hwn hm9 k3 hg (Or.inr hn1)
                  repeat' (first | (refine lw_pure rfl (pv_move rfl) ?_) | (refine lw_pure rfl (pv_assign rfl) ?_) | (refine is_cw ?_; first | (refine cw_seq ?_) | (refine cw_region ?_) | (refine cw_true rfl rfl ?_) | (refine cw_false rfl rfl ?_) | (refine cw_false rfl (by first | assumption | exact decide_eq_false (by omega) | exact dec_notF (by omega)) ?_) | (refine cw_block ?_)) | (refine is_qw ?_; first | (with_reducible refine qw_then ?_) | (with_reducible refine qw_in ?_)) | (refine lw_nil ?_) | (refine is_guarded ?_; first | (refine lw_not_u rfl rfl rfl ?_) | (refine lw_on rfl rfl (by first | assumption | exact decide_eq_true (by omega) | exact decide_eq_false (by omega) | exact dec_notT (by omega) | exact dec_notF (by omega)) ?_) | (refine lw_not rfl rfl rfl (by first | assumption | exact decide_eq_true (by omega) | exact decide_eq_false (by omega) | exact dec_notT (by omega) | exact dec_notF (by omega)) ?_)) | ((refine is_bin ?_; first | (refine lw_pure rfl (pv_lss rfl rfl) ?_) | (refine lw_pure rfl (pv_eql rfl rfl) ?_) | (refine lw_pure rfl (pv_gtr rfl rfl) ?_))) | ((refine is_load ?_; first | (refine lw_pure rfl (pv_load (t1 rfl) rfl (by first | exact PT.ld0 (H6.mono hw) rfl | exact PT.ld (H6.mono hw) rfl | exact PT.ld0 (H7.mono hw) rfl | exact PT.ld (H7.mono hw) rfl)) ?_))) | ((refine is_fa ?_; first | (refine lw_pure rfl (pv_fa (tF rfl) rfl) ?_))) | ((refine is_un ?_; first | (refine lw_pure rfl (pv_not rfl) ?_))) | ((refine is_bi ?_; first | (refine lw_pure rfl (pv_lens (tStr rfl) rfl) ?_))) | (refine lw_pure rfl (pv_pick_t rfl (by first | assumption | exact decide_eq_true (by omega) | exact dec_notT (by omega)) rfl) ?_) | (refine lw_pure rfl (pv_pick_f rfl (by first | assumption | exact decide_eq_false (by omega) | exact dec_notF (by omega)) rfl) ?_))
                  exact qw_join () (by repeat' (first | exact trivial | refine ⟨rfl, ?_⟩)) ⟨hM.mono hw, Gw.of_below hw⟩
                obtain ⟨rfl, rfl⟩ := we_cut hwn hm9 k3 hg (fun h => h.elim hn0 hn1)
                have hk : 0 ≤ x.n ∧ x.n ≤ t.size := ⟨by omega, by omega⟩
                repeat' (first | (refine lw_pure rfl (pv_move rfl) ?_) | (refine lw_pure rfl (pv_assign rfl) ?_) | (refine is_cw ?_; first | (refine cw_seq ?_) | (refine cw_region ?_) | (refine cw_false rfl rfl ?_) | (refine cw_true rfl (by first | assumption | exact decide_eq_true (by omega) | exact dec_notT (by omega)) ?_) | (refine cw_false rfl (by first | assumption | exact decide_eq_false (by omega) | exact dec_notF (by omega)) ?_) | (refine cw_block ?_)) | (refine is_qw ?_; first | (with_reducible refine qw_then ?_)) | (refine lw_nil ?_) | (refine is_guarded ?_; first | (refine lw_not rfl rfl rfl rfl ?_) | (refine lw_on rfl rfl (by first | assumption | exact decide_eq_true (by omega) | exact decide_eq_false (by omega) | exact dec_notT (by omega) | exact dec_notF (by omega)) ?_) | (refine lw_not rfl rfl rfl (by first | assumption | exact decide_eq_true (by omega) | exact decide_eq_false (by omega) | exact dec_notT (by omega) | exact dec_notF (by omega)) ?_)) | ((refine is_bin ?_; first | (refine lw_pure rfl (pv_lss rfl rfl) ?_) | (refine lw_pure rfl (pv_eql rfl rfl) ?_) | (refine lw_pure rfl (pv_gtr rfl rfl) ?_))) | ((refine is_load ?_; first | (refine lw_pure rfl (pv_load (t1 rfl) rfl (by first | exact PT.ld0 (H6.mono hw) rfl | exact PT.ld (H6.mono hw) rfl | exact PT.ld0 (H7.mono hw) rfl | exact PT.ld (H7.mono hw) rfl)) ?_))) | ((refine is_fa ?_; first | (refine lw_pure rfl (pv_fa (tF rfl) rfl) ?_))) | ((refine is_un ?_; first | (refine lw_pure rfl (pv_not rfl) ?_))) | ((refine is_bi ?_; first | (refine lw_pure rfl (pv_lens (tStr rfl) rfl) ?_))) | (refine lw_pure rfl (pv_pick_f rfl rfl rfl) ?_) | (refine lw_pure rfl (pv_pick_t rfl (by first | assumption | exact decide_eq_true (by omega) | exact dec_notT (by omega)) rfl) ?_) | (refine lw_pure rfl (pv_pick_f rfl (by first | assumption | exact decide_eq_false (by omega) | exact dec_notF (by omega)) rfl) ?_))
                refine cw_drawnF 9 (fun w' => Below w9.heap.size w9 w' ∧ True) (by kernel_rfl) (by repeat (first | exact NoPanic.body | with_reducible refine NoPanic.then ?_ | with_reducible refine NoPanic.inBlock ?_)) (fun hNP => ?_)
                have hU := And.intro hw.drew trivial
                first | (refine fw_take 0 rfl (by kernel_rfl) rfl rfl (by kernel_rfl) (by kernel_rfl) (by kernel_rfl) hNP hU rfl (fun w' hq => pv_move rfl) ?_)
                first | (refine fw_take 1 rfl (by kernel_rfl) rfl rfl (by kernel_rfl) (by kernel_rfl) (by kernel_rfl) hNP hU rfl (fun w' hq => pv_fa (tF rfl) rfl) ?_)
                first | (refine fw_take 2 rfl (by kernel_rfl) rfl rfl (by kernel_rfl) (by kernel_rfl) (by kernel_rfl) hNP hU rfl (fun w' hq => pv_load (t1 rfl) rfl (by first | exact PT.ld0 hq.2 rfl | exact PT.ld hq.2 rfl)) ?_) | (refine fw_take 2 rfl (by kernel_rfl) rfl rfl (by kernel_rfl) (by kernel_rfl) (by kernel_rfl) hNP hU rfl (fun w' hq => pv_loada (tA rfl) rfl (by first | exact PT.lda hq.2) (by rfl)) ?_) | (refine fw_take 2 rfl (by kernel_rfl) rfl rfl (by kernel_rfl) (by kernel_rfl) (by kernel_rfl) hNP hU rfl (fun w' hq => pv_load (t1 rfl) rfl (by first | exact PT.ld0 (H6.mono hq.1) rfl | exact PT.ld (H6.mono hq.1) rfl | exact PT.ld0 (H7.mono hq.1) rfl | exact PT.ld (H7.mono hq.1) rfl)) ?_) | (refine fw_take 2 rfl (by kernel_rfl) rfl rfl (by kernel_rfl) (by kernel_rfl) (by kernel_rfl) hNP hU rfl (fun w' hq => pv_loada (tA rfl) rfl (by first | exact PT.lda (H6.mono hq.1) | exact PT.lda (H7.mono hq.1)) (by rfl)) ?_)
                first | (refine fw_take 3 rfl (by kernel_rfl) rfl rfl (by kernel_rfl) (by kernel_rfl) (by kernel_rfl) hNP hU rfl (fun w' hq => pv_fa (tF rfl) rfl) ?_)
                first | (refine fw_take 4 rfl (by kernel_rfl) rfl rfl (by kernel_rfl) (by kernel_rfl) (by kernel_rfl) hNP hU rfl (fun w' hq => pv_load (t1 rfl) rfl (by first | exact PT.ld0 hq.2 rfl | exact PT.ld hq.2 rfl)) ?_) | (refine fw_take 4 rfl (by kernel_rfl) rfl rfl (by kernel_rfl) (by kernel_rfl) (by kernel_rfl) hNP hU rfl (fun w' hq => pv_loada (tA rfl) rfl (by first | exact PT.lda hq.2) (by rfl)) ?_) | (refine fw_take 4 rfl (by kernel_rfl) rfl rfl (by kernel_rfl) (by kernel_rfl) (by kernel_rfl) hNP hU rfl (fun w' hq => pv_load (t1 rfl) rfl (by first | exact PT.ld0 (H6.mono hq.1) rfl | exact PT.ld (H6.mono hq.1) rfl | exact PT.ld0 (H7.mono hq.1) rfl | exact PT.ld (H7.mono hq.1) rfl)) ?_) | (refine fw_take 4 rfl (by kernel_rfl) rfl rfl (by kernel_rfl) (by kernel_rfl) (by kernel_rfl) hNP hU rfl (fun w' hq => pv_loada (tA rfl) rfl (by first | exact PT.lda (H6.mono hq.1) | exact PT.lda (H7.mono hq.1)) (by rfl)) ?_)
                first | (refine fw_take 5 rfl (by kernel_rfl) rfl rfl (by kernel_rfl) (by kernel_rfl) (by kernel_rfl) hNP hU rfl (fun w' hq => pv_fa (tF rfl) rfl) ?_)
                first | (refine fw_take 6 rfl (by kernel_rfl) rfl rfl (by kernel_rfl) (by kernel_rfl) (by kernel_rfl) hNP hU rfl (fun w' hq => pv_load (t1 rfl) rfl (by first | exact PT.ld0 hq.2 rfl | exact PT.ld hq.2 rfl)) ?_) | (refine fw_take 6 rfl (by kernel_rfl) rfl rfl (by kernel_rfl) (by kernel_rfl) (by kernel_rfl) hNP hU rfl (fun w' hq => pv_loada (tA rfl) rfl (by first | exact PT.lda hq.2) (by rfl)) ?_) | (refine fw_take 6 rfl (by kernel_rfl) rfl rfl (by kernel_rfl) (by kernel_rfl) (by kernel_rfl) hNP hU rfl (fun w' hq => pv_load (t1 rfl) rfl (by first | exact PT.ld0 (H6.mono hq.1) rfl | exact PT.ld (H6.mono hq.1) rfl | exact PT.ld0 (H7.mono hq.1) rfl | exact PT.ld (H7.mono hq.1) rfl)) ?_) | (refine fw_take 6 rfl (by kernel_rfl) rfl rfl (by kernel_rfl) (by kernel_rfl) (by kernel_rfl) hNP hU rfl (fun w' hq => pv_loada (tA rfl) rfl (by first | exact PT.lda (H6.mono hq.1) | exact PT.lda (H7.mono hq.1)) (by rfl)) ?_)
                first | (refine fw_take 7 rfl (by kernel_rfl) rfl rfl (by kernel_rfl) (by kernel_rfl) (by kernel_rfl) hNP hU rfl (fun w' hq => pv_sleft (tStr rfl) rfl rfl hk) ?_) | (refine fw_take 7 rfl (by kernel_rfl) rfl rfl (by kernel_rfl) (by kernel_rfl) (by kernel_rfl) hNP hU rfl (fun w' hq => pv_slice_l (tS rfl) rfl rfl (by omega)) ?_) | (refine fw_take 7 rfl (by kernel_rfl) rfl rfl (by kernel_rfl) (by kernel_rfl) (by kernel_rfl) hNP hU rfl (fun w' hq => pv_slice_h (tS rfl) rfl rfl (by omega)) ?_) | (refine fw_take 7 rfl (by kernel_rfl) rfl rfl (by kernel_rfl) (by kernel_rfl) (by kernel_rfl) hNP hU rfl (fun w' hq => pv_slice_lh (tS rfl) rfl rfl rfl (by omega)) ?_)
                first | (refine fw_take 8 rfl (by kernel_rfl) rfl rfl (by kernel_rfl) (by kernel_rfl) (by kernel_rfl) hNP hU rfl (fun w' hq => tyB_44 rfl rfl rfl) ?_)
                refine fw_last (by kernel_rfl) rfl rfl rfl rfl (by kernel_rfl) ?_
                obtain ⟨hw, -⟩ := hU; clear hNP
                refine act_svs (some_updB (k := x.name) (v := t.extract 0 x.n.toNat) Tryd.underlying42 keyS hz1 rfl rfl rfl (hM.mono hw)) ?_; rintro w8 ⟨hm8, hg8, hz8⟩
                replace hw := (Gw.of_below (a := M) (b := M) hw).trans (Gw.of_b hg8)
                repeat' (first | (refine is_qw ?_; first | (with_reducible refine qw_in ?_)))
                exact qw_join () (by repeat' (first | exact trivial | refine ⟨rfl, ?_⟩)) ⟨hm8, hw⟩
              by_cases k4 : x.kind = 4
              · cases hn : nameF x.to with
                | false =>
                  obtain ⟨rfl, rfl⟩ := we_to0 hwn hm9 k4 hg hn
                  repeat' (first | (refine lw_pure rfl (pv_move rfl) ?_) | (refine lw_pure rfl (pv_assign rfl) ?_) | (refine is_cw ?_; first | (refine cw_seq ?_) | (refine cw_region ?_) | (refine cw_false rfl rfl ?_) | (refine cw_false rfl (by first | assumption | exact decide_eq_false (by omega) | exact dec_notF (by omega)) ?_) | (refine cw_block ?_)) | (refine is_qw ?_; first | (with_reducible refine qw_then ?_)) | (refine lw_nil ?_) | (refine is_guarded ?_; first | (refine lw_not_u rfl rfl rfl ?_) | (refine lw_on rfl rfl rfl ?_) | (refine lw_on rfl rfl (by first | assumption | exact decide_eq_true (by omega) | exact decide_eq_false (by omega) | exact dec_notT (by omega) | exact dec_notF (by omega)) ?_) | (refine lw_not rfl rfl rfl (by first | assumption | exact decide_eq_true (by omega) | exact decide_eq_false (by omega) | exact dec_notT (by omega) | exact dec_notF (by omega)) ?_)) | ((refine is_bin ?_; first | (refine lw_pure rfl (pv_eql rfl rfl) ?_))) | ((refine is_load ?_; first | (refine lw_pure rfl (pv_load (t1 rfl) rfl (by first | exact PT.ld0 (H6.mono hw) rfl | exact PT.ld (H6.mono hw) rfl | exact PT.ld0 (H7.mono hw) rfl | exact PT.ld (H7.mono hw) rfl)) ?_))) | ((refine is_fa ?_; first | (refine lw_pure rfl (pv_fa (tF rfl) rfl) ?_))) | ((refine is_un ?_; first | (refine lw_pure rfl (pv_not rfl) ?_))) | (refine lw_pure rfl (pv_pick_f rfl (by first | assumption | exact decide_eq_false (by omega) | exact dec_notF (by omega)) rfl) ?_))
                  refine lw_call (f := 18) (by kernel_rfl) rfl rfl (name_is hz2 hn _) ?_; rintro e w1 ⟨rfl, hb⟩; refine ⟨_, rfl, ?_⟩; replace hw := grow_trans hw hb; clear hb
                  repeat' (first | (refine lw_pure rfl (pv_move rfl) ?_) | (refine lw_pure rfl (pv_assign rfl) ?_) | (refine is_cw ?_; first | (refine cw_seq ?_) | (refine cw_region ?_) | (refine cw_false rfl rfl ?_) | (refine cw_false rfl (by first | assumption | exact decide_eq_false (by omega) | exact dec_notF (by omega)) ?_)) | (refine is_qw ?_; first | (with_reducible refine qw_then ?_)) | (refine lw_nil ?_) | (refine is_guarded ?_; first | (refine lw_not rfl rfl rfl rfl ?_) | (refine lw_on rfl rfl rfl ?_) | (refine lw_on rfl rfl (by first | assumption | exact decide_eq_true (by omega) | exact decide_eq_false (by omega) | exact dec_notT (by omega) | exact dec_notF (by omega)) ?_)) | ((refine is_bin ?_; first | (refine lw_pure rfl (pv_eql rfl rfl) ?_))) | ((refine is_load ?_; first | (refine lw_pure rfl (pv_load (t1 rfl) rfl (by first | exact PT.ld0 (H6.mono hw) rfl | exact PT.ld (H6.mono hw) rfl | exact PT.ld0 (H7.mono hw) rfl | exact PT.ld (H7.mono hw) rfl)) ?_))) | ((refine is_fa ?_; first | (refine lw_pure rfl (pv_fa (tF rfl) rfl) ?_))) | (refine lw_pure rfl (pv_pick_f rfl rfl rfl) ?_) | (refine lw_pure rfl (pv_pick_t rfl (by first | assumption | exact decide_eq_true (by omega) | exact dec_notT (by omega)) rfl) ?_))
                  refine lw_call (f := 18) (by kernel_rfl) rfl rfl (name_is hz2 hn _) ?_; rintro e w1 ⟨rfl, hb⟩; refine ⟨_, rfl, ?_⟩; replace hw := grow_trans hw hb; clear hb
                  repeat' (first | (refine lw_pure rfl (pv_assign rfl) ?_) | (refine is_cw ?_; first | (refine cw_region ?_) | (refine cw_true rfl rfl ?_)) | (refine is_qw ?_; first | (with_reducible refine qw_then ?_) | (with_reducible refine qw_in ?_)) | (refine lw_nil ?_) | (refine is_guarded ?_; first | (refine lw_on rfl rfl (by first | assumption | exact decide_eq_true (by omega) | exact decide_eq_false (by omega) | exact dec_notT (by omega) | exact dec_notF (by omega)) ?_)) | ((refine is_un ?_; first | (refine lw_pure rfl (pv_not rfl) ?_))) | (refine lw_pure rfl (pv_pick_t rfl (by first | assumption | exact decide_eq_true (by omega) | exact dec_notT (by omega)) rfl) ?_))
                  exact qw_join () (by repeat' (first | exact trivial | refine ⟨rfl, ?_⟩)) ⟨hM.mono hw, Gw.of_below hw⟩
                | true =>
                  repeat' (first | (refine lw_pure rfl (pv_move rfl) ?_) | (refine lw_pure rfl (pv_assign rfl) ?_) | (refine is_cw ?_; first | (refine cw_seq ?_) | (refine cw_region ?_) | (refine cw_false rfl rfl ?_) | (refine cw_false rfl (by first | assumption | exact decide_eq_false (by omega) | exact dec_notF (by omega)) ?_) | (refine cw_block ?_)) | (refine is_qw ?_; first | (with_reducible refine qw_then ?_)) | (refine lw_nil ?_) | (refine is_guarded ?_; first | (refine lw_not_u rfl rfl rfl ?_) | (refine lw_on rfl rfl rfl ?_) | (refine lw_on rfl rfl (by first | assumption | exact decide_eq_true (by omega) | exact decide_eq_false (by omega) | exact dec_notT (by omega) | exact dec_notF (by omega)) ?_) | (refine lw_not rfl rfl rfl (by first | assumption | exact decide_eq_true (by omega) | exact decide_eq_false (by omega) | exact dec_notT (by omega) | exact dec_notF (by omega)) ?_)) | ((refine is_bin ?_; first | (refine lw_pure rfl (pv_eql rfl rfl) ?_))) | ((refine is_load ?_; first | (refine lw_pure rfl (pv_load (t1 rfl) rfl (by first | exact PT.ld0 (H6.mono hw) rfl | exact PT.ld (H6.mono hw) rfl | exact PT.ld0 (H7.mono hw) rfl | exact PT.ld (H7.mono hw) rfl)) ?_))) | ((refine is_fa ?_; first | (refine lw_pure rfl (pv_fa (tF rfl) rfl) ?_))) | ((refine is_un ?_; first | (refine lw_pure rfl (pv_not rfl) ?_))) | (refine lw_pure rfl (pv_pick_f rfl (by first | assumption | exact decide_eq_false (by omega) | exact dec_notF (by omega)) rfl) ?_))
                  refine lw_call (f := 18) (by kernel_rfl) rfl rfl (name_is hz2 hn _) ?_; rintro e w1 ⟨rfl, hb⟩; refine ⟨_, rfl, ?_⟩; replace hw := grow_trans hw hb; clear hb
                  by_cases he : x.to = x.name
                  · obtain ⟨rfl, rfl⟩ := we_to1 hwn hm9 k4 hg hn he.symm
                    have hE := decide_eq_true he
                    repeat' (first | (refine lw_pure rfl (pv_move rfl) ?_) | (refine lw_pure rfl (pv_assign rfl) ?_) | (refine is_cw ?_; first | (refine cw_region ?_) | (refine cw_true rfl (by first | assumption | exact decide_eq_true (by omega) | exact dec_notT (by omega)) ?_)) | (refine is_qw ?_; first | (with_reducible refine qw_then ?_) | (with_reducible refine qw_in ?_)) | (refine lw_nil ?_) | (refine is_guarded ?_; first | (refine lw_on rfl rfl rfl ?_)) | ((refine is_bin ?_; first | (refine lw_pure rfl (pv_seqlD rfl rfl) ?_))) | ((refine is_load ?_; first | (refine lw_pure rfl (pv_load (t1 rfl) rfl (by first | exact PT.ld0 (H6.mono hw) rfl | exact PT.ld (H6.mono hw) rfl | exact PT.ld0 (H7.mono hw) rfl | exact PT.ld (H7.mono hw) rfl)) ?_))) | ((refine is_fa ?_; first | (refine lw_pure rfl (pv_fa (tF rfl) rfl) ?_))) | (refine lw_pure rfl (pv_pick_t rfl rfl rfl) ?_) | (refine lw_pure rfl (pv_pick_f rfl rfl rfl) ?_) | (refine lw_pure rfl (pv_pick_t rfl (by first | assumption | exact decide_eq_true (by omega) | exact dec_notT (by omega)) rfl) ?_))
                    exact qw_join () (by repeat' (first | exact trivial | refine ⟨rfl, ?_⟩)) ⟨hM.mono hw, Gw.of_below hw⟩
                  · obtain ⟨rfl, rfl⟩ := we_to hwn hm9 k4 hg hn (fun h => he h.symm)
                    have hE := decide_eq_false he
                    repeat' (first | (refine lw_pure rfl (pv_move rfl) ?_) | (refine lw_pure rfl (pv_assign rfl) ?_) | (refine is_cw ?_; first | (refine cw_seq ?_) | (refine cw_region ?_) | (refine cw_false rfl (by first | assumption | exact decide_eq_false (by omega) | exact dec_notF (by omega)) ?_)) | (refine is_qw ?_; first | (with_reducible refine qw_then ?_)) | (refine lw_nil ?_) | (refine is_guarded ?_; first | (refine lw_on rfl rfl rfl ?_) | (refine lw_on rfl rfl (by first | assumption | exact decide_eq_true (by omega) | exact decide_eq_false (by omega) | exact dec_notT (by omega) | exact dec_notF (by omega)) ?_)) | ((refine is_bin ?_; first | (refine lw_pure rfl (pv_eql rfl rfl) ?_) | (refine lw_pure rfl (pv_seqlD rfl rfl) ?_))) | ((refine is_load ?_; first | (refine lw_pure rfl (pv_load (t1 rfl) rfl (by first | exact PT.ld0 (H6.mono hw) rfl | exact PT.ld (H6.mono hw) rfl | exact PT.ld0 (H7.mono hw) rfl | exact PT.ld (H7.mono hw) rfl)) ?_))) | ((refine is_fa ?_; first | (refine lw_pure rfl (pv_fa (tF rfl) rfl) ?_))) | (refine lw_pure rfl (pv_pick_t rfl rfl rfl) ?_) | (refine lw_pure rfl (pv_pick_f rfl rfl rfl) ?_) | (refine lw_pure rfl (pv_pick_t rfl (by first | assumption | exact decide_eq_true (by omega) | exact dec_notT (by omega)) rfl) ?_))
                    refine lw_call (f := 18) (by kernel_rfl) rfl rfl (name_is hz2 hn _) ?_; rintro e w1 ⟨rfl, hb⟩; refine ⟨_, rfl, ?_⟩; replace hw := grow_trans hw hb; clear hb
                    repeat' (first | (refine lw_pure rfl (pv_move rfl) ?_) | (refine lw_pure rfl (pv_assign rfl) ?_) | (refine is_cw ?_; first | (refine cw_seq ?_) | (refine cw_region ?_) | (refine cw_false rfl rfl ?_) | (refine cw_true rfl (by first | assumption | exact decide_eq_true (by omega) | exact dec_notT (by omega)) ?_)) | (refine is_qw ?_; first | (with_reducible refine qw_then ?_)) | (refine lw_nil ?_) | (refine is_guarded ?_; first | (refine lw_on rfl rfl (by first | assumption | exact decide_eq_true (by omega) | exact decide_eq_false (by omega) | exact dec_notT (by omega) | exact dec_notF (by omega)) ?_)) | ((refine is_bin ?_; first | (refine lw_pure rfl (pv_eql rfl rfl) ?_))) | ((refine is_load ?_; first | (refine lw_pure rfl (pv_load (t1 rfl) rfl (by first | exact PT.ld0 (H6.mono hw) rfl | exact PT.ld (H6.mono hw) rfl | exact PT.ld0 (H7.mono hw) rfl | exact PT.ld (H7.mono hw) rfl)) ?_))) | ((refine is_fa ?_; first | (refine lw_pure rfl (pv_fa (tF rfl) rfl) ?_))) | ((refine is_un ?_; first | (refine lw_pure rfl (pv_not rfl) ?_))) | (refine lw_pure rfl (pv_pick_t rfl (by first | assumption | exact decide_eq_true (by omega) | exact dec_notT (by omega)) rfl) ?_))
                    refine lw_delB (k := x.name) rfl Tryd.underlying42 keyS hz1 rfl rfl (hM.mono hw) ?_; intro w5 hm5 hg5 hz5
                    replace hw := (Gw.of_below (a := M) (b := M) hw).trans (Gw.of_b hg5)
                    replace H6 := H6.gw hw q6.2 q6.2
                    replace H7 := H7.gw hw q7.2 q7.2
                    repeat' (first | (refine lw_pure rfl (pv_move rfl) ?_) | (refine is_cw ?_; first | (refine cw_region ?_)) | (refine is_qw ?_; first | (with_reducible refine qw_then ?_)) | (refine lw_nil ?_) | ((refine is_load ?_; first | (refine lw_pure rfl (pv_load (t1 rfl) rfl (by first | exact PT.ld0 H6 rfl | exact PT.ld H6 rfl | exact PT.ld0 H7 rfl | exact PT.ld H7 rfl)) ?_) | (refine lw_pure rfl (pv_loada (tA rfl) rfl (by first | exact PT.lda H6 | exact PT.lda H7) (by rfl)) ?_))) | ((refine is_fa ?_; first | (refine lw_pure rfl (pv_fa (tF rfl) rfl) ?_))))
                    refine lw_updB (k := x.to) (v := t) Tryd.underlying42 keyS hz2 rfl rfl rfl hm5 ?_; intro w8 hm8 hg8 hz8
                    replace hw := hw.trans (Gw.of_b hg8)
                    repeat' (first | (refine is_qw ?_; first | (with_reducible refine qw_in ?_)) | (refine lw_nil ?_))
                    exact qw_join () (by repeat' (first | exact trivial | refine ⟨rfl, ?_⟩)) ⟨hm8, hw⟩
              · obtain ⟨rfl, rfl⟩ := we_del hwn hm9 (show 5 ≤ x.kind by omega) hg
                repeat' (first | (refine lw_pure rfl (pv_move rfl) ?_) | (refine lw_pure rfl (pv_assign rfl) ?_) | (refine is_cw ?_; first | (refine cw_seq ?_) | (refine cw_region ?_) | (refine cw_false rfl rfl ?_) | (refine cw_false rfl (by first | assumption | exact decide_eq_false (by omega) | exact dec_notF (by omega)) ?_) | (refine cw_block ?_)) | (refine is_qw ?_; first | (with_reducible refine qw_then ?_)) | (refine lw_nil ?_) | (refine is_guarded ?_; first | (refine lw_not rfl rfl rfl rfl ?_) | (refine lw_not_u rfl rfl rfl ?_) | (refine lw_on rfl rfl rfl ?_) | (refine lw_not rfl rfl rfl (by first | assumption | exact decide_eq_true (by omega) | exact decide_eq_false (by omega) | exact dec_notT (by omega) | exact dec_notF (by omega)) ?_)) | ((refine is_bin ?_; first | (refine lw_pure rfl (pv_eql rfl rfl) ?_))) | ((refine is_load ?_; first | (refine lw_pure rfl (pv_load (t1 rfl) rfl (by first | exact PT.ld0 (H6.mono hw) rfl | exact PT.ld (H6.mono hw) rfl | exact PT.ld0 (H7.mono hw) rfl | exact PT.ld (H7.mono hw) rfl)) ?_))) | ((refine is_fa ?_; first | (refine lw_pure rfl (pv_fa (tF rfl) rfl) ?_))) | ((refine is_un ?_; first | (refine lw_pure rfl (pv_not rfl) ?_))) | (refine lw_pure rfl (pv_pick_f rfl rfl rfl) ?_) | (refine lw_pure rfl (pv_pick_f rfl (by first | assumption | exact decide_eq_false (by omega) | exact dec_notF (by omega)) rfl) ?_))
                refine lw_delB (k := x.name) rfl Tryd.underlying42 keyS hz1 rfl rfl (hM.mono hw) ?_; intro w5 hm5 hg5 hz5
                replace hw := (Gw.of_below (a := M) (b := M) hw).trans (Gw.of_b hg5)
                repeat' (first | (refine is_qw ?_; first | (with_reducible refine qw_in ?_)) | (refine lw_nil ?_))
                exact qw_join () (by repeat' (first | exact trivial | refine ⟨rfl, ?_⟩)) ⟨hm5, hw⟩
        · clear hw hM H6 H7 hwn hm9 hg ht his
          rintro _ wr ⟨hM, hG⟩
          replace hD := hD.gw hG ⟨qM.2.1, qM.2.1⟩ ⟨qM.2.2, qM.2.2⟩
          have hw := hG.below hw1 hMl hMl
          clear hG hw1
          have hlm := perm_lenG hp2
          have hl64 := hF2.ok.cnt
          repeat' (first | (refine lw_pure rfl (pv_move rfl) ?_) | (refine is_cw ?_; first | (refine cw_seq ?_) | (refine cw_region ?_) | (refine cw_false rfl (by first | assumption | exact decide_eq_false (by omega) | exact dec_notF (by omega)) ?_) | (refine cw_skip ?_)) | (refine is_qw ?_; first | (with_reducible refine qw_then ?_)) | (refine lw_nil ?_) | ((refine is_bin ?_; first | (refine lw_pure rfl (pv_neq rfl rfl) ?_))))
          refine lw_call (f := 19) (by kernel_rfl) rfl rfl (list_c hD hF2.up) ?_; rintro e w10 ⟨⟨v10, rfl, hO⟩, hb⟩; refine ⟨_, rfl, ?_⟩
          replace hD := hD.mono hb
          replace hM := hM.mono hb
          replace hw := grow_trans hw hb
          clear hb
          obtain ⟨sa, sc, rfl, HS, -⟩ := Own.slR encT_len hO
          clear hO
          have hSm := HS.max
          have hSl := HS.le
          have hsl : (d2.fs.map (·.name)).length = d2.fs.length := List.length_map _
          have hw1 := hw
          clear hw
          have hw := Below.refl w10.heap.size w10
          repeat' (first | (refine lw_pure rfl (pv_move rfl) ?_) | (refine lw_pure rfl (pv_assign rfl) ?_) | (refine is_cw ?_; first | (refine cw_seq ?_) | (refine cw_region ?_) | (refine cw_false rfl (by first | assumption | exact decide_eq_false (by omega) | exact dec_notF (by omega)) ?_) | (refine cw_skip ?_) | (refine cw_block ?_)) | (refine is_qw ?_; first | (with_reducible refine qw_then ?_)) | (refine lw_nil ?_) | (refine is_guarded ?_; first | (refine lw_on rfl rfl rfl ?_)) | ((refine is_bin ?_; first | (refine lw_pure rfl (pv_neq rfl rfl) ?_))) | ((refine is_bi ?_; first | (refine lw_pure rfl (pv_lenB rfl Tryd.underlying42 rfl (hM.mono hw)) ?_) | (refine lw_pure rfl (pv_lenl (tS rfl) rfl) ?_))) | (refine lw_pure rfl (pv_pick_f rfl rfl rfl) ?_) | (refine lw_pure rfl (pv_extract rfl rfl) ?_))
          refine cw_loop (σ := Nat) (fun j => [(0, .slice (some ⟨ab, ao, none⟩) xs.length ca), (3, .pointer (some ⟨N, 0, none⟩)), (4, .map (some M)), (5, .int .i64 (k : Nat)), (11, .slice sa (d2.fs.map (·.name)).length sc), (13, .int .i64 (j : Nat))]) (fun j wr => j ≤ d2.fs.length ∧ Below w10.heap.size w10 wr) (fun j => d2.fs.length - j) 0 (by repeat' (first | exact trivial | refine ⟨rfl, ?_⟩)) ⟨Nat.zero_le _, hw⟩ ?_
          clear hw
          rintro j wj ⟨hj1, hw⟩
          by_cases hlj : j < d2.fs.length
          · have hfj : d2.fs[j]? = some d2.fs[j] := List.getElem?_eq_getElem hlj
            generalize d2.fs[j] = f at hfj
            have hfm := List.mem_of_getElem? hfj
            have hsj : (d2.fs.map (·.name))[j]? = some f.name := by rw [List.getElem?_map, hfj]; rfl
            have hgf := (getF_iff hF2.ok.srt).2 ⟨hfm, rfl⟩
            have hgm : getM m9 f.name = some (txt f) := by rw [perm_get hp2 hF2.ok.srt, hgf]; rfl
            have hrd : readD d2 f.name = (txt f, 0) := by unfold readD; rw [hF2.up, if_neg (by simp), hgf]; rfl
            have hnz : f.name.size ≤ 9223372036854775807 := by
              have h9 := hF2.ok.names f hfm
              unfold nameF at h9
              simp only [Bool.and_eq_true, decide_eq_true_eq] at h9
              omega
            obtain ⟨sb, so, rfl, -, -⟩ := HS.at (by intro h; rw [h] at hsl; simp at hsl; omega)
            repeat' (first | (refine lw_pure rfl (pv_move rfl) ?_) | (refine is_cw ?_; first | (refine cw_seq ?_) | (refine cw_region ?_) | (refine cw_true rfl (by first | assumption | exact decide_eq_true (by omega) | exact dec_notT (by omega)) ?_) | (refine cw_skip ?_) | (refine cw_block ?_)) | (refine is_qw ?_; first | (with_reducible refine qw_then ?_)) | (refine lw_nil ?_) | ((refine is_bin ?_; first | (refine lw_pure rfl (pv_lss rfl rfl) ?_))) | ((refine is_load ?_; first | (refine lw_pure rfl (pv_load (t1 rfl) rfl (by first | exact SlR.ld (HS.mono hw) hsj rfl | exact SlR.ld1 (HS.mono hw) hsj rfl)) ?_))) | ((refine is_ia ?_; first | (refine lw_pure rfl (pv_ian (tS rfl) rfl rfl (by omega)) ?_))) | ((refine is_bi ?_; first | (refine lw_pure rfl (pv_lenl (tS rfl) rfl) ?_))))
            refine lw_call (f := 20) (by kernel_rfl) rfl rfl (read_is (hD.mono hw) hnz hrd) ?_; rintro e w1 ⟨rfl, hb⟩; refine ⟨_, rfl, ?_⟩; replace hw := grow_trans hw hb; clear hb
            repeat' (first | (refine lw_pure rfl (pv_move rfl) ?_) | (refine lw_pure rfl (pv_assign rfl) ?_) | (refine is_cw ?_; first | (refine cw_seq ?_) | (refine cw_region ?_)) | (refine is_qw ?_; first | (with_reducible refine qw_then ?_)) | (refine lw_nil ?_) | ((refine is_load ?_; first | (refine lw_pure rfl (pv_load (t1 rfl) rfl (by first | exact SlR.ld (HS.mono hw) hsj rfl | exact SlR.ld1 (HS.mono hw) hsj rfl)) ?_))) | ((refine is_ia ?_; first | (refine lw_pure rfl (pv_ian (tS rfl) rfl rfl (by omega)) ?_))) | (refine lw_pure rfl (pv_extract rfl rfl) ?_))
            refine lw_pure rfl (pv_lookK (k := f.name) Tryd.underlying42 keyS zK hnz (s := txt f) (is := true) (by rw [hgm]; rfl) (by rw [hgm]; rfl) rfl rfl (hM.mono hw)) ?_
            repeat' (first | (refine lw_pure rfl (pv_move rfl) ?_) | (refine lw_pure rfl (pv_extract rfl rfl) ?_))
            refine lw_varN (vs := [.string (txt f)]) rfl (by first | exact tyv_28 | exact tyv_29 | exact tyv_34 | exact tyv_35 | exact tyv_43 | exact tyv_44 | exact tyv_77 | exact tyv_78 | exact tyv_80 | exact tyv_81 | exact tyv_86 | exact tyv_87 | exact tyv_126 | exact tyv_127) rfl (tZ rfl) (fun _ => rfl) rfl rfl ?_; intro N16 w16 hN16 H16 hb
            have hw2 := grow_trans hw hb
            have HSa := HS.mono hw2
            clear hw hb
            have hw := Below.refl w16.heap.size w16
            have hE : (!decide (txt f = txt f)) = false := by rw [decide_eq_true rfl]; rfl
            cases j with
            | zero =>
              repeat' (first | (refine lw_pure rfl (pv_assign rfl) ?_) | (refine is_cw ?_; first | (refine cw_seq ?_)) | (refine is_qw ?_; first | (with_reducible refine qw_then ?_)) | (refine lw_nil ?_))
              refine cw_drawn (fun w' => Below w16.heap.size w16 w') (by kernel_rfl) (by repeat (first | exact NoPanic.body | with_reducible refine NoPanic.then ?_ | with_reducible refine NoPanic.inBlock ?_)) (fun hNP => ?_)
              have hS := hw.drew
              all_goals (refine at0 0 rfl (fun w' hq => pv_move rfl) ?_)
              all_goals (refine at0 1 rfl (fun w' hq => pv_neq rfl rfl) ?_)
              all_goals (refine at0 2 rfl (fun w' hq => pv_move rfl) ?_)
              all_goals (refine at1 3 rfl rfl rfl rfl (fun w' hq => pv_move rfl) ?_)
              all_goals (refine at1 4 rfl rfl rfl rfl (fun w' hq => pv_not rfl) ?_)
              all_goals (refine at0 5 rfl (fun w' hq => pv_pick_f rfl rfl rfl) ?_)
              all_goals (refine at0 6 rfl (fun w' hq => pv_move rfl) ?_)
              all_goals (refine at1 7 rfl rfl rfl rfl (fun w' hq => pv_move rfl) ?_)
              all_goals (refine at1 8 rfl rfl rfl rfl (fun w' hq => pv_fa (tF rfl) rfl) ?_)
              all_goals (refine at1 9 rfl rfl rfl rfl (fun w' hq => pv_load (t1 rfl) rfl (by first | exact PT.ld0 (H16.mono hq) rfl | exact PT.ld (H16.mono hq) rfl | exact SlR.ld (HSa.mono hq) hsj rfl | exact SlR.ld1 (HSa.mono hq) hsj rfl)) ?_)
              all_goals (refine at1 10 rfl rfl rfl rfl (fun w' hq => pv_sneqD rfl rfl) ?_)
              all_goals (refine at0 11 rfl (fun w' hq => pv_pick_f rfl rfl rfl) ?_)
              all_goals (refine at0 12 rfl (fun w' hq => pv_move rfl) ?_)
              all_goals (refine at2 13 rfl rfl rfl (fun w' hq => pv_move rfl) ?_)
              all_goals (refine at2 14 rfl rfl rfl (fun w' hq => pv_gtr rfl rfl) ?_)
              all_goals (refine at2 15 rfl rfl rfl (fun w' hq => pv_move rfl) ?_)
              all_goals (refine an1 16 rfl rfl rfl rfl ?_)
              all_goals (refine an1 17 rfl rfl rfl rfl ?_)
              all_goals (refine an1 18 rfl rfl rfl rfl ?_)
              all_goals (refine an1 19 rfl rfl rfl rfl ?_)
              all_goals (refine an1 20 rfl rfl rfl rfl ?_)
              all_goals (refine an1 21 rfl rfl rfl rfl ?_)
              all_goals (refine an1 22 rfl rfl rfl rfl ?_)
              all_goals (refine an1 23 rfl rfl rfl rfl ?_)
              all_goals (refine an1 24 rfl rfl rfl rfl ?_)
              all_goals (refine an1 25 rfl rfl rfl rfl ?_)
              all_goals (refine at2 26 rfl rfl rfl (fun w' hq => pv_pick_f rfl rfl rfl) ?_)
              all_goals (refine at0 27 rfl (fun w' hq => pv_pick_f rfl (by first | assumption | exact decide_eq_false (by omega) | exact dec_notF (by omega)) rfl) ?_)
              all_goals (refine aw_done (by kernel_rfl) ?_; replace hw := hS; clear hS hNP)
              repeat' (first | (refine lw_pure rfl (pv_move rfl) ?_) | (refine lw_pure rfl (pv_assign rfl) ?_) | (refine is_cw ?_; first | (refine cw_region ?_) | (refine cw_false rfl rfl ?_) | (refine cw_skip ?_)) | (refine is_qw ?_; first | (with_reducible refine qw_then ?_) | (with_reducible refine qw_in ?_)) | (refine lw_nil ?_) | ((refine is_bin ?_; first | (refine lw_pure rfl (pv_inc rfl rfl (by omega)) ?_))))
              exact qw_round (0 + 1) (by repeat' (first | exact trivial | refine ⟨rfl, ?_⟩)) ⟨by show 0 + 1 ≤ _; omega, grow_trans hw2 hw⟩ (by show d2.fs.length - (0 + 1) < d2.fs.length - 0; omega)
            | succ i =>
              have hfi : d2.fs[i]? = some (d2.fs[i]'(by omega)) := List.getElem?_eq_getElem (by omega)
              generalize (d2.fs[i]'(by omega)) = f0 at hfi
              have hsi : (d2.fs.map (·.name))[i]? = some f0.name := by rw [List.getElem?_map, hfi]; rfl
              have hl0 : ltN f0.name f.name := by
                have h9 := hF2.ok.srt
                obtain ⟨e1, e2⟩ := List.getElem?_eq_some_iff.1 hfi
                obtain ⟨e3, e4⟩ := List.getElem?_eq_some_iff.1 hfj
                have := List.pairwise_iff_getElem.1 h9 i (i + 1) e1 e3 (by omega)
                rw [e2, e4] at this
                exact this
              have hE2 : decide (¬ ltN f0.name f.name) = false := decide_eq_false (fun h => h hl0)
              repeat' (first | (refine lw_pure rfl (pv_assign rfl) ?_) | (refine is_cw ?_; first | (refine cw_seq ?_)) | (refine is_qw ?_; first | (with_reducible refine qw_then ?_)) | (refine lw_nil ?_))
              refine cw_drawn (fun w' => Below w16.heap.size w16 w') (by kernel_rfl) (by repeat (first | exact NoPanic.body | with_reducible refine NoPanic.then ?_ | with_reducible refine NoPanic.inBlock ?_)) (fun hNP => ?_)
              have hS := hw.drew
              all_goals (refine at0 0 rfl (fun w' hq => pv_move rfl) ?_)
              all_goals (refine at0 1 rfl (fun w' hq => pv_neq rfl rfl) ?_)
              all_goals (refine at0 2 rfl (fun w' hq => pv_move rfl) ?_)
              all_goals (refine at1 3 rfl rfl rfl rfl (fun w' hq => pv_move rfl) ?_)
              all_goals (refine at1 4 rfl rfl rfl rfl (fun w' hq => pv_not rfl) ?_)
              all_goals (refine at0 5 rfl (fun w' hq => pv_pick_f rfl rfl rfl) ?_)
              all_goals (refine at0 6 rfl (fun w' hq => pv_move rfl) ?_)
              all_goals (refine at1 7 rfl rfl rfl rfl (fun w' hq => pv_move rfl) ?_)
              all_goals (refine at1 8 rfl rfl rfl rfl (fun w' hq => pv_fa (tF rfl) rfl) ?_)
              all_goals (refine at1 9 rfl rfl rfl rfl (fun w' hq => pv_load (t1 rfl) rfl (by first | exact PT.ld0 (H16.mono hq) rfl | exact PT.ld (H16.mono hq) rfl | exact SlR.ld (HSa.mono hq) hsj rfl | exact SlR.ld1 (HSa.mono hq) hsj rfl | exact SlR.ld (HSa.mono hq) hsi rfl | exact SlR.ld1 (HSa.mono hq) hsi rfl)) ?_)
              all_goals (refine at1 10 rfl rfl rfl rfl (fun w' hq => pv_sneqD rfl rfl) ?_)
              all_goals (refine at0 11 rfl (fun w' hq => pv_pick_f rfl rfl rfl) ?_)
              all_goals (refine at0 12 rfl (fun w' hq => pv_move rfl) ?_)
              all_goals (refine at2 13 rfl rfl rfl (fun w' hq => pv_move rfl) ?_)
              all_goals (refine at2 14 rfl rfl rfl (fun w' hq => pv_gtr rfl rfl) ?_)
              all_goals (refine at2 15 rfl rfl rfl (fun w' hq => pv_move rfl) ?_)
              all_goals (refine at2 16 rfl rfl rfl (fun w' hq => pv_move rfl) ?_)
              all_goals (refine at2 17 rfl rfl rfl (fun w' hq => pv_move rfl) ?_)
              all_goals (refine at2 18 rfl rfl rfl (fun w' hq => pv_ian (tS rfl) rfl rfl (by omega)) ?_)
              all_goals (refine at2 19 rfl rfl rfl (fun w' hq => pv_load (t1 rfl) rfl (by first | exact PT.ld0 (H16.mono hq) rfl | exact PT.ld (H16.mono hq) rfl | exact SlR.ld (HSa.mono hq) hsj rfl | exact SlR.ld1 (HSa.mono hq) hsj rfl | exact SlR.ld (HSa.mono hq) hsi rfl | exact SlR.ld1 (HSa.mono hq) hsi rfl)) ?_)
              all_goals (refine at2 20 rfl rfl rfl (fun w' hq => pv_move rfl) ?_)
              all_goals (refine at2 21 rfl rfl rfl (fun w' hq => pv_move rfl) ?_)
              all_goals (refine at2 22 rfl rfl rfl (fun w' hq => pv_predn rfl rfl (by omega)) ?_)
              all_goals (refine at2 23 rfl rfl rfl (fun w' hq => pv_ian (tS rfl) rfl rfl (by omega)) ?_)
              all_goals (refine at2 24 rfl rfl rfl (fun w' hq => pv_load (t1 rfl) rfl (by first | exact PT.ld0 (H16.mono hq) rfl | exact PT.ld (H16.mono hq) rfl | exact SlR.ld (HSa.mono hq) hsj rfl | exact SlR.ld1 (HSa.mono hq) hsj rfl | exact SlR.ld (HSa.mono hq) hsi rfl | exact SlR.ld1 (HSa.mono hq) hsi rfl)) ?_)
              all_goals (refine at2 25 rfl rfl rfl (fun w' hq => pv_sleq rfl rfl) ?_)
              all_goals (refine at2 26 rfl rfl rfl (fun w' hq => pv_pick_t rfl (by first | assumption | exact decide_eq_true (by omega) | exact dec_notT (by omega)) rfl) ?_)
              all_goals (refine at0 27 rfl (fun w' hq => pv_pick_f rfl (by first | assumption | exact decide_eq_false (by omega) | exact dec_notF (by omega)) rfl) ?_)
              all_goals (refine aw_done (by kernel_rfl) ?_; replace hw := hS; clear hS hNP)
              repeat' (first | (refine lw_pure rfl (pv_move rfl) ?_) | (refine lw_pure rfl (pv_assign rfl) ?_) | (refine is_cw ?_; first | (refine cw_region ?_) | (refine cw_false rfl (by first | assumption | exact decide_eq_false (by omega) | exact dec_notF (by omega)) ?_) | (refine cw_skip ?_)) | (refine is_qw ?_; first | (with_reducible refine qw_then ?_) | (with_reducible refine qw_in ?_)) | (refine lw_nil ?_) | ((refine is_bin ?_; first | (refine lw_pure rfl (pv_inc rfl rfl (by omega)) ?_))))
              exact qw_round (i + 1 + 1) (by repeat' (first | exact trivial | refine ⟨rfl, ?_⟩)) ⟨by show i + 1 + 1 ≤ _; omega, grow_trans hw2 hw⟩ (by show d2.fs.length - (i + 1 + 1) < d2.fs.length - (i + 1); omega)
          · repeat' (first | (refine lw_pure rfl (pv_move rfl) ?_) | (refine lw_pure rfl (pv_assign rfl) ?_) | (refine is_cw ?_; first | (refine cw_seq ?_) | (refine cw_region ?_) | (refine cw_false rfl (by first | assumption | exact decide_eq_false (by omega) | exact dec_notF (by omega)) ?_) | (refine cw_exit ?_)) | (refine is_qw ?_; first | (with_reducible refine qw_then ?_) | (with_reducible refine qw_in ?_) | (with_reducible refine qw_in_hit ?_) | (with_reducible refine qw_then_exit ?_)) | (refine lw_nil ?_) | ((refine is_bin ?_; first | (refine lw_pure rfl (pv_lss rfl rfl) ?_) | (refine lw_pure rfl (pv_inc rfl rfl (by omega)) ?_))) | ((refine is_bi ?_; first | (refine lw_pure rfl (pv_lenl (tS rfl) rfl) ?_))))
            exact qw_round (k + 1, d2, m9) (by repeat' (first | exact trivial | refine ⟨rfl, ?_⟩)) ⟨by show k + 1 ≤ _; omega, grow_trans hw1 hw, hD.mono hw, hF2, hM.mono hw, hp2, hcap2, by show usedF d2.fs ≤ 2000 * (k + 1); omega⟩ (by show xs.length - (k + 1) < xs.length - k; omega)
    · repeat' (first | (refine lw_pure rfl (pv_move rfl) ?_) | (refine lw_pure rfl (pv_assign rfl) ?_) | (refine is_cw ?_; first | (refine cw_seq ?_) | (refine cw_region ?_) | (refine cw_false rfl (by first | assumption | exact decide_eq_false (by omega) | exact dec_notF (by omega)) ?_) | (refine cw_exit ?_) | (refine cw_ret ?_)) | (refine is_qw ?_; first | (with_reducible refine qw_then ?_) | (with_reducible refine qw_in_hit ?_) | (with_reducible refine qw_then_exit ?_)) | (refine lw_nil ?_) | ((refine is_bin ?_; first | (refine lw_pure rfl (pv_lss rfl rfl) ?_))) | ((refine is_bi ?_; first | (refine lw_pure rfl (pv_lenl (tS rfl) rfl) ?_))))
      exact qw_ret1 rfl rfl ⟨rfl, hw⟩
end Go.Proofs.YtncicecmhibpcaaDoor
namespace Go.Proofs.YtncicecmhibpcaaDoor
open Go.ChangeShapes Go.WideShapes Go.ChangeAt Go.RowKit

set_option maxRecDepth 100000 in
theorem diskMap_lifted (os : Os) (started : os.Started) (H : Type) (enc : TypeId × Value → H) :
    ReturnsInHanded {} Tryd.checked os 4 .any (fun w args => (Rows.diskMapSpec.pre enc Tryd.prog Tryd.f4 [] false w args ∧ laidMetH Tryd.prog Rows.diskMapRow.laid w) ∧ sizedMet enc Tryd.prog Tryd.f4 (OpenSpec.ofChange Rows.diskMapSpec) false w args)
      (Rows.diskMapSpec.post enc Tryd.prog Tryd.f4 false true false false) := by
  refine returnsInHanded_of_change_and (C := Tryd.checked) (X := fun w _ => laidMetH Tryd.prog Rows.diskMapRow.laid w) (fun _ _ _ hh h => h.of_heap hh) seatOwn started (by kernel_rfl) Tryd.func4
    (ChangeSpec.witness_shaped (enc := enc) (C := Tryd.checked) (os := os) (X := fun w _ => laidMetH Tryd.prog Rows.diskMapRow.laid w) false (World.laidAll Tryd.prog os seatLaid) #[.slice none 0 0] 8 (World.laidAll_os _ _ _) (World.shaped_of_ZipB (by kernel_rfl) (by kernel_rfl)) (by kernel_rfl) (by kernel_rfl) (by kernel_rfl) (door_met os _)) ?_
  intro W base args ds gs before hval0 hW _ _ hL _
  have hval : ∀ (j : Nat) t v, Tryd.f4.params[j]? = some t → args[j]? = some v → Value.okWide Tryd.prog W .any base t v := hval0
  have hW' := hW
  obtain ⟨p, q, hA0, hV, hpq, hfz, hnd⟩ := hW
  have hA : DataW.TrodAll enc Tryd.prog W 0 (fun _ => true) true Tryd.f4.params.toList args.toList ds p := hA0
  rw [Tryd.params4] at hA hval
  obtain ⟨args⟩ := args
  have hA1 : DataW.TrodAll enc Tryd.prog W 0 (fun _ => true) true _ args ds p := hA
  clear hA
  obtain ⟨v0, vs0, d0, ds0, p0, q0, hv0, hd0, hp0, h0, hr0⟩ := trodAll_cons hA1
  obtain ⟨hvn, hdn, hpn⟩ := trodAll_nil hr0
  subst hvn hdn hpn
  subst hv0 hd0 hp0
  obtain ⟨rfl, rfl⟩ := trodVars_none hV
  obtain ⟨xxa, xxc, xx, rfl, xxs, xxb⟩ := ops_open (hval 0 _ v0 rfl rfl) h0
  clear hL
  subst hpq
  refine (maplaw_c rfl xxs xxb).mono fun e W' ⟨he, hw⟩ => ?_
  subst he
  have hB := below_trodAll hw (by decide +kernel) hA1
  rw [← Tryd.params4] at hB
  exact ⟨_, rfl, _, _, _, [], _, [], hW', trodAll_mk1 (shut_bool Tryd.underlying4 true), hB, rfl, hw.frame _, fun h => by cases h⟩
theorem diskMap_holds : Rows.DiskMapSaid :=
  OpenClaim.holds_of_wide 4 Tryd.f4 rfl rfl rfl rfl rfl rfl rfl ⟨rfl, rfl, rfl, rfl, rfl⟩ rfl rfl rfl rfl rfl (by kernel_rfl) Tryd.func4 (by kernel_rfl)
    (of_decide_eq_true (by kernel_rfl)) (by unfold Func.isWrapper; first | (rw [if_pos (by decide +kernel)]; kernel_rfl) | (rw [if_neg (by decide +kernel)]; exact ⟨rfl, rfl⟩))
    (fun os started H enc _ => diskMap_lifted os started H enc)
theorem diskMap_card : Rows.DiskMapCardSaid :=
  Claim7.holds_tied_plain_at .later [] [.data, .pinned] true (true, "79b72f06149c7553d9b585f3288860acabfcbb772ee7816aa2474633bacae2cd") true
    diskMap_holds (fun _ h => by cases h) (by kernel_rfl) (fun _ h => by cases h) diskMap_row_tie rfl ⟨rfl, rfl⟩ (by kernel_rfl) rfl
    (fun f fn hf hfn => by
      obtain rfl : f = 4 := Option.some.inj ((show Tryd.prog.funcNamed Rows.diskMapRow.func = some 4 by kernel_rfl).symm.trans hf) |>.symm
      obtain rfl : fn = Tryd.f4 := (Option.some.inj (Tryd.func4.symm.trans hfn)).symm
      exact ⟨by kernel_rfl, fun j t ht => by
        have hall : (Tryd.f4.params.toList.all fun u => !Tryd.prog.wantsStandIn u) = true := by kernel_rfl
        have hm : t ∈ Tryd.f4.params.toList := Array.mem_toList_iff.2 (Array.mem_of_getElem? ht)
        exact (show Tryd.prog.wantsStandIn t = false by simpa using List.all_eq_true.1 hall t hm)⟩)
    (by kernel_rfl)
#print axioms diskMap_card
end Go.Proofs.YtncicecmhibpcaaDoor
