/-
  StmtTells: its row and its card: whatever the input: true; the input reads as it did. Conditions: what the row prints (the table of functions reads as the program's text lays it).
-/
import Derived.Test.YtnffmbfdfhokeaaGreatDoorZK4
import Derived.Test.YtnffmbfdfhokeaaGreatDoorTie
import Derived.Test.YtnffmbfdfhokeaaGreatDoorCards
import Derived.SevenTiedAt
namespace Go.Proofs.YtnffmbfdfhokeaaGreatDoor
open Go.RowKit Go.PlainAid

def RefN (w' : World) (e1 : Ending) (R : Int × List Ln) : Prop := ∃ a c, e1 = .returned (.tuple #[.slice a R.2.length c, .int .i64 R.1]) ∧ SlR encN 5 w' a c R.2
theorem nilN (w : World) : SlR encN 5 w none 0 [] := SlR.nil w
theorem refN_nil (w : World) (c : Int) : RefN w (.returned (.tuple #[.slice none 0 0, .int .i64 c])) (c, []) := ⟨_, _, rfl, nilN w⟩
theorem seq_lastR {l : List Ln} {j : Nat} {x : Ln} (h : l.length = j + 1) (hx : l[j]? = some x) : seqL l = x.seq := by
  have e : l.getLast? = some x := by rw [List.getLast?_eq_getElem?, h]; exact hx
  unfold seqL; rw [e]; rfl
theorem seq_nilR {l : List Ln} (h : l.length = 0) : seqL l = 0 := by
  rw [List.length_eq_zero_iff.1 h]; rfl
def addR (seq kind : Int) (l : List Ln) (rs : List (Int × Int)) : Int × List Ln := match addsL seq kind l rs with
  | some l' => (0, l')
  | none => (41, [])
def finR (seq kind : Int) (l : List Ln) (r : Int × List (Int × Int)) : Int × List Ln := if r.1 ≠ 0 then (r.1, []) else addR seq kind l r.2
theorem finR_0 (seq kind : Int) (l : List Ln) (rs : List (Int × Int)) : finR seq kind l (0, rs) = addR seq kind l rs := by unfold finR; rw [if_neg (by simp)]
theorem finR_n {seq kind c : Int} {l : List Ln} {rs : List (Int × Int)} (h : c ≠ 0) : finR seq kind l (c, rs) = (c, []) := by unfold finR; rw [if_pos h]
theorem rmayL_e {l : List Ln} {m : Nat} {ad : Option Addr} {cap : Nat} {r : Bool} {w : World} (h : mayLn l = r) (hm : l.length = m) (HS : SlR encN 5 w ad cap l) (hin : In64N l) : Calls Tryz.prog 8 #[.slice ad m cap] w fun e w' => e = .returned (.bool r) ∧ Below w.heap.size w w' := by
  subst h; exact rmayL_c hm HS hin
theorem radd_s {l l' : List Ln} {m : Nat} {ad : Option Addr} {cap : Nat} {w : World} {acct seq kind delta : Int} (h : addL l seq kind acct delta = some l') (hm : l.length = m) (hl : l.length ≤ 524290) (HS : SlR encN 5 w ad cap l) (hz : -9223372036854775808 ≤ balL l acct + delta ∧ balL l acct + delta ≤ 9223372036854775807) : Calls Tryz.prog 32 #[.slice ad m cap, .int .i64 acct, .int .i64 seq, .int .u8 kind, .int .i64 delta] w fun e w' => (∃ a c, e = .returned (.tuple #[.slice a l'.length c, .bool true]) ∧ SlR encN 5 w' a c l') ∧ Below w.heap.size w w' :=
  (radd_c acct seq kind delta hm hl HS hz).mono fun e w' ⟨h1, h2⟩ => ⟨by rw [h] at h1; obtain ⟨v, e1, a, c, rfl, h3⟩ := h1; exact ⟨a, c, e1, h3⟩, h2⟩
theorem radd_n {l : List Ln} {m : Nat} {ad : Option Addr} {cap : Nat} {w : World} {acct seq kind delta : Int} (h : addL l seq kind acct delta = none) (hm : l.length = m) (hl : l.length ≤ 524290) (HS : SlR encN 5 w ad cap l) (hz : -9223372036854775808 ≤ balL l acct + delta ∧ balL l acct + delta ≤ 9223372036854775807) : Calls Tryz.prog 32 #[.slice ad m cap, .int .i64 acct, .int .i64 seq, .int .u8 kind, .int .i64 delta] w fun e w' => e = .returned (.tuple #[.slice none 0 0, .bool false]) ∧ Below w.heap.size w w' :=
  (radd_c acct seq kind delta hm hl HS hz).mono fun e w' ⟨h1, h2⟩ => ⟨by rw [h] at h1; exact h1, h2⟩
theorem rtwo_e {l : List Ln} {m : Nat} {ad : Option Addr} {cap : Nat} {w : World} (seq kind a less b more : Int) (hm : l.length = m) (hl : l.length ≤ 524288) (HS : SlR encN 5 w ad cap l) (hB : BalIn l) (h1 : NearD less) (h2 : NearD more) : Calls Tryz.prog 33 #[.slice ad m cap, .int .i64 seq, .int .u8 kind, .int .i64 a, .int .i64 less, .int .i64 b, .int .i64 more] w fun e w' => (∃ a1 c1, e = .returned (.tuple #[.slice a1 (addR seq kind l [(a, -less), (b, more)]).2.length c1, .int .i64 (addR seq kind l [(a, -less), (b, more)]).1]) ∧ SlR encN 5 w' a1 c1 (addR seq kind l [(a, -less), (b, more)]).2) ∧ Below w.heap.size w w' :=
  (rtwo_c seq kind a less b more hm hl HS hB h1 h2).mono fun e w' ⟨g1, g2⟩ => ⟨by
    unfold addR
    cases hq : addsL seq kind l [(a, -less), (b, more)] with
    | none => rw [hq] at g1; exact ⟨_, _, g1, nilN w'⟩
    | some l' => rw [hq] at g1; obtain ⟨v, e1, a', c', rfl, h3⟩ := g1; exact ⟨a', c', e1, h3⟩, g2⟩
theorem rfindT_s {p : List Lt} {m : Nat} {a : Option Addr} {ca : Nat} {w : World} {id : Int} {r : Lt} (h : findT p id = some r) (hm : p.length = m) (HP : SlR encL 4 w a ca p) : Calls Tryz.prog 35 #[.slice a m ca, .int .i64 id] w fun e w' => e = .returned (.tuple #[.agg (encL r).toArray, .bool true]) ∧ Below w.heap.size w w' := rfindT_e h hm HP
set_option maxRecDepth 20000 in
set_option maxHeartbeats 8000000 in
theorem rstN_c {l : List Ln} {p : List Opn} {t : List Lt} {e : Evt} {seq : Int} {ml mp mt mn mx : Nat} {al ap at_ an ax : Option Addr} {cl cp ct cn cx : Nat} {w : World} (hml : l.length = ml) (hmp : p.length = mp) (hmt : t.length = mt) (hmn : e.nums.length = mn) (hmx : e.texts.length = mx) (HS : SlR encN 5 w al cl l) (hin : In64N l) (hll : l.length ≤ 524288) (HP : SlR encP 6 w ap cp p) (HL : SlR encL 4 w at_ ct t) (HN : SlR encI 1 w an cn e.nums) (HX : SlR encT 1 w ax cx e.texts) (hT : TxtIn e.texts) (g1 : mayLn l = true) (g2 : mayV p t = true) (g3 : e.v = 3) (g4 : mayE e = true) (g5 : 0 ≤ seq ∧ seq < 1048576) (g6 : seqL l ≤ seq) (k1 : ¬ e.kind = 6) (k2 : ¬ e.kind = 7) (k3 : ¬ e.kind = 21) (k4 : ¬ e.kind = 13) (k5 : ¬ e.kind = 18) : Calls Tryz.prog 10 #[.slice al ml cl, .slice ap mp cp, .slice at_ mt ct, .int .i64 seq, .agg #[.int .u8 e.v, .int .u8 e.kind, .slice an mn cn, .slice ax mx cx]] w fun e1 w' => RefN w' e1 ((0, l)) ∧ Below w.heap.size w w' := by
  subst hmp hmt hmn hmx
  have hw := Below.refl w.heap.size w
  have hcn := HN.le
  have hcm := HN.max
  have hcp := HP.le
  have hcpm := HP.max
  have hct := HL.le
  have hctm := HL.max
  have hcl := HS.le
  have hclm := HS.max
  refine fn_enter 214 Tryz.func10 rfl rfl rfl ?_
  repeat' (first | (refine is_cw ?_; first | (refine cw_seq ?_) | (refine cw_region ?_)))
  refine lw_boxN rfl rfl (cs := [.int .u8 e.v, .int .u8 e.kind, .slice (an) e.nums.length cn, .slice ax e.texts.length cx]) rfl ?_; intro NE wE hNE H hb
  replace hw := grow_trans hw hb
  replace HS := HS.mono hw
  replace HP := HP.mono hw
  replace HL := HL.mono hw
  replace HN := HN.mono hw
  replace HX := HX.mono hw
  have hw0 := hw
  clear hw hb
  have hw := Below.refl wE.heap.size wE
  repeat' ((fail_if_success (refine is_seqr 1 ?_)); first | (refine lw_pure rfl (pv_assign rfl) ?_) | (refine is_cw ?_; first | (refine cw_seq ?_)) | (refine is_qw ?_; first | (with_reducible refine qw_then ?_)) | (refine lw_nil ?_))
  refine cw_cut (σ := Bool) (fun b => [(0, .slice al ml cl), (1, .slice ap p.length cp), (2, .slice at_ t.length ct), (3, .int .i64 seq), (9, .pointer (some ⟨NE, 0, none⟩)), (64, .bool b)]) (fun b w' => Below wE.heap.size wE w' ∧ b = false) ?_ ?_
  · by_cases h0 : l.length = 0
    · repeat' (first | (refine lw_pure rfl (pv_move rfl) ?_) | (refine lw_call (f := 8) (by kernel_rfl) rfl rfl (rmayL_e g1 hml (HS.mono hw) hin) ?_; rintro e w1 ⟨rfl, hb⟩; refine ⟨_, rfl, ?_⟩; replace hw := grow_trans hw hb; clear hb) | (refine lw_call (f := 30) (by kernel_rfl) rfl rfl (rmayV_e g2 rfl rfl (HP.mono hw) (HL.mono hw)) ?_; rintro e w1 ⟨rfl, hb⟩; refine ⟨_, rfl, ?_⟩; replace hw := grow_trans hw hb; clear hb) | (refine lw_call (f := 31) (by kernel_rfl) rfl rfl (rmayE_e g4 rfl rfl (HN.mono hw) (HX.mono hw) hT) ?_; rintro e w1 ⟨rfl, hb⟩; refine ⟨_, rfl, ?_⟩; replace hw := grow_trans hw hb; clear hb) | (refine is_cw ?_; first | (refine cw_region ?_)) | (refine lw_nil ?_) | (refine is_guarded ?_; first | (refine lw_on rfl rfl rfl ?_) | (refine lw_on rfl rfl (by first | assumption | exact decide_eq_true (by omega) | exact decide_eq_false (by omega) | exact dec_notT (by omega) | exact dec_notF (by omega)) ?_) | (refine lw_not rfl rfl rfl (by first | assumption | exact decide_eq_true (by omega) | exact decide_eq_false (by omega) | exact dec_notT (by omega) | exact dec_notF (by omega)) ?_)) | ((refine is_bin ?_; first | (refine lw_pure rfl (pv_lss rfl rfl) ?_) | (refine lw_pure rfl (pv_neq rfl rfl) ?_) | (refine lw_pure rfl (pv_gtr rfl rfl) ?_) | (refine lw_pure rfl (pv_geq rfl rfl) ?_))) | ((refine is_load ?_; first | (refine lw_pure rfl (pv_load (t1 rfl) rfl (by first | exact PT.ld0 (H.mono hw) rfl | exact PT.ld (H.mono hw) rfl)) ?_) | (refine lw_pure rfl (pv_loada (tA rfl) rfl (by first | exact PT.lda (H.mono hw)) (by rfl)) ?_))) | ((refine is_fa ?_; first | (refine lw_pure rfl (pv_fa (tF rfl) rfl) ?_))) | ((refine is_un ?_; first | (refine lw_pure rfl (pv_not rfl) ?_))) | ((refine is_bi ?_; first | (refine lw_pure rfl (pv_lenl (tS rfl) rfl) ?_))) | (refine lw_pure rfl (pv_pick_f rfl rfl rfl) ?_) | (refine lw_pure rfl (pv_pick_f rfl (by first | assumption | exact decide_eq_false (by omega) | exact dec_notF (by omega)) rfl) ?_))
      exact qw_join _ (by repeat' (first | exact trivial | refine ⟨rfl, ?_⟩)) ⟨hw, rfl⟩
    · skip
      obtain ⟨j, hj⟩ : ∃ j, l.length = j + 1 := ⟨l.length - 1, by omega⟩
      have hxj : l[j]? = some (l[j]'(by omega)) := List.getElem?_eq_getElem (by omega)
      generalize l[j]'(by omega) = x at hxj
      have hsq := seq_lastR hj hxj
      obtain ⟨lb, lo, rfl, -, -⟩ := HS.at (by intro h; rw [h] at hj; simp at hj)
      have hjj : (((j + 1 : Nat) : Int) - 1).toNat = j := by omega
      have hld : ∀ w' : World, Below wE.heap.size wE w' → w'.cell? ⟨lb, lo + (((j + 1 : Nat) : Int) - 1).toNat * 5 + 1, none⟩ = some (.int .i64 x.seq) := fun w' h => by rw [hjj]; exact (HS.mono h).ld hxj rfl
      obtain rfl : ml = j + 1 := by omega
      repeat' (first | (refine lw_pure rfl (pv_move rfl) ?_) | (refine lw_call (f := 8) (by kernel_rfl) rfl rfl (rmayL_e g1 hml (HS.mono hw) hin) ?_; rintro e w1 ⟨rfl, hb⟩; refine ⟨_, rfl, ?_⟩; replace hw := grow_trans hw hb; clear hb) | (refine lw_call (f := 30) (by kernel_rfl) rfl rfl (rmayV_e g2 rfl rfl (HP.mono hw) (HL.mono hw)) ?_; rintro e w1 ⟨rfl, hb⟩; refine ⟨_, rfl, ?_⟩; replace hw := grow_trans hw hb; clear hb) | (refine lw_call (f := 31) (by kernel_rfl) rfl rfl (rmayE_e g4 rfl rfl (HN.mono hw) (HX.mono hw) hT) ?_; rintro e w1 ⟨rfl, hb⟩; refine ⟨_, rfl, ?_⟩; replace hw := grow_trans hw hb; clear hb) | (refine is_cw ?_; first | (refine cw_region ?_)) | (refine lw_nil ?_) | (refine is_guarded ?_; first | (refine lw_on rfl rfl rfl ?_) | (refine lw_on rfl rfl (by first | assumption | exact decide_eq_true (by omega) | exact decide_eq_false (by omega) | exact dec_notT (by omega) | exact dec_notF (by omega)) ?_)) | ((refine is_bin ?_; first | (refine lw_pure rfl (pv_lss rfl rfl) ?_) | (refine lw_pure rfl (pv_neq rfl rfl) ?_) | (refine lw_pure rfl (pv_gtr rfl rfl) ?_) | (refine lw_pure rfl (pv_geq rfl rfl) ?_) | (refine lw_pure rfl (pv_sub rfl rfl (by omega)) ?_))) | ((refine is_load ?_; first | (refine lw_pure rfl (pv_load (t1 rfl) rfl (hld _ hw)) ?_) | (refine lw_pure rfl (pv_load (t1 rfl) rfl (by first | exact PT.ld0 (H.mono hw) rfl | exact PT.ld (H.mono hw) rfl)) ?_) | (refine lw_pure rfl (pv_loada (tA rfl) rfl (by first | exact PT.lda (H.mono hw)) (by rfl)) ?_))) | ((refine is_fa ?_; first | (refine lw_pure rfl (pv_fa (tF rfl) rfl) ?_))) | ((refine is_ia ?_; first | (refine lw_pure rfl (pv_ia (tS rfl) rfl rfl (by omega)) ?_))) | ((refine is_un ?_; first | (refine lw_pure rfl (pv_not rfl) ?_))) | ((refine is_bi ?_; first | (refine lw_pure rfl (pv_lenl (tS rfl) rfl) ?_))) | (refine lw_pure rfl (pv_pick_f rfl rfl rfl) ?_) | (refine lw_pure rfl (pv_pick_t rfl (by first | assumption | exact decide_eq_true (by omega) | exact dec_notT (by omega)) rfl) ?_) | (refine lw_pure rfl (pv_pick_f rfl (by first | assumption | exact decide_eq_false (by omega) | exact dec_notF (by omega)) rfl) ?_))
      exact qw_join _ (by repeat' (first | exact trivial | refine ⟨rfl, ?_⟩)) ⟨hw, decide_eq_false (by rw [hsq] at g6; omega)⟩
  rintro - wB ⟨hw, rfl⟩
  replace HS := HS.mono hw
  replace HP := HP.mono hw
  replace HL := HL.mono hw
  replace HN := HN.mono hw
  replace H := H.mono hw
  replace hw0 := grow_trans hw0 hw
  clear hw
  have hw := Below.refl wB.heap.size wB
  repeat' (first | (refine lw_pure rfl (pv_move rfl) ?_) | (refine lw_pure rfl (pv_assign rfl) ?_) | (refine is_cw ?_; first | (refine cw_seq ?_) | (refine cw_region ?_) | (refine cw_false rfl rfl ?_) | (refine cw_false rfl (by first | assumption | exact decide_eq_false (by omega) | exact dec_notF (by omega)) ?_) | (refine cw_skip ?_) | (refine cw_block ?_) | (refine cw_ret ?_)) | (refine is_qw ?_; first | (with_reducible refine qw_then ?_) | (with_reducible refine qw_in ?_)) | (refine lw_nil ?_) | ((refine is_bin ?_; first | (refine lw_pure rfl (pv_eql rfl rfl) ?_))) | ((refine is_load ?_; first | (refine lw_pure rfl (pv_load (t1 rfl) rfl (by first | exact PT.ld0 (H.mono hw) rfl | exact PT.ld (H.mono hw) rfl)) ?_))) | ((refine is_fa ?_; first | (refine lw_pure rfl (pv_fa (tF rfl) rfl) ?_))))
  subst hml
  exact qw_ret2 rfl rfl rfl ⟨⟨_, _, rfl, HS.mono hw⟩, grow_trans hw0 hw⟩
set_option maxRecDepth 20000 in
set_option maxHeartbeats 8000000 in
theorem rst6_c {l : List Ln} {p : List Opn} {t : List Lt} {e : Evt} {seq : Int} {ml mp mt mn mx : Nat} {al ap at_ an ax : Option Addr} {cl cp ct cn cx : Nat} {w : World} (hml : l.length = ml) (hmp : p.length = mp) (hmt : t.length = mt) (hmn : e.nums.length = mn) (hmx : e.texts.length = mx) (HS : SlR encN 5 w al cl l) (hin : In64N l) (hll : l.length ≤ 524288) (HP : SlR encP 6 w ap cp p) (HL : SlR encL 4 w at_ ct t) (HN : SlR encI 1 w an cn e.nums) (HX : SlR encT 1 w ax cx e.texts) (hT : TxtIn e.texts) (g1 : mayLn l = true) (g2 : mayV p t = true) (g3 : e.v = 3) (g4 : mayE e = true) (g5 : 0 ≤ seq ∧ seq < 1048576) (g6 : seqL l ≤ seq) (hk : e.kind = 6) : Calls Tryz.prog 10 #[.slice al ml cl, .slice ap mp cp, .slice at_ mt ct, .int .i64 seq, .agg #[.int .u8 e.v, .int .u8 e.kind, .slice an mn cn, .slice ax mx cx]] w fun e1 w' => RefN w' e1 (addR seq e.kind l [(nthI e 0, nthI e 1)]) ∧ Below w.heap.size w w' := by
  obtain ⟨n0, n1, hev, h0, h1⟩ := lnums6 g4 g3 (Or.inl hk)
  have hb1 := bal_in g1 n0
  have hx0 := at_of (i := 0) hev rfl
  have hx1 := at_of (i := 1) hev rfl
  have hlen : e.nums.length = 2 := by rw [hev]; rfl
  have hn0 : nthI e 0 = n0 := nth_of hx0
  have hn1 : nthI e 1 = n1 := nth_of hx1
  rw [hn0, hn1]
  clear hev hn0 hn1
  obtain ⟨ab, ao, rfl, -, -⟩ := HN.at (by intro h; rw [h] at hlen; cases hlen)
  subst hmp hmt hmn hmx
  have hw := Below.refl w.heap.size w
  have hcn := HN.le
  have hcm := HN.max
  have hcp := HP.le
  have hcpm := HP.max
  have hct := HL.le
  have hctm := HL.max
  have hcl := HS.le
  have hclm := HS.max
  refine fn_enter 214 Tryz.func10 rfl rfl rfl ?_
  repeat' (first | (refine is_cw ?_; first | (refine cw_seq ?_) | (refine cw_region ?_)))
  refine lw_boxN rfl rfl (cs := [.int .u8 e.v, .int .u8 e.kind, .slice ((some ⟨ab, ao, none⟩)) e.nums.length cn, .slice ax e.texts.length cx]) rfl ?_; intro NE wE hNE H hb
  replace hw := grow_trans hw hb
  replace HS := HS.mono hw
  replace HP := HP.mono hw
  replace HL := HL.mono hw
  replace HN := HN.mono hw
  replace HX := HX.mono hw
  have hw0 := hw
  clear hw hb
  have hw := Below.refl wE.heap.size wE
  repeat' ((fail_if_success (refine is_seqr 1 ?_)); first | (refine lw_pure rfl (pv_assign rfl) ?_) | (refine is_cw ?_; first | (refine cw_seq ?_)) | (refine is_qw ?_; first | (with_reducible refine qw_then ?_)) | (refine lw_nil ?_))
  refine cw_cut (σ := Bool) (fun b => [(0, .slice al ml cl), (1, .slice ap p.length cp), (2, .slice at_ t.length ct), (3, .int .i64 seq), (9, .pointer (some ⟨NE, 0, none⟩)), (64, .bool b)]) (fun b w' => Below wE.heap.size wE w' ∧ b = false) ?_ ?_
  · by_cases h0 : l.length = 0
    · repeat' (first | (refine lw_pure rfl (pv_move rfl) ?_) | (refine lw_call (f := 8) (by kernel_rfl) rfl rfl (rmayL_e g1 hml (HS.mono hw) hin) ?_; rintro e w1 ⟨rfl, hb⟩; refine ⟨_, rfl, ?_⟩; replace hw := grow_trans hw hb; clear hb) | (refine lw_call (f := 30) (by kernel_rfl) rfl rfl (rmayV_e g2 rfl rfl (HP.mono hw) (HL.mono hw)) ?_; rintro e w1 ⟨rfl, hb⟩; refine ⟨_, rfl, ?_⟩; replace hw := grow_trans hw hb; clear hb) | (refine lw_call (f := 31) (by kernel_rfl) rfl rfl (rmayE_e g4 rfl rfl (HN.mono hw) (HX.mono hw) hT) ?_; rintro e w1 ⟨rfl, hb⟩; refine ⟨_, rfl, ?_⟩; replace hw := grow_trans hw hb; clear hb) | (refine is_cw ?_; first | (refine cw_region ?_)) | (refine lw_nil ?_) | (refine is_guarded ?_; first | (refine lw_on rfl rfl rfl ?_) | (refine lw_on rfl rfl (by first | assumption | exact decide_eq_true (by omega) | exact decide_eq_false (by omega) | exact dec_notT (by omega) | exact dec_notF (by omega)) ?_) | (refine lw_not rfl rfl rfl (by first | assumption | exact decide_eq_true (by omega) | exact decide_eq_false (by omega) | exact dec_notT (by omega) | exact dec_notF (by omega)) ?_)) | ((refine is_bin ?_; first | (refine lw_pure rfl (pv_lss rfl rfl) ?_) | (refine lw_pure rfl (pv_neq rfl rfl) ?_) | (refine lw_pure rfl (pv_gtr rfl rfl) ?_) | (refine lw_pure rfl (pv_geq rfl rfl) ?_))) | ((refine is_load ?_; first | (refine lw_pure rfl (pv_load (t1 rfl) rfl (by first | exact PT.ld0 (H.mono hw) rfl | exact PT.ld (H.mono hw) rfl)) ?_) | (refine lw_pure rfl (pv_loada (tA rfl) rfl (by first | exact PT.lda (H.mono hw)) (by rfl)) ?_))) | ((refine is_fa ?_; first | (refine lw_pure rfl (pv_fa (tF rfl) rfl) ?_))) | ((refine is_un ?_; first | (refine lw_pure rfl (pv_not rfl) ?_))) | ((refine is_bi ?_; first | (refine lw_pure rfl (pv_lenl (tS rfl) rfl) ?_))) | (refine lw_pure rfl (pv_pick_f rfl rfl rfl) ?_) | (refine lw_pure rfl (pv_pick_f rfl (by first | assumption | exact decide_eq_false (by omega) | exact dec_notF (by omega)) rfl) ?_))
      exact qw_join _ (by repeat' (first | exact trivial | refine ⟨rfl, ?_⟩)) ⟨hw, rfl⟩
    · skip
      obtain ⟨j, hj⟩ : ∃ j, l.length = j + 1 := ⟨l.length - 1, by omega⟩
      have hxj : l[j]? = some (l[j]'(by omega)) := List.getElem?_eq_getElem (by omega)
      generalize l[j]'(by omega) = x at hxj
      have hsq := seq_lastR hj hxj
      obtain ⟨lb, lo, rfl, -, -⟩ := HS.at (by intro h; rw [h] at hj; simp at hj)
      have hjj : (((j + 1 : Nat) : Int) - 1).toNat = j := by omega
      have hld : ∀ w' : World, Below wE.heap.size wE w' → w'.cell? ⟨lb, lo + (((j + 1 : Nat) : Int) - 1).toNat * 5 + 1, none⟩ = some (.int .i64 x.seq) := fun w' h => by rw [hjj]; exact (HS.mono h).ld hxj rfl
      obtain rfl : ml = j + 1 := by omega
      repeat' (first | (refine lw_pure rfl (pv_move rfl) ?_) | (refine lw_call (f := 8) (by kernel_rfl) rfl rfl (rmayL_e g1 hml (HS.mono hw) hin) ?_; rintro e w1 ⟨rfl, hb⟩; refine ⟨_, rfl, ?_⟩; replace hw := grow_trans hw hb; clear hb) | (refine lw_call (f := 30) (by kernel_rfl) rfl rfl (rmayV_e g2 rfl rfl (HP.mono hw) (HL.mono hw)) ?_; rintro e w1 ⟨rfl, hb⟩; refine ⟨_, rfl, ?_⟩; replace hw := grow_trans hw hb; clear hb) | (refine lw_call (f := 31) (by kernel_rfl) rfl rfl (rmayE_e g4 rfl rfl (HN.mono hw) (HX.mono hw) hT) ?_; rintro e w1 ⟨rfl, hb⟩; refine ⟨_, rfl, ?_⟩; replace hw := grow_trans hw hb; clear hb) | (refine is_cw ?_; first | (refine cw_region ?_)) | (refine lw_nil ?_) | (refine is_guarded ?_; first | (refine lw_on rfl rfl rfl ?_) | (refine lw_on rfl rfl (by first | assumption | exact decide_eq_true (by omega) | exact decide_eq_false (by omega) | exact dec_notT (by omega) | exact dec_notF (by omega)) ?_)) | ((refine is_bin ?_; first | (refine lw_pure rfl (pv_lss rfl rfl) ?_) | (refine lw_pure rfl (pv_neq rfl rfl) ?_) | (refine lw_pure rfl (pv_gtr rfl rfl) ?_) | (refine lw_pure rfl (pv_geq rfl rfl) ?_) | (refine lw_pure rfl (pv_sub rfl rfl (by omega)) ?_))) | ((refine is_load ?_; first | (refine lw_pure rfl (pv_load (t1 rfl) rfl (hld _ hw)) ?_) | (refine lw_pure rfl (pv_load (t1 rfl) rfl (by first | exact PT.ld0 (H.mono hw) rfl | exact PT.ld (H.mono hw) rfl)) ?_) | (refine lw_pure rfl (pv_loada (tA rfl) rfl (by first | exact PT.lda (H.mono hw)) (by rfl)) ?_))) | ((refine is_fa ?_; first | (refine lw_pure rfl (pv_fa (tF rfl) rfl) ?_))) | ((refine is_ia ?_; first | (refine lw_pure rfl (pv_ia (tS rfl) rfl rfl (by omega)) ?_))) | ((refine is_un ?_; first | (refine lw_pure rfl (pv_not rfl) ?_))) | ((refine is_bi ?_; first | (refine lw_pure rfl (pv_lenl (tS rfl) rfl) ?_))) | (refine lw_pure rfl (pv_pick_f rfl rfl rfl) ?_) | (refine lw_pure rfl (pv_pick_t rfl (by first | assumption | exact decide_eq_true (by omega) | exact dec_notT (by omega)) rfl) ?_) | (refine lw_pure rfl (pv_pick_f rfl (by first | assumption | exact decide_eq_false (by omega) | exact dec_notF (by omega)) rfl) ?_))
      exact qw_join _ (by repeat' (first | exact trivial | refine ⟨rfl, ?_⟩)) ⟨hw, decide_eq_false (by rw [hsq] at g6; omega)⟩
  rintro - wB ⟨hw, rfl⟩
  replace HS := HS.mono hw
  replace HP := HP.mono hw
  replace HL := HL.mono hw
  replace HN := HN.mono hw
  replace H := H.mono hw
  replace hw0 := grow_trans hw0 hw
  clear hw
  have hw := Below.refl wB.heap.size wB
  repeat' (first | (refine lw_pure rfl (pv_move rfl) ?_) | (refine lw_pure rfl (pv_assign rfl) ?_) | (refine is_cw ?_; first | (refine cw_seq ?_) | (refine cw_region ?_) | (refine cw_false rfl rfl ?_) | (refine cw_true rfl (by first | assumption | exact decide_eq_true (by omega) | exact dec_notT (by omega)) ?_) | (refine cw_false rfl (by first | assumption | exact decide_eq_false (by omega) | exact dec_notF (by omega)) ?_) | (refine cw_skip ?_) | (refine cw_block ?_)) | (refine is_qw ?_; first | (with_reducible refine qw_then ?_)) | (refine lw_nil ?_) | ((refine is_bin ?_; first | (refine lw_pure rfl (pv_eql rfl rfl) ?_))) | ((refine is_load ?_; first | (refine lw_pure rfl (pv_load (t1 rfl) rfl (by first | exact PT.ld0 (H.mono hw) rfl | exact PT.ld (H.mono hw) rfl | exact SlR.ld (HN.mono hw) hx1 rfl | exact SlR.ld1 (HN.mono hw) hx1 rfl)) ?_))) | ((refine is_fa ?_; first | (refine lw_pure rfl (pv_fa (tF rfl) rfl) ?_))) | ((refine is_ia ?_; first | (refine lw_pure rfl (pv_ia (tS rfl) rfl rfl (by omega)) ?_))))
  cases hq : addL l seq e.kind n0 (n1) with
  | none =>
    have hR : addR seq e.kind l [(n0, n1)] = (41, []) := by unfold addR addsL; rw [hq]; rfl
    rw [hR]
    refine cw_drawn (fun w' => Below wB.heap.size wB w') (by kernel_rfl) (by repeat (first | exact NoPanic.body | with_reducible refine NoPanic.then ?_ | with_reducible refine NoPanic.inBlock ?_)) (fun hNP => ?_)
    have hS := hw.drew
    (refine at0 0 rfl (fun w' hq => pv_move rfl) ?_)
    (refine at0 1 rfl (fun w' hq => pv_move rfl) ?_)
    (refine at0 2 rfl (fun w' hq => pv_ia (tS rfl) rfl rfl (by omega)) ?_)
    (refine at0 3 rfl (fun w' hq => pv_load (t1 rfl) rfl (by first | exact SlR.ld (HN.mono hq) hx0 rfl | exact SlR.ld1 (HN.mono hq) hx0 rfl | exact PT.ld0 (H.mono hq) rfl | exact PT.ld (H.mono hq) rfl)) ?_)
    (refine at0 4 rfl (fun w' hq => pv_move rfl) ?_)
    (refine at0 5 rfl (fun w' hq => pv_fa (tF rfl) rfl) ?_)
    (refine at0 6 rfl (fun w' hq => pv_load (t1 rfl) rfl (by first | exact SlR.ld (HN.mono hq) hx0 rfl | exact SlR.ld1 (HN.mono hq) hx0 rfl | exact PT.ld0 (H.mono hq) rfl | exact PT.ld (H.mono hq) rfl)) ?_)
    (refine at0 7 rfl (fun w' hq => pv_move rfl) ?_)
    refine aw_act 8 (by kernel_rfl) rfl rfl rfl ?_
    refine act_call (f := 32) (by kernel_rfl) rfl (radd_n hq hml (by omega) (HS.mono hS) (by omega)) ?_; rintro e1 w2 ⟨rfl, hb⟩; refine ⟨_, rfl, grow_trans hS hb, fun hS => ?_⟩
    (refine at0 9 rfl (fun w' hq => pv_move rfl) ?_)
    (refine at0 10 rfl (fun w' hq => pv_extract rfl rfl) ?_)
    (refine at0 11 rfl (fun w' hq => pv_extract rfl rfl) ?_)
    (refine at0 12 rfl (fun w' hq => pv_assign rfl) ?_)
    (refine at0 13 rfl (fun w' hq => pv_assign rfl) ?_)
    refine aw_done (by kernel_rfl) ?_
    replace hw := hS; clear hS hNP
    repeat' (first | (refine lw_pure rfl (pv_move rfl) ?_) | (refine lw_pure rfl (pv_assign rfl) ?_) | (refine is_cw ?_; first | (refine cw_seq ?_) | (refine cw_region ?_) | (refine cw_true rfl rfl ?_) | (refine cw_ret ?_)) | (refine is_qw ?_; first | (with_reducible refine qw_then ?_) | (with_reducible refine qw_then_ret ?_) | (with_reducible refine qw_in_ret ?_)) | (refine lw_nil ?_) | ((refine is_un ?_; first | (refine lw_pure rfl (pv_not rfl) ?_))))
    exact qw_ret2 rfl rfl rfl ⟨refN_nil _ _, grow_trans hw0 hw⟩
  | some l' =>
    have hR : addR seq e.kind l [(n0, n1)] = (0, l') := by unfold addR addsL; rw [hq]; rfl
    rw [hR]
    refine cw_drawn (fun w' => Below wB.heap.size wB w') (by kernel_rfl) (by repeat (first | exact NoPanic.body | with_reducible refine NoPanic.then ?_ | with_reducible refine NoPanic.inBlock ?_)) (fun hNP => ?_)
    have hS := hw.drew
    (refine at0 0 rfl (fun w' hq => pv_move rfl) ?_)
    (refine at0 1 rfl (fun w' hq => pv_move rfl) ?_)
    (refine at0 2 rfl (fun w' hq => pv_ia (tS rfl) rfl rfl (by omega)) ?_)
    (refine at0 3 rfl (fun w' hq => pv_load (t1 rfl) rfl (by first | exact SlR.ld (HN.mono hq) hx0 rfl | exact SlR.ld1 (HN.mono hq) hx0 rfl | exact PT.ld0 (H.mono hq) rfl | exact PT.ld (H.mono hq) rfl)) ?_)
    (refine at0 4 rfl (fun w' hq => pv_move rfl) ?_)
    (refine at0 5 rfl (fun w' hq => pv_fa (tF rfl) rfl) ?_)
    (refine at0 6 rfl (fun w' hq => pv_load (t1 rfl) rfl (by first | exact SlR.ld (HN.mono hq) hx0 rfl | exact SlR.ld1 (HN.mono hq) hx0 rfl | exact PT.ld0 (H.mono hq) rfl | exact PT.ld (H.mono hq) rfl)) ?_)
    (refine at0 7 rfl (fun w' hq => pv_move rfl) ?_)
    refine aw_act 8 (by kernel_rfl) rfl rfl rfl ?_
    refine act_call (f := 32) (by kernel_rfl) rfl (radd_s hq hml (by omega) (HS.mono hS) (by omega)) ?_; rintro e1 w2 ⟨⟨a2, c2, rfl, HQ⟩, hb⟩; refine ⟨_, rfl, grow_trans hS hb, fun hS => ?_⟩
    (refine at0 9 rfl (fun w' hq => pv_move rfl) ?_)
    (refine at0 10 rfl (fun w' hq => pv_extract rfl rfl) ?_)
    (refine at0 11 rfl (fun w' hq => pv_extract rfl rfl) ?_)
    (refine at0 12 rfl (fun w' hq => pv_assign rfl) ?_)
    (refine at0 13 rfl (fun w' hq => pv_assign rfl) ?_)
    refine aw_done (by kernel_rfl) ?_
    replace hw := hS; clear hS hNP
    repeat' (first | (refine lw_pure rfl (pv_move rfl) ?_) | (refine lw_pure rfl (pv_assign rfl) ?_) | (refine is_cw ?_; first | (refine cw_seq ?_) | (refine cw_region ?_) | (refine cw_false rfl rfl ?_) | (refine cw_skip ?_) | (refine cw_ret ?_)) | (refine is_qw ?_; first | (with_reducible refine qw_then ?_) | (with_reducible refine qw_then_ret ?_) | (with_reducible refine qw_in_ret ?_)) | (refine lw_nil ?_) | ((refine is_un ?_; first | (refine lw_pure rfl (pv_not rfl) ?_))))
    exact qw_ret2 rfl rfl rfl ⟨⟨_, _, rfl, HQ⟩, grow_trans hw0 hw⟩
set_option maxRecDepth 20000 in
set_option maxHeartbeats 8000000 in
theorem rst7_c {l : List Ln} {p : List Opn} {t : List Lt} {e : Evt} {seq : Int} {ml mp mt mn mx : Nat} {al ap at_ an ax : Option Addr} {cl cp ct cn cx : Nat} {w : World} (hml : l.length = ml) (hmp : p.length = mp) (hmt : t.length = mt) (hmn : e.nums.length = mn) (hmx : e.texts.length = mx) (HS : SlR encN 5 w al cl l) (hin : In64N l) (hll : l.length ≤ 524288) (HP : SlR encP 6 w ap cp p) (HL : SlR encL 4 w at_ ct t) (HN : SlR encI 1 w an cn e.nums) (HX : SlR encT 1 w ax cx e.texts) (hT : TxtIn e.texts) (g1 : mayLn l = true) (g2 : mayV p t = true) (g3 : e.v = 3) (g4 : mayE e = true) (g5 : 0 ≤ seq ∧ seq < 1048576) (g6 : seqL l ≤ seq) (hk : e.kind = 7) : Calls Tryz.prog 10 #[.slice al ml cl, .slice ap mp cp, .slice at_ mt ct, .int .i64 seq, .agg #[.int .u8 e.v, .int .u8 e.kind, .slice an mn cn, .slice ax mx cx]] w fun e1 w' => RefN w' e1 (addR seq e.kind l [(nthI e 0, -nthI e 1)]) ∧ Below w.heap.size w w' := by
  obtain ⟨n0, n1, hev, h0, h1⟩ := lnums6 g4 g3 (Or.inr hk)
  have hb1 := bal_in g1 n0
  have hx0 := at_of (i := 0) hev rfl
  have hx1 := at_of (i := 1) hev rfl
  have hlen : e.nums.length = 2 := by rw [hev]; rfl
  have hn0 : nthI e 0 = n0 := nth_of hx0
  have hn1 : nthI e 1 = n1 := nth_of hx1
  rw [hn0, hn1]
  clear hev hn0 hn1
  obtain ⟨ab, ao, rfl, -, -⟩ := HN.at (by intro h; rw [h] at hlen; cases hlen)
  subst hmp hmt hmn hmx
  have hw := Below.refl w.heap.size w
  have hcn := HN.le
  have hcm := HN.max
  have hcp := HP.le
  have hcpm := HP.max
  have hct := HL.le
  have hctm := HL.max
  have hcl := HS.le
  have hclm := HS.max
  refine fn_enter 214 Tryz.func10 rfl rfl rfl ?_
  repeat' (first | (refine is_cw ?_; first | (refine cw_seq ?_) | (refine cw_region ?_)))
  refine lw_boxN rfl rfl (cs := [.int .u8 e.v, .int .u8 e.kind, .slice ((some ⟨ab, ao, none⟩)) e.nums.length cn, .slice ax e.texts.length cx]) rfl ?_; intro NE wE hNE H hb
  replace hw := grow_trans hw hb
  replace HS := HS.mono hw
  replace HP := HP.mono hw
  replace HL := HL.mono hw
  replace HN := HN.mono hw
  replace HX := HX.mono hw
  have hw0 := hw
  clear hw hb
  have hw := Below.refl wE.heap.size wE
  repeat' ((fail_if_success (refine is_seqr 1 ?_)); first | (refine lw_pure rfl (pv_assign rfl) ?_) | (refine is_cw ?_; first | (refine cw_seq ?_)) | (refine is_qw ?_; first | (with_reducible refine qw_then ?_)) | (refine lw_nil ?_))
  refine cw_cut (σ := Bool) (fun b => [(0, .slice al ml cl), (1, .slice ap p.length cp), (2, .slice at_ t.length ct), (3, .int .i64 seq), (9, .pointer (some ⟨NE, 0, none⟩)), (64, .bool b)]) (fun b w' => Below wE.heap.size wE w' ∧ b = false) ?_ ?_
  · by_cases h0 : l.length = 0
    · repeat' (first | (refine lw_pure rfl (pv_move rfl) ?_) | (refine lw_call (f := 8) (by kernel_rfl) rfl rfl (rmayL_e g1 hml (HS.mono hw) hin) ?_; rintro e w1 ⟨rfl, hb⟩; refine ⟨_, rfl, ?_⟩; replace hw := grow_trans hw hb; clear hb) | (refine lw_call (f := 30) (by kernel_rfl) rfl rfl (rmayV_e g2 rfl rfl (HP.mono hw) (HL.mono hw)) ?_; rintro e w1 ⟨rfl, hb⟩; refine ⟨_, rfl, ?_⟩; replace hw := grow_trans hw hb; clear hb) | (refine lw_call (f := 31) (by kernel_rfl) rfl rfl (rmayE_e g4 rfl rfl (HN.mono hw) (HX.mono hw) hT) ?_; rintro e w1 ⟨rfl, hb⟩; refine ⟨_, rfl, ?_⟩; replace hw := grow_trans hw hb; clear hb) | (refine is_cw ?_; first | (refine cw_region ?_)) | (refine lw_nil ?_) | (refine is_guarded ?_; first | (refine lw_on rfl rfl rfl ?_) | (refine lw_on rfl rfl (by first | assumption | exact decide_eq_true (by omega) | exact decide_eq_false (by omega) | exact dec_notT (by omega) | exact dec_notF (by omega)) ?_) | (refine lw_not rfl rfl rfl (by first | assumption | exact decide_eq_true (by omega) | exact decide_eq_false (by omega) | exact dec_notT (by omega) | exact dec_notF (by omega)) ?_)) | ((refine is_bin ?_; first | (refine lw_pure rfl (pv_lss rfl rfl) ?_) | (refine lw_pure rfl (pv_neq rfl rfl) ?_) | (refine lw_pure rfl (pv_gtr rfl rfl) ?_) | (refine lw_pure rfl (pv_geq rfl rfl) ?_))) | ((refine is_load ?_; first | (refine lw_pure rfl (pv_load (t1 rfl) rfl (by first | exact PT.ld0 (H.mono hw) rfl | exact PT.ld (H.mono hw) rfl)) ?_) | (refine lw_pure rfl (pv_loada (tA rfl) rfl (by first | exact PT.lda (H.mono hw)) (by rfl)) ?_))) | ((refine is_fa ?_; first | (refine lw_pure rfl (pv_fa (tF rfl) rfl) ?_))) | ((refine is_un ?_; first | (refine lw_pure rfl (pv_not rfl) ?_))) | ((refine is_bi ?_; first | (refine lw_pure rfl (pv_lenl (tS rfl) rfl) ?_))) | (refine lw_pure rfl (pv_pick_f rfl rfl rfl) ?_) | (refine lw_pure rfl (pv_pick_f rfl (by first | assumption | exact decide_eq_false (by omega) | exact dec_notF (by omega)) rfl) ?_))
      exact qw_join _ (by repeat' (first | exact trivial | refine ⟨rfl, ?_⟩)) ⟨hw, rfl⟩
    · skip
      obtain ⟨j, hj⟩ : ∃ j, l.length = j + 1 := ⟨l.length - 1, by omega⟩
      have hxj : l[j]? = some (l[j]'(by omega)) := List.getElem?_eq_getElem (by omega)
      generalize l[j]'(by omega) = x at hxj
      have hsq := seq_lastR hj hxj
      obtain ⟨lb, lo, rfl, -, -⟩ := HS.at (by intro h; rw [h] at hj; simp at hj)
      have hjj : (((j + 1 : Nat) : Int) - 1).toNat = j := by omega
      have hld : ∀ w' : World, Below wE.heap.size wE w' → w'.cell? ⟨lb, lo + (((j + 1 : Nat) : Int) - 1).toNat * 5 + 1, none⟩ = some (.int .i64 x.seq) := fun w' h => by rw [hjj]; exact (HS.mono h).ld hxj rfl
      obtain rfl : ml = j + 1 := by omega
      repeat' (first | (refine lw_pure rfl (pv_move rfl) ?_) | (refine lw_call (f := 8) (by kernel_rfl) rfl rfl (rmayL_e g1 hml (HS.mono hw) hin) ?_; rintro e w1 ⟨rfl, hb⟩; refine ⟨_, rfl, ?_⟩; replace hw := grow_trans hw hb; clear hb) | (refine lw_call (f := 30) (by kernel_rfl) rfl rfl (rmayV_e g2 rfl rfl (HP.mono hw) (HL.mono hw)) ?_; rintro e w1 ⟨rfl, hb⟩; refine ⟨_, rfl, ?_⟩; replace hw := grow_trans hw hb; clear hb) | (refine lw_call (f := 31) (by kernel_rfl) rfl rfl (rmayE_e g4 rfl rfl (HN.mono hw) (HX.mono hw) hT) ?_; rintro e w1 ⟨rfl, hb⟩; refine ⟨_, rfl, ?_⟩; replace hw := grow_trans hw hb; clear hb) | (refine is_cw ?_; first | (refine cw_region ?_)) | (refine lw_nil ?_) | (refine is_guarded ?_; first | (refine lw_on rfl rfl rfl ?_) | (refine lw_on rfl rfl (by first | assumption | exact decide_eq_true (by omega) | exact decide_eq_false (by omega) | exact dec_notT (by omega) | exact dec_notF (by omega)) ?_)) | ((refine is_bin ?_; first | (refine lw_pure rfl (pv_lss rfl rfl) ?_) | (refine lw_pure rfl (pv_neq rfl rfl) ?_) | (refine lw_pure rfl (pv_gtr rfl rfl) ?_) | (refine lw_pure rfl (pv_geq rfl rfl) ?_) | (refine lw_pure rfl (pv_sub rfl rfl (by omega)) ?_))) | ((refine is_load ?_; first | (refine lw_pure rfl (pv_load (t1 rfl) rfl (hld _ hw)) ?_) | (refine lw_pure rfl (pv_load (t1 rfl) rfl (by first | exact PT.ld0 (H.mono hw) rfl | exact PT.ld (H.mono hw) rfl)) ?_) | (refine lw_pure rfl (pv_loada (tA rfl) rfl (by first | exact PT.lda (H.mono hw)) (by rfl)) ?_))) | ((refine is_fa ?_; first | (refine lw_pure rfl (pv_fa (tF rfl) rfl) ?_))) | ((refine is_ia ?_; first | (refine lw_pure rfl (pv_ia (tS rfl) rfl rfl (by omega)) ?_))) | ((refine is_un ?_; first | (refine lw_pure rfl (pv_not rfl) ?_))) | ((refine is_bi ?_; first | (refine lw_pure rfl (pv_lenl (tS rfl) rfl) ?_))) | (refine lw_pure rfl (pv_pick_f rfl rfl rfl) ?_) | (refine lw_pure rfl (pv_pick_t rfl (by first | assumption | exact decide_eq_true (by omega) | exact dec_notT (by omega)) rfl) ?_) | (refine lw_pure rfl (pv_pick_f rfl (by first | assumption | exact decide_eq_false (by omega) | exact dec_notF (by omega)) rfl) ?_))
      exact qw_join _ (by repeat' (first | exact trivial | refine ⟨rfl, ?_⟩)) ⟨hw, decide_eq_false (by rw [hsq] at g6; omega)⟩
  rintro - wB ⟨hw, rfl⟩
  replace HS := HS.mono hw
  replace HP := HP.mono hw
  replace HL := HL.mono hw
  replace HN := HN.mono hw
  replace H := H.mono hw
  replace hw0 := grow_trans hw0 hw
  clear hw
  have hw := Below.refl wB.heap.size wB
  repeat' (first | (refine lw_pure rfl (pv_move rfl) ?_) | (refine lw_pure rfl (pv_assign rfl) ?_) | (refine is_cw ?_; first | (refine cw_seq ?_) | (refine cw_region ?_) | (refine cw_false rfl rfl ?_) | (refine cw_true rfl (by first | assumption | exact decide_eq_true (by omega) | exact dec_notT (by omega)) ?_) | (refine cw_false rfl (by first | assumption | exact decide_eq_false (by omega) | exact dec_notF (by omega)) ?_) | (refine cw_skip ?_) | (refine cw_block ?_)) | (refine is_qw ?_; first | (with_reducible refine qw_then ?_)) | (refine lw_nil ?_) | ((refine is_bin ?_; first | (refine lw_pure rfl (pv_eql rfl rfl) ?_))) | ((refine is_load ?_; first | (refine lw_pure rfl (pv_load (t1 rfl) rfl (by first | exact PT.ld0 (H.mono hw) rfl | exact PT.ld (H.mono hw) rfl | exact SlR.ld (HN.mono hw) hx1 rfl | exact SlR.ld1 (HN.mono hw) hx1 rfl)) ?_))) | ((refine is_fa ?_; first | (refine lw_pure rfl (pv_fa (tF rfl) rfl) ?_))) | ((refine is_ia ?_; first | (refine lw_pure rfl (pv_ia (tS rfl) rfl rfl (by omega)) ?_))) | ((refine is_un ?_; first | (refine lw_pure rfl (pv_neg rfl (by omega)) ?_))))
  cases hq : addL l seq e.kind n0 (-n1) with
  | none =>
    have hR : addR seq e.kind l [(n0, -n1)] = (41, []) := by unfold addR addsL; rw [hq]; rfl
    rw [hR]
    refine cw_drawn (fun w' => Below wB.heap.size wB w') (by kernel_rfl) (by repeat (first | exact NoPanic.body | with_reducible refine NoPanic.then ?_ | with_reducible refine NoPanic.inBlock ?_)) (fun hNP => ?_)
    have hS := hw.drew
    (refine at0 0 rfl (fun w' hq => pv_move rfl) ?_)
    (refine at0 1 rfl (fun w' hq => pv_move rfl) ?_)
    (refine at0 2 rfl (fun w' hq => pv_ia (tS rfl) rfl rfl (by omega)) ?_)
    (refine at0 3 rfl (fun w' hq => pv_load (t1 rfl) rfl (by first | exact SlR.ld (HN.mono hq) hx0 rfl | exact SlR.ld1 (HN.mono hq) hx0 rfl | exact PT.ld0 (H.mono hq) rfl | exact PT.ld (H.mono hq) rfl)) ?_)
    (refine at0 4 rfl (fun w' hq => pv_move rfl) ?_)
    (refine at0 5 rfl (fun w' hq => pv_fa (tF rfl) rfl) ?_)
    (refine at0 6 rfl (fun w' hq => pv_load (t1 rfl) rfl (by first | exact SlR.ld (HN.mono hq) hx0 rfl | exact SlR.ld1 (HN.mono hq) hx0 rfl | exact PT.ld0 (H.mono hq) rfl | exact PT.ld (H.mono hq) rfl)) ?_)
    (refine at0 7 rfl (fun w' hq => pv_move rfl) ?_)
    refine aw_act 8 (by kernel_rfl) rfl rfl rfl ?_
    refine act_call (f := 32) (by kernel_rfl) rfl (radd_n hq hml (by omega) (HS.mono hS) (by omega)) ?_; rintro e1 w2 ⟨rfl, hb⟩; refine ⟨_, rfl, grow_trans hS hb, fun hS => ?_⟩
    (refine at0 9 rfl (fun w' hq => pv_move rfl) ?_)
    (refine at0 10 rfl (fun w' hq => pv_extract rfl rfl) ?_)
    (refine at0 11 rfl (fun w' hq => pv_extract rfl rfl) ?_)
    (refine at0 12 rfl (fun w' hq => pv_assign rfl) ?_)
    (refine at0 13 rfl (fun w' hq => pv_assign rfl) ?_)
    refine aw_done (by kernel_rfl) ?_
    replace hw := hS; clear hS hNP
    repeat' (first | (refine lw_pure rfl (pv_move rfl) ?_) | (refine lw_pure rfl (pv_assign rfl) ?_) | (refine is_cw ?_; first | (refine cw_seq ?_) | (refine cw_region ?_) | (refine cw_true rfl rfl ?_) | (refine cw_ret ?_)) | (refine is_qw ?_; first | (with_reducible refine qw_then ?_) | (with_reducible refine qw_then_ret ?_) | (with_reducible refine qw_in_ret ?_)) | (refine lw_nil ?_) | ((refine is_un ?_; first | (refine lw_pure rfl (pv_not rfl) ?_))))
    exact qw_ret2 rfl rfl rfl ⟨refN_nil _ _, grow_trans hw0 hw⟩
  | some l' =>
    have hR : addR seq e.kind l [(n0, -n1)] = (0, l') := by unfold addR addsL; rw [hq]; rfl
    rw [hR]
    refine cw_drawn (fun w' => Below wB.heap.size wB w') (by kernel_rfl) (by repeat (first | exact NoPanic.body | with_reducible refine NoPanic.then ?_ | with_reducible refine NoPanic.inBlock ?_)) (fun hNP => ?_)
    have hS := hw.drew
    (refine at0 0 rfl (fun w' hq => pv_move rfl) ?_)
    (refine at0 1 rfl (fun w' hq => pv_move rfl) ?_)
    (refine at0 2 rfl (fun w' hq => pv_ia (tS rfl) rfl rfl (by omega)) ?_)
    (refine at0 3 rfl (fun w' hq => pv_load (t1 rfl) rfl (by first | exact SlR.ld (HN.mono hq) hx0 rfl | exact SlR.ld1 (HN.mono hq) hx0 rfl | exact PT.ld0 (H.mono hq) rfl | exact PT.ld (H.mono hq) rfl)) ?_)
    (refine at0 4 rfl (fun w' hq => pv_move rfl) ?_)
    (refine at0 5 rfl (fun w' hq => pv_fa (tF rfl) rfl) ?_)
    (refine at0 6 rfl (fun w' hq => pv_load (t1 rfl) rfl (by first | exact SlR.ld (HN.mono hq) hx0 rfl | exact SlR.ld1 (HN.mono hq) hx0 rfl | exact PT.ld0 (H.mono hq) rfl | exact PT.ld (H.mono hq) rfl)) ?_)
    (refine at0 7 rfl (fun w' hq => pv_move rfl) ?_)
    refine aw_act 8 (by kernel_rfl) rfl rfl rfl ?_
    refine act_call (f := 32) (by kernel_rfl) rfl (radd_s hq hml (by omega) (HS.mono hS) (by omega)) ?_; rintro e1 w2 ⟨⟨a2, c2, rfl, HQ⟩, hb⟩; refine ⟨_, rfl, grow_trans hS hb, fun hS => ?_⟩
    (refine at0 9 rfl (fun w' hq => pv_move rfl) ?_)
    (refine at0 10 rfl (fun w' hq => pv_extract rfl rfl) ?_)
    (refine at0 11 rfl (fun w' hq => pv_extract rfl rfl) ?_)
    (refine at0 12 rfl (fun w' hq => pv_assign rfl) ?_)
    (refine at0 13 rfl (fun w' hq => pv_assign rfl) ?_)
    refine aw_done (by kernel_rfl) ?_
    replace hw := hS; clear hS hNP
    repeat' (first | (refine lw_pure rfl (pv_move rfl) ?_) | (refine lw_pure rfl (pv_assign rfl) ?_) | (refine is_cw ?_; first | (refine cw_seq ?_) | (refine cw_region ?_) | (refine cw_false rfl rfl ?_) | (refine cw_skip ?_) | (refine cw_ret ?_)) | (refine is_qw ?_; first | (with_reducible refine qw_then ?_) | (with_reducible refine qw_then_ret ?_) | (with_reducible refine qw_in_ret ?_)) | (refine lw_nil ?_) | ((refine is_un ?_; first | (refine lw_pure rfl (pv_not rfl) ?_))))
    exact qw_ret2 rfl rfl rfl ⟨⟨_, _, rfl, HQ⟩, grow_trans hw0 hw⟩
set_option maxRecDepth 20000 in
set_option maxHeartbeats 8000000 in
theorem rst21_c {l : List Ln} {p : List Opn} {t : List Lt} {e : Evt} {seq : Int} {ml mp mt mn mx : Nat} {al ap at_ an ax : Option Addr} {cl cp ct cn cx : Nat} {w : World} (hml : l.length = ml) (hmp : p.length = mp) (hmt : t.length = mt) (hmn : e.nums.length = mn) (hmx : e.texts.length = mx) (HS : SlR encN 5 w al cl l) (hin : In64N l) (hll : l.length ≤ 524288) (HP : SlR encP 6 w ap cp p) (HL : SlR encL 4 w at_ ct t) (HN : SlR encI 1 w an cn e.nums) (HX : SlR encT 1 w ax cx e.texts) (hT : TxtIn e.texts) (g1 : mayLn l = true) (g2 : mayV p t = true) (g3 : e.v = 3) (g4 : mayE e = true) (g5 : 0 ≤ seq ∧ seq < 1048576) (g6 : seqL l ≤ seq) (hk : e.kind = 21) : Calls Tryz.prog 10 #[.slice al ml cl, .slice ap mp cp, .slice at_ mt ct, .int .i64 seq, .agg #[.int .u8 e.v, .int .u8 e.kind, .slice an mn cn, .slice ax mx cx]] w fun e1 w' => RefN w' e1 (addR seq e.kind l [(nthI e 0, -nthI e 2), (nthI e 1, nthI e 2)]) ∧ Below w.heap.size w w' := by
  obtain ⟨n0, n1, n2, hev, h0, h1, h2⟩ := lnums21 g4 g3 hk
  have hx0 := at_of (i := 0) hev rfl
  have hx1 := at_of (i := 1) hev rfl
  have hx2 := at_of (i := 2) hev rfl
  have hlen : e.nums.length = 3 := by rw [hev]; rfl
  have hn0 : nthI e 0 = n0 := nth_of hx0
  have hn1 : nthI e 1 = n1 := nth_of hx1
  have hn2 : nthI e 2 = n2 := nth_of hx2
  rw [hn0, hn1, hn2]
  clear hev hn0 hn1 hn2
  obtain ⟨ab, ao, rfl, -, -⟩ := HN.at (by intro h; rw [h] at hlen; cases hlen)
  subst hmp hmt hmn hmx
  have hw := Below.refl w.heap.size w
  have hcn := HN.le
  have hcm := HN.max
  have hcp := HP.le
  have hcpm := HP.max
  have hct := HL.le
  have hctm := HL.max
  have hcl := HS.le
  have hclm := HS.max
  refine fn_enter 214 Tryz.func10 rfl rfl rfl ?_
  repeat' (first | (refine is_cw ?_; first | (refine cw_seq ?_) | (refine cw_region ?_)))
  refine lw_boxN rfl rfl (cs := [.int .u8 e.v, .int .u8 e.kind, .slice ((some ⟨ab, ao, none⟩)) e.nums.length cn, .slice ax e.texts.length cx]) rfl ?_; intro NE wE hNE H hb
  replace hw := grow_trans hw hb
  replace HS := HS.mono hw
  replace HP := HP.mono hw
  replace HL := HL.mono hw
  replace HN := HN.mono hw
  replace HX := HX.mono hw
  have hw0 := hw
  clear hw hb
  have hw := Below.refl wE.heap.size wE
  repeat' ((fail_if_success (refine is_seqr 1 ?_)); first | (refine lw_pure rfl (pv_assign rfl) ?_) | (refine is_cw ?_; first | (refine cw_seq ?_)) | (refine is_qw ?_; first | (with_reducible refine qw_then ?_)) | (refine lw_nil ?_))
  refine cw_cut (σ := Bool) (fun b => [(0, .slice al ml cl), (1, .slice ap p.length cp), (2, .slice at_ t.length ct), (3, .int .i64 seq), (9, .pointer (some ⟨NE, 0, none⟩)), (64, .bool b)]) (fun b w' => Below wE.heap.size wE w' ∧ b = false) ?_ ?_
  · by_cases h0 : l.length = 0
    · repeat' (first | (refine lw_pure rfl (pv_move rfl) ?_) | (refine lw_call (f := 8) (by kernel_rfl) rfl rfl (rmayL_e g1 hml (HS.mono hw) hin) ?_; rintro e w1 ⟨rfl, hb⟩; refine ⟨_, rfl, ?_⟩; replace hw := grow_trans hw hb; clear hb) | (refine lw_call (f := 30) (by kernel_rfl) rfl rfl (rmayV_e g2 rfl rfl (HP.mono hw) (HL.mono hw)) ?_; rintro e w1 ⟨rfl, hb⟩; refine ⟨_, rfl, ?_⟩; replace hw := grow_trans hw hb; clear hb) | (refine lw_call (f := 31) (by kernel_rfl) rfl rfl (rmayE_e g4 rfl rfl (HN.mono hw) (HX.mono hw) hT) ?_; rintro e w1 ⟨rfl, hb⟩; refine ⟨_, rfl, ?_⟩; replace hw := grow_trans hw hb; clear hb) | (refine is_cw ?_; first | (refine cw_region ?_)) | (refine lw_nil ?_) | (refine is_guarded ?_; first | (refine lw_on rfl rfl rfl ?_) | (refine lw_on rfl rfl (by first | assumption | exact decide_eq_true (by omega) | exact decide_eq_false (by omega) | exact dec_notT (by omega) | exact dec_notF (by omega)) ?_) | (refine lw_not rfl rfl rfl (by first | assumption | exact decide_eq_true (by omega) | exact decide_eq_false (by omega) | exact dec_notT (by omega) | exact dec_notF (by omega)) ?_)) | ((refine is_bin ?_; first | (refine lw_pure rfl (pv_lss rfl rfl) ?_) | (refine lw_pure rfl (pv_neq rfl rfl) ?_) | (refine lw_pure rfl (pv_gtr rfl rfl) ?_) | (refine lw_pure rfl (pv_geq rfl rfl) ?_))) | ((refine is_load ?_; first | (refine lw_pure rfl (pv_load (t1 rfl) rfl (by first | exact PT.ld0 (H.mono hw) rfl | exact PT.ld (H.mono hw) rfl)) ?_) | (refine lw_pure rfl (pv_loada (tA rfl) rfl (by first | exact PT.lda (H.mono hw)) (by rfl)) ?_))) | ((refine is_fa ?_; first | (refine lw_pure rfl (pv_fa (tF rfl) rfl) ?_))) | ((refine is_un ?_; first | (refine lw_pure rfl (pv_not rfl) ?_))) | ((refine is_bi ?_; first | (refine lw_pure rfl (pv_lenl (tS rfl) rfl) ?_))) | (refine lw_pure rfl (pv_pick_f rfl rfl rfl) ?_) | (refine lw_pure rfl (pv_pick_f rfl (by first | assumption | exact decide_eq_false (by omega) | exact dec_notF (by omega)) rfl) ?_))
      exact qw_join _ (by repeat' (first | exact trivial | refine ⟨rfl, ?_⟩)) ⟨hw, rfl⟩
    · skip
      obtain ⟨j, hj⟩ : ∃ j, l.length = j + 1 := ⟨l.length - 1, by omega⟩
      have hxj : l[j]? = some (l[j]'(by omega)) := List.getElem?_eq_getElem (by omega)
      generalize l[j]'(by omega) = x at hxj
      have hsq := seq_lastR hj hxj
      obtain ⟨lb, lo, rfl, -, -⟩ := HS.at (by intro h; rw [h] at hj; simp at hj)
      have hjj : (((j + 1 : Nat) : Int) - 1).toNat = j := by omega
      have hld : ∀ w' : World, Below wE.heap.size wE w' → w'.cell? ⟨lb, lo + (((j + 1 : Nat) : Int) - 1).toNat * 5 + 1, none⟩ = some (.int .i64 x.seq) := fun w' h => by rw [hjj]; exact (HS.mono h).ld hxj rfl
      obtain rfl : ml = j + 1 := by omega
      repeat' (first | (refine lw_pure rfl (pv_move rfl) ?_) | (refine lw_call (f := 8) (by kernel_rfl) rfl rfl (rmayL_e g1 hml (HS.mono hw) hin) ?_; rintro e w1 ⟨rfl, hb⟩; refine ⟨_, rfl, ?_⟩; replace hw := grow_trans hw hb; clear hb) | (refine lw_call (f := 30) (by kernel_rfl) rfl rfl (rmayV_e g2 rfl rfl (HP.mono hw) (HL.mono hw)) ?_; rintro e w1 ⟨rfl, hb⟩; refine ⟨_, rfl, ?_⟩; replace hw := grow_trans hw hb; clear hb) | (refine lw_call (f := 31) (by kernel_rfl) rfl rfl (rmayE_e g4 rfl rfl (HN.mono hw) (HX.mono hw) hT) ?_; rintro e w1 ⟨rfl, hb⟩; refine ⟨_, rfl, ?_⟩; replace hw := grow_trans hw hb; clear hb) | (refine is_cw ?_; first | (refine cw_region ?_)) | (refine lw_nil ?_) | (refine is_guarded ?_; first | (refine lw_on rfl rfl rfl ?_) | (refine lw_on rfl rfl (by first | assumption | exact decide_eq_true (by omega) | exact decide_eq_false (by omega) | exact dec_notT (by omega) | exact dec_notF (by omega)) ?_)) | ((refine is_bin ?_; first | (refine lw_pure rfl (pv_lss rfl rfl) ?_) | (refine lw_pure rfl (pv_neq rfl rfl) ?_) | (refine lw_pure rfl (pv_gtr rfl rfl) ?_) | (refine lw_pure rfl (pv_geq rfl rfl) ?_) | (refine lw_pure rfl (pv_sub rfl rfl (by omega)) ?_))) | ((refine is_load ?_; first | (refine lw_pure rfl (pv_load (t1 rfl) rfl (hld _ hw)) ?_) | (refine lw_pure rfl (pv_load (t1 rfl) rfl (by first | exact PT.ld0 (H.mono hw) rfl | exact PT.ld (H.mono hw) rfl)) ?_) | (refine lw_pure rfl (pv_loada (tA rfl) rfl (by first | exact PT.lda (H.mono hw)) (by rfl)) ?_))) | ((refine is_fa ?_; first | (refine lw_pure rfl (pv_fa (tF rfl) rfl) ?_))) | ((refine is_ia ?_; first | (refine lw_pure rfl (pv_ia (tS rfl) rfl rfl (by omega)) ?_))) | ((refine is_un ?_; first | (refine lw_pure rfl (pv_not rfl) ?_))) | ((refine is_bi ?_; first | (refine lw_pure rfl (pv_lenl (tS rfl) rfl) ?_))) | (refine lw_pure rfl (pv_pick_f rfl rfl rfl) ?_) | (refine lw_pure rfl (pv_pick_t rfl (by first | assumption | exact decide_eq_true (by omega) | exact dec_notT (by omega)) rfl) ?_) | (refine lw_pure rfl (pv_pick_f rfl (by first | assumption | exact decide_eq_false (by omega) | exact dec_notF (by omega)) rfl) ?_))
      exact qw_join _ (by repeat' (first | exact trivial | refine ⟨rfl, ?_⟩)) ⟨hw, decide_eq_false (by rw [hsq] at g6; omega)⟩
  rintro - wB ⟨hw, rfl⟩
  replace HS := HS.mono hw
  replace HP := HP.mono hw
  replace HL := HL.mono hw
  replace HN := HN.mono hw
  replace H := H.mono hw
  replace hw0 := grow_trans hw0 hw
  clear hw
  have hw := Below.refl wB.heap.size wB
  repeat' (first | (refine lw_pure rfl (pv_assign rfl) ?_) | (refine is_cw ?_; first | (refine cw_seq ?_) | (refine cw_region ?_) | (refine cw_false rfl rfl ?_) | (refine cw_true rfl (by first | assumption | exact decide_eq_true (by omega) | exact dec_notT (by omega)) ?_) | (refine cw_false rfl (by first | assumption | exact decide_eq_false (by omega) | exact dec_notF (by omega)) ?_) | (refine cw_skip ?_) | (refine cw_block ?_)) | (refine is_qw ?_; first | (with_reducible refine qw_then ?_)) | (refine lw_nil ?_) | ((refine is_bin ?_; first | (refine lw_pure rfl (pv_eql rfl rfl) ?_))) | ((refine is_load ?_; first | (refine lw_pure rfl (pv_load (t1 rfl) rfl (by first | exact PT.ld0 (H.mono hw) rfl | exact PT.ld (H.mono hw) rfl)) ?_))) | ((refine is_fa ?_; first | (refine lw_pure rfl (pv_fa (tF rfl) rfl) ?_))))
  refine cw_drawn (fun w' => Below wB.heap.size wB w') (by kernel_rfl) (by repeat (first | exact NoPanic.body | with_reducible refine NoPanic.then ?_ | with_reducible refine NoPanic.inBlock ?_)) (fun hNP => ?_)
  have hS := hw.drew
  (refine at0 0 rfl (fun w' hq => pv_move rfl) ?_)
  (refine at0 1 rfl (fun w' hq => pv_move rfl) ?_)
  (refine at0 2 rfl (fun w' hq => pv_fa (tF rfl) rfl) ?_)
  (refine at0 3 rfl (fun w' hq => pv_load (t1 rfl) rfl (by first | exact SlR.ld (HN.mono hq) hx0 rfl | exact SlR.ld1 (HN.mono hq) hx0 rfl | exact SlR.ld (HN.mono hq) hx1 rfl | exact SlR.ld1 (HN.mono hq) hx1 rfl | exact SlR.ld (HN.mono hq) hx2 rfl | exact SlR.ld1 (HN.mono hq) hx2 rfl | exact PT.ld0 (H.mono hq) rfl | exact PT.ld (H.mono hq) rfl)) ?_)
  (refine at0 4 rfl (fun w' hq => pv_move rfl) ?_)
  (refine at0 5 rfl (fun w' hq => pv_ia (tS rfl) rfl rfl (by omega)) ?_)
  (refine at0 6 rfl (fun w' hq => pv_load (t1 rfl) rfl (by first | exact SlR.ld (HN.mono hq) hx0 rfl | exact SlR.ld1 (HN.mono hq) hx0 rfl | exact SlR.ld (HN.mono hq) hx1 rfl | exact SlR.ld1 (HN.mono hq) hx1 rfl | exact SlR.ld (HN.mono hq) hx2 rfl | exact SlR.ld1 (HN.mono hq) hx2 rfl | exact PT.ld0 (H.mono hq) rfl | exact PT.ld (H.mono hq) rfl)) ?_)
  (refine at0 7 rfl (fun w' hq => pv_move rfl) ?_)
  (refine at0 8 rfl (fun w' hq => pv_ia (tS rfl) rfl rfl (by omega)) ?_)
  (refine at0 9 rfl (fun w' hq => pv_load (t1 rfl) rfl (by first | exact SlR.ld (HN.mono hq) hx0 rfl | exact SlR.ld1 (HN.mono hq) hx0 rfl | exact SlR.ld (HN.mono hq) hx1 rfl | exact SlR.ld1 (HN.mono hq) hx1 rfl | exact SlR.ld (HN.mono hq) hx2 rfl | exact SlR.ld1 (HN.mono hq) hx2 rfl | exact PT.ld0 (H.mono hq) rfl | exact PT.ld (H.mono hq) rfl)) ?_)
  (refine at0 10 rfl (fun w' hq => pv_move rfl) ?_)
  (refine at0 11 rfl (fun w' hq => pv_ia (tS rfl) rfl rfl (by omega)) ?_)
  (refine at0 12 rfl (fun w' hq => pv_load (t1 rfl) rfl (by first | exact SlR.ld (HN.mono hq) hx0 rfl | exact SlR.ld1 (HN.mono hq) hx0 rfl | exact SlR.ld (HN.mono hq) hx1 rfl | exact SlR.ld1 (HN.mono hq) hx1 rfl | exact SlR.ld (HN.mono hq) hx2 rfl | exact SlR.ld1 (HN.mono hq) hx2 rfl | exact PT.ld0 (H.mono hq) rfl | exact PT.ld (H.mono hq) rfl)) ?_)
  (refine at0 13 rfl (fun w' hq => pv_move rfl) ?_)
  (refine at0 14 rfl (fun w' hq => pv_ia (tS rfl) rfl rfl (by omega)) ?_)
  (refine at0 15 rfl (fun w' hq => pv_load (t1 rfl) rfl (by first | exact SlR.ld (HN.mono hq) hx0 rfl | exact SlR.ld1 (HN.mono hq) hx0 rfl | exact SlR.ld (HN.mono hq) hx1 rfl | exact SlR.ld1 (HN.mono hq) hx1 rfl | exact SlR.ld (HN.mono hq) hx2 rfl | exact SlR.ld1 (HN.mono hq) hx2 rfl | exact PT.ld0 (H.mono hq) rfl | exact PT.ld (H.mono hq) rfl)) ?_)
  refine aw_act 16 (by kernel_rfl) rfl rfl rfl ?_
  refine act_call (f := 33) (by kernel_rfl) rfl (rtwo_e seq e.kind n0 n2 n1 n2 hml hll (HS.mono hS) (bal_in g1) (by unfold NearD; omega) (by unfold NearD; omega)) ?_; rintro e1 w2 ⟨⟨a2, c2, rfl, HQ⟩, hb⟩; refine ⟨_, rfl, grow_trans hS hb, fun hS => ?_⟩
  (refine at0 17 rfl (fun w' hq => pv_extract rfl rfl) ?_)
  (refine at0 18 rfl (fun w' hq => pv_extract rfl rfl) ?_)
  (refine at0 19 rfl (fun w' hq => pv_assign rfl) ?_)
  (refine at0 20 rfl (fun w' hq => pv_assign rfl) ?_)
  refine aw_done (by kernel_rfl) ?_
  replace hw := hS; clear hS hNP
  repeat' (first | (refine is_cw ?_; first | (refine cw_ret ?_)) | (refine is_qw ?_; first | (with_reducible refine qw_then ?_) | (with_reducible refine qw_then_ret ?_) | (with_reducible refine qw_in_ret ?_)))
  exact qw_ret2 rfl rfl rfl ⟨⟨_, _, rfl, HQ⟩, grow_trans hw0 hw⟩
set_option maxRecDepth 20000 in
set_option maxHeartbeats 8000000 in
theorem rst18_c {l : List Ln} {p : List Opn} {t : List Lt} {e : Evt} {seq : Int} {ml mp mt mn mx : Nat} {al ap at_ an ax : Option Addr} {cl cp ct cn cx : Nat} {w : World} (hml : l.length = ml) (hmp : p.length = mp) (hmt : t.length = mt) (hmn : e.nums.length = mn) (hmx : e.texts.length = mx) (HS : SlR encN 5 w al cl l) (hin : In64N l) (hll : l.length ≤ 524288) (HP : SlR encP 6 w ap cp p) (HL : SlR encL 4 w at_ ct t) (HN : SlR encI 1 w an cn e.nums) (HX : SlR encT 1 w ax cx e.texts) (hT : TxtIn e.texts) (g1 : mayLn l = true) (g2 : mayV p t = true) (g3 : e.v = 3) (g4 : mayE e = true) (g5 : 0 ≤ seq ∧ seq < 1048576) (g6 : seqL l ≤ seq) (hk : e.kind = 18) : Calls Tryz.prog 10 #[.slice al ml cl, .slice ap mp cp, .slice at_ mt ct, .int .i64 seq, .agg #[.int .u8 e.v, .int .u8 e.kind, .slice an mn cn, .slice ax mx cx]] w fun e1 w' => RefN w' e1 ((match lotP t (nthI e 0) with | some x => addR seq e.kind l [(nthI e 1, -nthI e 2), (x.seller, nthI e 2 - nthI e 3)] | none => (5, []))) ∧ Below w.heap.size w w' := by
  obtain ⟨n0, n1, n2, n3, hev, h1, h2, h3⟩ := lnums18 g4 g3 hk
  have hx0 := at_of (i := 0) hev rfl
  have hx1 := at_of (i := 1) hev rfl
  have hx2 := at_of (i := 2) hev rfl
  have hx3 := at_of (i := 3) hev rfl
  have hlen : e.nums.length = 4 := by rw [hev]; rfl
  have hn0 : nthI e 0 = n0 := nth_of hx0
  have hn1 : nthI e 1 = n1 := nth_of hx1
  have hn2 : nthI e 2 = n2 := nth_of hx2
  have hn3 : nthI e 3 = n3 := nth_of hx3
  rw [hn0, hn1, hn2, hn3, lotP_eq]
  clear hev hn0 hn1 hn2 hn3
  obtain ⟨ab, ao, rfl, -, -⟩ := HN.at (by intro h; rw [h] at hlen; cases hlen)
  subst hmp hmt hmn hmx
  have hw := Below.refl w.heap.size w
  have hcn := HN.le
  have hcm := HN.max
  have hcp := HP.le
  have hcpm := HP.max
  have hct := HL.le
  have hctm := HL.max
  have hcl := HS.le
  have hclm := HS.max
  refine fn_enter 214 Tryz.func10 rfl rfl rfl ?_
  repeat' (first | (refine is_cw ?_; first | (refine cw_seq ?_) | (refine cw_region ?_)))
  refine lw_boxN rfl rfl (cs := [.int .u8 e.v, .int .u8 e.kind, .slice ((some ⟨ab, ao, none⟩)) e.nums.length cn, .slice ax e.texts.length cx]) rfl ?_; intro NE wE hNE H hb
  replace hw := grow_trans hw hb
  replace HS := HS.mono hw
  replace HP := HP.mono hw
  replace HL := HL.mono hw
  replace HN := HN.mono hw
  replace HX := HX.mono hw
  have hw0 := hw
  clear hw hb
  have hw := Below.refl wE.heap.size wE
  repeat' ((fail_if_success (refine is_seqr 1 ?_)); first | (refine lw_pure rfl (pv_assign rfl) ?_) | (refine is_cw ?_; first | (refine cw_seq ?_)) | (refine is_qw ?_; first | (with_reducible refine qw_then ?_)) | (refine lw_nil ?_))
  refine cw_cut (σ := Bool) (fun b => [(0, .slice al ml cl), (1, .slice ap p.length cp), (2, .slice at_ t.length ct), (3, .int .i64 seq), (9, .pointer (some ⟨NE, 0, none⟩)), (64, .bool b)]) (fun b w' => Below wE.heap.size wE w' ∧ b = false) ?_ ?_
  · by_cases h0 : l.length = 0
    · repeat' (first | (refine lw_pure rfl (pv_move rfl) ?_) | (refine lw_call (f := 8) (by kernel_rfl) rfl rfl (rmayL_e g1 hml (HS.mono hw) hin) ?_; rintro e w1 ⟨rfl, hb⟩; refine ⟨_, rfl, ?_⟩; replace hw := grow_trans hw hb; clear hb) | (refine lw_call (f := 30) (by kernel_rfl) rfl rfl (rmayV_e g2 rfl rfl (HP.mono hw) (HL.mono hw)) ?_; rintro e w1 ⟨rfl, hb⟩; refine ⟨_, rfl, ?_⟩; replace hw := grow_trans hw hb; clear hb) | (refine lw_call (f := 31) (by kernel_rfl) rfl rfl (rmayE_e g4 rfl rfl (HN.mono hw) (HX.mono hw) hT) ?_; rintro e w1 ⟨rfl, hb⟩; refine ⟨_, rfl, ?_⟩; replace hw := grow_trans hw hb; clear hb) | (refine is_cw ?_; first | (refine cw_region ?_)) | (refine lw_nil ?_) | (refine is_guarded ?_; first | (refine lw_on rfl rfl rfl ?_) | (refine lw_on rfl rfl (by first | assumption | exact decide_eq_true (by omega) | exact decide_eq_false (by omega) | exact dec_notT (by omega) | exact dec_notF (by omega)) ?_) | (refine lw_not rfl rfl rfl (by first | assumption | exact decide_eq_true (by omega) | exact decide_eq_false (by omega) | exact dec_notT (by omega) | exact dec_notF (by omega)) ?_)) | ((refine is_bin ?_; first | (refine lw_pure rfl (pv_lss rfl rfl) ?_) | (refine lw_pure rfl (pv_neq rfl rfl) ?_) | (refine lw_pure rfl (pv_gtr rfl rfl) ?_) | (refine lw_pure rfl (pv_geq rfl rfl) ?_))) | ((refine is_load ?_; first | (refine lw_pure rfl (pv_load (t1 rfl) rfl (by first | exact PT.ld0 (H.mono hw) rfl | exact PT.ld (H.mono hw) rfl)) ?_) | (refine lw_pure rfl (pv_loada (tA rfl) rfl (by first | exact PT.lda (H.mono hw)) (by rfl)) ?_))) | ((refine is_fa ?_; first | (refine lw_pure rfl (pv_fa (tF rfl) rfl) ?_))) | ((refine is_un ?_; first | (refine lw_pure rfl (pv_not rfl) ?_))) | ((refine is_bi ?_; first | (refine lw_pure rfl (pv_lenl (tS rfl) rfl) ?_))) | (refine lw_pure rfl (pv_pick_f rfl rfl rfl) ?_) | (refine lw_pure rfl (pv_pick_f rfl (by first | assumption | exact decide_eq_false (by omega) | exact dec_notF (by omega)) rfl) ?_))
      exact qw_join _ (by repeat' (first | exact trivial | refine ⟨rfl, ?_⟩)) ⟨hw, rfl⟩
    · skip
      obtain ⟨j, hj⟩ : ∃ j, l.length = j + 1 := ⟨l.length - 1, by omega⟩
      have hxj : l[j]? = some (l[j]'(by omega)) := List.getElem?_eq_getElem (by omega)
      generalize l[j]'(by omega) = x at hxj
      have hsq := seq_lastR hj hxj
      obtain ⟨lb, lo, rfl, -, -⟩ := HS.at (by intro h; rw [h] at hj; simp at hj)
      have hjj : (((j + 1 : Nat) : Int) - 1).toNat = j := by omega
      have hld : ∀ w' : World, Below wE.heap.size wE w' → w'.cell? ⟨lb, lo + (((j + 1 : Nat) : Int) - 1).toNat * 5 + 1, none⟩ = some (.int .i64 x.seq) := fun w' h => by rw [hjj]; exact (HS.mono h).ld hxj rfl
      obtain rfl : ml = j + 1 := by omega
      repeat' (first | (refine lw_pure rfl (pv_move rfl) ?_) | (refine lw_call (f := 8) (by kernel_rfl) rfl rfl (rmayL_e g1 hml (HS.mono hw) hin) ?_; rintro e w1 ⟨rfl, hb⟩; refine ⟨_, rfl, ?_⟩; replace hw := grow_trans hw hb; clear hb) | (refine lw_call (f := 30) (by kernel_rfl) rfl rfl (rmayV_e g2 rfl rfl (HP.mono hw) (HL.mono hw)) ?_; rintro e w1 ⟨rfl, hb⟩; refine ⟨_, rfl, ?_⟩; replace hw := grow_trans hw hb; clear hb) | (refine lw_call (f := 31) (by kernel_rfl) rfl rfl (rmayE_e g4 rfl rfl (HN.mono hw) (HX.mono hw) hT) ?_; rintro e w1 ⟨rfl, hb⟩; refine ⟨_, rfl, ?_⟩; replace hw := grow_trans hw hb; clear hb) | (refine is_cw ?_; first | (refine cw_region ?_)) | (refine lw_nil ?_) | (refine is_guarded ?_; first | (refine lw_on rfl rfl rfl ?_) | (refine lw_on rfl rfl (by first | assumption | exact decide_eq_true (by omega) | exact decide_eq_false (by omega) | exact dec_notT (by omega) | exact dec_notF (by omega)) ?_)) | ((refine is_bin ?_; first | (refine lw_pure rfl (pv_lss rfl rfl) ?_) | (refine lw_pure rfl (pv_neq rfl rfl) ?_) | (refine lw_pure rfl (pv_gtr rfl rfl) ?_) | (refine lw_pure rfl (pv_geq rfl rfl) ?_) | (refine lw_pure rfl (pv_sub rfl rfl (by omega)) ?_))) | ((refine is_load ?_; first | (refine lw_pure rfl (pv_load (t1 rfl) rfl (hld _ hw)) ?_) | (refine lw_pure rfl (pv_load (t1 rfl) rfl (by first | exact PT.ld0 (H.mono hw) rfl | exact PT.ld (H.mono hw) rfl)) ?_) | (refine lw_pure rfl (pv_loada (tA rfl) rfl (by first | exact PT.lda (H.mono hw)) (by rfl)) ?_))) | ((refine is_fa ?_; first | (refine lw_pure rfl (pv_fa (tF rfl) rfl) ?_))) | ((refine is_ia ?_; first | (refine lw_pure rfl (pv_ia (tS rfl) rfl rfl (by omega)) ?_))) | ((refine is_un ?_; first | (refine lw_pure rfl (pv_not rfl) ?_))) | ((refine is_bi ?_; first | (refine lw_pure rfl (pv_lenl (tS rfl) rfl) ?_))) | (refine lw_pure rfl (pv_pick_f rfl rfl rfl) ?_) | (refine lw_pure rfl (pv_pick_t rfl (by first | assumption | exact decide_eq_true (by omega) | exact dec_notT (by omega)) rfl) ?_) | (refine lw_pure rfl (pv_pick_f rfl (by first | assumption | exact decide_eq_false (by omega) | exact dec_notF (by omega)) rfl) ?_))
      exact qw_join _ (by repeat' (first | exact trivial | refine ⟨rfl, ?_⟩)) ⟨hw, decide_eq_false (by rw [hsq] at g6; omega)⟩
  rintro - wB ⟨hw, rfl⟩
  replace HS := HS.mono hw
  replace HP := HP.mono hw
  replace HL := HL.mono hw
  replace HN := HN.mono hw
  replace H := H.mono hw
  replace hw0 := grow_trans hw0 hw
  clear hw
  have hw := Below.refl wB.heap.size wB
  cases hf : findT t n0 with
  | none =>
    dsimp only
    repeat' (first | (refine lw_pure rfl (pv_move rfl) ?_) | (refine lw_pure rfl (pv_assign rfl) ?_) | (refine lw_call (f := 35) (by kernel_rfl) rfl rfl (rfindT_e hf rfl (HL.mono hw)) ?_; rintro e w1 ⟨rfl, hb⟩; refine ⟨_, rfl, ?_⟩; replace hw := grow_trans hw hb; clear hb) | (refine is_cw ?_; first | (refine cw_seq ?_) | (refine cw_region ?_) | (refine cw_false rfl rfl ?_) | (refine cw_true rfl (by first | assumption | exact decide_eq_true (by omega) | exact dec_notT (by omega)) ?_) | (refine cw_false rfl (by first | assumption | exact decide_eq_false (by omega) | exact dec_notF (by omega)) ?_) | (refine cw_skip ?_) | (refine cw_block ?_)) | (refine is_qw ?_; first | (with_reducible refine qw_then ?_)) | (refine lw_nil ?_) | ((refine is_bin ?_; first | (refine lw_pure rfl (pv_eql rfl rfl) ?_))) | ((refine is_load ?_; first | (refine lw_pure rfl (pv_load (t1 rfl) rfl (by first | exact PT.ld0 (H.mono hw) rfl | exact PT.ld (H.mono hw) rfl | exact SlR.ld (HN.mono hw) hx0 rfl | exact SlR.ld1 (HN.mono hw) hx0 rfl)) ?_))) | ((refine is_fa ?_; first | (refine lw_pure rfl (pv_fa (tF rfl) rfl) ?_))) | ((refine is_ia ?_; first | (refine lw_pure rfl (pv_ia (tS rfl) rfl rfl (by omega)) ?_))) | (refine lw_pure rfl (pv_extract rfl rfl) ?_))
    refine lw_varN rfl (by first | exact tyv_27 | exact tyv_28 | exact tyv_36 | exact tyv_37 | exact tyv_68 | exact tyv_69 | exact tyv_72 | exact tyv_73 | exact tyv_79 | exact tyv_80 | exact tyv_117 | exact tyv_118 | exact tyv_130 | exact tyv_131) rfl (tZ rfl) (fun _ => rfl) rfl rfl ?_; intro N1 wn hN1 HF hb; replace hw := grow_trans hw hb; clear hb
    repeat' (first | (refine lw_pure rfl (pv_move rfl) ?_) | (refine lw_pure rfl (pv_assign rfl) ?_) | (refine is_cw ?_; first | (refine cw_seq ?_) | (refine cw_region ?_) | (refine cw_true rfl rfl ?_) | (refine cw_ret ?_)) | (refine is_qw ?_; first | (with_reducible refine qw_then ?_) | (with_reducible refine qw_then_ret ?_) | (with_reducible refine qw_in_ret ?_)) | (refine lw_nil ?_) | ((refine is_un ?_; first | (refine lw_pure rfl (pv_not rfl) ?_))))
    exact qw_ret2 rfl rfl rfl ⟨refN_nil _ _, grow_trans hw0 hw⟩
  | some x =>
    dsimp only
    repeat' (first | (refine lw_pure rfl (pv_move rfl) ?_) | (refine lw_pure rfl (pv_assign rfl) ?_) | (refine lw_call (f := 35) (by kernel_rfl) rfl rfl (rfindT_s hf rfl (HL.mono hw)) ?_; rintro e w1 ⟨rfl, hb⟩; refine ⟨_, rfl, ?_⟩; replace hw := grow_trans hw hb; clear hb) | (refine is_cw ?_; first | (refine cw_seq ?_) | (refine cw_region ?_) | (refine cw_false rfl rfl ?_) | (refine cw_true rfl (by first | assumption | exact decide_eq_true (by omega) | exact dec_notT (by omega)) ?_) | (refine cw_false rfl (by first | assumption | exact decide_eq_false (by omega) | exact dec_notF (by omega)) ?_) | (refine cw_skip ?_) | (refine cw_block ?_)) | (refine is_qw ?_; first | (with_reducible refine qw_then ?_)) | (refine lw_nil ?_) | ((refine is_bin ?_; first | (refine lw_pure rfl (pv_eql rfl rfl) ?_))) | ((refine is_load ?_; first | (refine lw_pure rfl (pv_load (t1 rfl) rfl (by first | exact PT.ld0 (H.mono hw) rfl | exact PT.ld (H.mono hw) rfl | exact SlR.ld (HN.mono hw) hx0 rfl | exact SlR.ld1 (HN.mono hw) hx0 rfl)) ?_))) | ((refine is_fa ?_; first | (refine lw_pure rfl (pv_fa (tF rfl) rfl) ?_))) | ((refine is_ia ?_; first | (refine lw_pure rfl (pv_ia (tS rfl) rfl rfl (by omega)) ?_))) | (refine lw_pure rfl (pv_extract rfl rfl) ?_))
    refine lw_varN rfl (by first | exact tyv_27 | exact tyv_28 | exact tyv_36 | exact tyv_37 | exact tyv_68 | exact tyv_69 | exact tyv_72 | exact tyv_73 | exact tyv_79 | exact tyv_80 | exact tyv_117 | exact tyv_118 | exact tyv_130 | exact tyv_131) rfl (tZ rfl) (fun _ => rfl) rfl rfl ?_; intro N1 wn hN1 HF hb; replace hw := grow_trans hw hb; clear hb
    replace HS := HS.mono hw
    replace HP := HP.mono hw
    replace HL := HL.mono hw
    replace HN := HN.mono hw
    replace H := H.mono hw
    replace hw0 := grow_trans hw0 hw
    clear hw
    have hw := Below.refl wn.heap.size wn
    repeat' (first | (refine lw_pure rfl (pv_move rfl) ?_) | (refine lw_pure rfl (pv_assign rfl) ?_) | (refine is_cw ?_; first | (refine cw_seq ?_) | (refine cw_region ?_) | (refine cw_false rfl rfl ?_) | (refine cw_skip ?_)) | (refine is_qw ?_; first | (with_reducible refine qw_then ?_)) | (refine lw_nil ?_) | ((refine is_un ?_; first | (refine lw_pure rfl (pv_not rfl) ?_))))
    refine cw_drawn (fun w' => Below wn.heap.size wn w') (by kernel_rfl) (by repeat (first | exact NoPanic.body | with_reducible refine NoPanic.then ?_ | with_reducible refine NoPanic.inBlock ?_)) (fun hNP => ?_)
    have hS := hw.drew
    (refine at0 0 rfl (fun w' hq => pv_move rfl) ?_)
    (refine at0 1 rfl (fun w' hq => pv_move rfl) ?_)
    (refine at0 2 rfl (fun w' hq => pv_fa (tF rfl) rfl) ?_)
    (refine at0 3 rfl (fun w' hq => pv_load (t1 rfl) rfl (by first | exact SlR.ld (HN.mono hq) hx1 rfl | exact SlR.ld1 (HN.mono hq) hx1 rfl | exact SlR.ld (HN.mono hq) hx2 rfl | exact SlR.ld1 (HN.mono hq) hx2 rfl | exact SlR.ld (HN.mono hq) hx3 rfl | exact SlR.ld1 (HN.mono hq) hx3 rfl | exact PT.ld0 (H.mono hq) rfl | exact PT.ld (H.mono hq) rfl | exact PT.ld0 (HF.mono hq) rfl | exact PT.ld (HF.mono hq) rfl)) ?_)
    (refine at0 4 rfl (fun w' hq => pv_move rfl) ?_)
    (refine at0 5 rfl (fun w' hq => pv_ia (tS rfl) rfl rfl (by omega)) ?_)
    (refine at0 6 rfl (fun w' hq => pv_load (t1 rfl) rfl (by first | exact SlR.ld (HN.mono hq) hx1 rfl | exact SlR.ld1 (HN.mono hq) hx1 rfl | exact SlR.ld (HN.mono hq) hx2 rfl | exact SlR.ld1 (HN.mono hq) hx2 rfl | exact SlR.ld (HN.mono hq) hx3 rfl | exact SlR.ld1 (HN.mono hq) hx3 rfl | exact PT.ld0 (H.mono hq) rfl | exact PT.ld (H.mono hq) rfl | exact PT.ld0 (HF.mono hq) rfl | exact PT.ld (HF.mono hq) rfl)) ?_)
    (refine at0 7 rfl (fun w' hq => pv_move rfl) ?_)
    (refine at0 8 rfl (fun w' hq => pv_ia (tS rfl) rfl rfl (by omega)) ?_)
    (refine at0 9 rfl (fun w' hq => pv_load (t1 rfl) rfl (by first | exact SlR.ld (HN.mono hq) hx1 rfl | exact SlR.ld1 (HN.mono hq) hx1 rfl | exact SlR.ld (HN.mono hq) hx2 rfl | exact SlR.ld1 (HN.mono hq) hx2 rfl | exact SlR.ld (HN.mono hq) hx3 rfl | exact SlR.ld1 (HN.mono hq) hx3 rfl | exact PT.ld0 (H.mono hq) rfl | exact PT.ld (H.mono hq) rfl | exact PT.ld0 (HF.mono hq) rfl | exact PT.ld (HF.mono hq) rfl)) ?_)
    (refine at0 10 rfl (fun w' hq => pv_fa (tF rfl) rfl) ?_)
    (refine at0 11 rfl (fun w' hq => pv_load (t1 rfl) rfl (by first | exact SlR.ld (HN.mono hq) hx1 rfl | exact SlR.ld1 (HN.mono hq) hx1 rfl | exact SlR.ld (HN.mono hq) hx2 rfl | exact SlR.ld1 (HN.mono hq) hx2 rfl | exact SlR.ld (HN.mono hq) hx3 rfl | exact SlR.ld1 (HN.mono hq) hx3 rfl | exact PT.ld0 (H.mono hq) rfl | exact PT.ld (H.mono hq) rfl | exact PT.ld0 (HF.mono hq) rfl | exact PT.ld (HF.mono hq) rfl)) ?_)
    (refine at0 12 rfl (fun w' hq => pv_move rfl) ?_)
    (refine at0 13 rfl (fun w' hq => pv_ia (tS rfl) rfl rfl (by omega)) ?_)
    (refine at0 14 rfl (fun w' hq => pv_load (t1 rfl) rfl (by first | exact SlR.ld (HN.mono hq) hx1 rfl | exact SlR.ld1 (HN.mono hq) hx1 rfl | exact SlR.ld (HN.mono hq) hx2 rfl | exact SlR.ld1 (HN.mono hq) hx2 rfl | exact SlR.ld (HN.mono hq) hx3 rfl | exact SlR.ld1 (HN.mono hq) hx3 rfl | exact PT.ld0 (H.mono hq) rfl | exact PT.ld (H.mono hq) rfl | exact PT.ld0 (HF.mono hq) rfl | exact PT.ld (HF.mono hq) rfl)) ?_)
    (refine at0 15 rfl (fun w' hq => pv_move rfl) ?_)
    (refine at0 16 rfl (fun w' hq => pv_ia (tS rfl) rfl rfl (by omega)) ?_)
    (refine at0 17 rfl (fun w' hq => pv_load (t1 rfl) rfl (by first | exact SlR.ld (HN.mono hq) hx1 rfl | exact SlR.ld1 (HN.mono hq) hx1 rfl | exact SlR.ld (HN.mono hq) hx2 rfl | exact SlR.ld1 (HN.mono hq) hx2 rfl | exact SlR.ld (HN.mono hq) hx3 rfl | exact SlR.ld1 (HN.mono hq) hx3 rfl | exact PT.ld0 (H.mono hq) rfl | exact PT.ld (H.mono hq) rfl | exact PT.ld0 (HF.mono hq) rfl | exact PT.ld (HF.mono hq) rfl)) ?_)
    (refine at0 18 rfl (fun w' hq => pv_sub rfl rfl (by omega)) ?_)
    refine aw_act 19 (by kernel_rfl) rfl rfl rfl ?_
    refine act_call (f := 33) (by kernel_rfl) rfl (rtwo_e seq e.kind n1 n2 x.seller (n2 - n3) hml hll (HS.mono hS) (bal_in g1) (by unfold NearD; omega) (by unfold NearD; omega)) ?_; rintro e1 w2 ⟨⟨a2, c2, rfl, HQ⟩, hb⟩; refine ⟨_, rfl, grow_trans hS hb, fun hS => ?_⟩
    (refine at0 20 rfl (fun w' hq => pv_extract rfl rfl) ?_)
    (refine at0 21 rfl (fun w' hq => pv_extract rfl rfl) ?_)
    (refine at0 22 rfl (fun w' hq => pv_assign rfl) ?_)
    (refine at0 23 rfl (fun w' hq => pv_assign rfl) ?_)
    refine aw_done (by kernel_rfl) ?_
    replace hw := hS; clear hS hNP
    repeat' (first | (refine is_cw ?_; first | (refine cw_ret ?_)) | (refine is_qw ?_; first | (with_reducible refine qw_then ?_) | (with_reducible refine qw_then_ret ?_) | (with_reducible refine qw_in_ret ?_)))
    exact qw_ret2 rfl rfl rfl ⟨⟨_, _, rfl, HQ⟩, grow_trans hw0 hw⟩
set_option maxRecDepth 20000 in
set_option maxHeartbeats 8000000 in
theorem rst13_c {l : List Ln} {p : List Opn} {t : List Lt} {e : Evt} {seq : Int} {ml mp mt mn mx : Nat} {al ap at_ an ax : Option Addr} {cl cp ct cn cx : Nat} {w : World} (hml : l.length = ml) (hmp : p.length = mp) (hmt : t.length = mt) (hmn : e.nums.length = mn) (hmx : e.texts.length = mx) (HS : SlR encN 5 w al cl l) (hin : In64N l) (hll : l.length ≤ 524288) (HP : SlR encP 6 w ap cp p) (HL : SlR encL 4 w at_ ct t) (HN : SlR encI 1 w an cn e.nums) (HX : SlR encT 1 w ax cx e.texts) (hT : TxtIn e.texts) (g1 : mayLn l = true) (g2 : mayV p t = true) (g3 : e.v = 3) (g4 : mayE e = true) (g5 : 0 ≤ seq ∧ seq < 1048576) (g6 : seqL l ≤ seq) (hk : e.kind = 13) : Calls Tryz.prog 10 #[.slice al ml cl, .slice ap mp cp, .slice at_ mt ct, .int .i64 seq, .agg #[.int .u8 e.v, .int .u8 e.kind, .slice an mn cn, .slice ax mx cx]] w fun e1 w' => RefN w' e1 ((match findP p (nthI e 0), findP p (nthI e 1) with
    | some a, some b => if a.side = b.side then (1, []) else if a.side = 2 then addR seq e.kind l [(b.acct, -(nthI e 2 * nthI e 3)), (a.acct, nthI e 2 * nthI e 3 - nthI e 4)] else addR seq e.kind l [(a.acct, -(nthI e 2 * nthI e 3)), (b.acct, nthI e 2 * nthI e 3 - nthI e 4)]
    | _, _ => (5, []))) ∧ Below w.heap.size w w' := by
  obtain ⟨n0, n1, n2, n3, n4, hev, h2, h3, h4⟩ := lnums13 g4 g3 hk
  have hmul := mul_in h2 h3
  have hx0 := at_of (i := 0) hev rfl
  have hx1 := at_of (i := 1) hev rfl
  have hx2 := at_of (i := 2) hev rfl
  have hx3 := at_of (i := 3) hev rfl
  have hx4 := at_of (i := 4) hev rfl
  have hlen : e.nums.length = 5 := by rw [hev]; rfl
  have hn0 : nthI e 0 = n0 := nth_of hx0
  have hn1 : nthI e 1 = n1 := nth_of hx1
  have hn2 : nthI e 2 = n2 := nth_of hx2
  have hn3 : nthI e 3 = n3 := nth_of hx3
  have hn4 : nthI e 4 = n4 := nth_of hx4
  rw [hn0, hn1, hn2, hn3, hn4]
  clear hev hn0 hn1 hn2 hn3 hn4
  obtain ⟨ab, ao, rfl, -, -⟩ := HN.at (by intro h; rw [h] at hlen; cases hlen)
  subst hmp hmt hmn hmx
  have hw := Below.refl w.heap.size w
  have hcn := HN.le
  have hcm := HN.max
  have hcp := HP.le
  have hcpm := HP.max
  have hct := HL.le
  have hctm := HL.max
  have hcl := HS.le
  have hclm := HS.max
  refine fn_enter 214 Tryz.func10 rfl rfl rfl ?_
  repeat' (first | (refine is_cw ?_; first | (refine cw_seq ?_) | (refine cw_region ?_)))
  refine lw_boxN rfl rfl (cs := [.int .u8 e.v, .int .u8 e.kind, .slice ((some ⟨ab, ao, none⟩)) e.nums.length cn, .slice ax e.texts.length cx]) rfl ?_; intro NE wE hNE H hb
  replace hw := grow_trans hw hb
  replace HS := HS.mono hw
  replace HP := HP.mono hw
  replace HL := HL.mono hw
  replace HN := HN.mono hw
  replace HX := HX.mono hw
  have hw0 := hw
  clear hw hb
  have hw := Below.refl wE.heap.size wE
  repeat' ((fail_if_success (refine is_seqr 1 ?_)); first | (refine lw_pure rfl (pv_assign rfl) ?_) | (refine is_cw ?_; first | (refine cw_seq ?_)) | (refine is_qw ?_; first | (with_reducible refine qw_then ?_)) | (refine lw_nil ?_))
  refine cw_cut (σ := Bool) (fun b => [(0, .slice al ml cl), (1, .slice ap p.length cp), (2, .slice at_ t.length ct), (3, .int .i64 seq), (9, .pointer (some ⟨NE, 0, none⟩)), (64, .bool b)]) (fun b w' => Below wE.heap.size wE w' ∧ b = false) ?_ ?_
  · by_cases h0 : l.length = 0
    · repeat' (first | (refine lw_pure rfl (pv_move rfl) ?_) | (refine lw_call (f := 8) (by kernel_rfl) rfl rfl (rmayL_e g1 hml (HS.mono hw) hin) ?_; rintro e w1 ⟨rfl, hb⟩; refine ⟨_, rfl, ?_⟩; replace hw := grow_trans hw hb; clear hb) | (refine lw_call (f := 30) (by kernel_rfl) rfl rfl (rmayV_e g2 rfl rfl (HP.mono hw) (HL.mono hw)) ?_; rintro e w1 ⟨rfl, hb⟩; refine ⟨_, rfl, ?_⟩; replace hw := grow_trans hw hb; clear hb) | (refine lw_call (f := 31) (by kernel_rfl) rfl rfl (rmayE_e g4 rfl rfl (HN.mono hw) (HX.mono hw) hT) ?_; rintro e w1 ⟨rfl, hb⟩; refine ⟨_, rfl, ?_⟩; replace hw := grow_trans hw hb; clear hb) | (refine is_cw ?_; first | (refine cw_region ?_)) | (refine lw_nil ?_) | (refine is_guarded ?_; first | (refine lw_on rfl rfl rfl ?_) | (refine lw_on rfl rfl (by first | assumption | exact decide_eq_true (by omega) | exact decide_eq_false (by omega) | exact dec_notT (by omega) | exact dec_notF (by omega)) ?_) | (refine lw_not rfl rfl rfl (by first | assumption | exact decide_eq_true (by omega) | exact decide_eq_false (by omega) | exact dec_notT (by omega) | exact dec_notF (by omega)) ?_)) | ((refine is_bin ?_; first | (refine lw_pure rfl (pv_lss rfl rfl) ?_) | (refine lw_pure rfl (pv_neq rfl rfl) ?_) | (refine lw_pure rfl (pv_gtr rfl rfl) ?_) | (refine lw_pure rfl (pv_geq rfl rfl) ?_))) | ((refine is_load ?_; first | (refine lw_pure rfl (pv_load (t1 rfl) rfl (by first | exact PT.ld0 (H.mono hw) rfl | exact PT.ld (H.mono hw) rfl)) ?_) | (refine lw_pure rfl (pv_loada (tA rfl) rfl (by first | exact PT.lda (H.mono hw)) (by rfl)) ?_))) | ((refine is_fa ?_; first | (refine lw_pure rfl (pv_fa (tF rfl) rfl) ?_))) | ((refine is_un ?_; first | (refine lw_pure rfl (pv_not rfl) ?_))) | ((refine is_bi ?_; first | (refine lw_pure rfl (pv_lenl (tS rfl) rfl) ?_))) | (refine lw_pure rfl (pv_pick_f rfl rfl rfl) ?_) | (refine lw_pure rfl (pv_pick_f rfl (by first | assumption | exact decide_eq_false (by omega) | exact dec_notF (by omega)) rfl) ?_))
      exact qw_join _ (by repeat' (first | exact trivial | refine ⟨rfl, ?_⟩)) ⟨hw, rfl⟩
    · skip
      obtain ⟨j, hj⟩ : ∃ j, l.length = j + 1 := ⟨l.length - 1, by omega⟩
      have hxj : l[j]? = some (l[j]'(by omega)) := List.getElem?_eq_getElem (by omega)
      generalize l[j]'(by omega) = x at hxj
      have hsq := seq_lastR hj hxj
      obtain ⟨lb, lo, rfl, -, -⟩ := HS.at (by intro h; rw [h] at hj; simp at hj)
      have hjj : (((j + 1 : Nat) : Int) - 1).toNat = j := by omega
      have hld : ∀ w' : World, Below wE.heap.size wE w' → w'.cell? ⟨lb, lo + (((j + 1 : Nat) : Int) - 1).toNat * 5 + 1, none⟩ = some (.int .i64 x.seq) := fun w' h => by rw [hjj]; exact (HS.mono h).ld hxj rfl
      obtain rfl : ml = j + 1 := by omega
      repeat' (first | (refine lw_pure rfl (pv_move rfl) ?_) | (refine lw_call (f := 8) (by kernel_rfl) rfl rfl (rmayL_e g1 hml (HS.mono hw) hin) ?_; rintro e w1 ⟨rfl, hb⟩; refine ⟨_, rfl, ?_⟩; replace hw := grow_trans hw hb; clear hb) | (refine lw_call (f := 30) (by kernel_rfl) rfl rfl (rmayV_e g2 rfl rfl (HP.mono hw) (HL.mono hw)) ?_; rintro e w1 ⟨rfl, hb⟩; refine ⟨_, rfl, ?_⟩; replace hw := grow_trans hw hb; clear hb) | (refine lw_call (f := 31) (by kernel_rfl) rfl rfl (rmayE_e g4 rfl rfl (HN.mono hw) (HX.mono hw) hT) ?_; rintro e w1 ⟨rfl, hb⟩; refine ⟨_, rfl, ?_⟩; replace hw := grow_trans hw hb; clear hb) | (refine is_cw ?_; first | (refine cw_region ?_)) | (refine lw_nil ?_) | (refine is_guarded ?_; first | (refine lw_on rfl rfl rfl ?_) | (refine lw_on rfl rfl (by first | assumption | exact decide_eq_true (by omega) | exact decide_eq_false (by omega) | exact dec_notT (by omega) | exact dec_notF (by omega)) ?_)) | ((refine is_bin ?_; first | (refine lw_pure rfl (pv_lss rfl rfl) ?_) | (refine lw_pure rfl (pv_neq rfl rfl) ?_) | (refine lw_pure rfl (pv_gtr rfl rfl) ?_) | (refine lw_pure rfl (pv_geq rfl rfl) ?_) | (refine lw_pure rfl (pv_sub rfl rfl (by omega)) ?_))) | ((refine is_load ?_; first | (refine lw_pure rfl (pv_load (t1 rfl) rfl (hld _ hw)) ?_) | (refine lw_pure rfl (pv_load (t1 rfl) rfl (by first | exact PT.ld0 (H.mono hw) rfl | exact PT.ld (H.mono hw) rfl)) ?_) | (refine lw_pure rfl (pv_loada (tA rfl) rfl (by first | exact PT.lda (H.mono hw)) (by rfl)) ?_))) | ((refine is_fa ?_; first | (refine lw_pure rfl (pv_fa (tF rfl) rfl) ?_))) | ((refine is_ia ?_; first | (refine lw_pure rfl (pv_ia (tS rfl) rfl rfl (by omega)) ?_))) | ((refine is_un ?_; first | (refine lw_pure rfl (pv_not rfl) ?_))) | ((refine is_bi ?_; first | (refine lw_pure rfl (pv_lenl (tS rfl) rfl) ?_))) | (refine lw_pure rfl (pv_pick_f rfl rfl rfl) ?_) | (refine lw_pure rfl (pv_pick_t rfl (by first | assumption | exact decide_eq_true (by omega) | exact dec_notT (by omega)) rfl) ?_) | (refine lw_pure rfl (pv_pick_f rfl (by first | assumption | exact decide_eq_false (by omega) | exact dec_notF (by omega)) rfl) ?_))
      exact qw_join _ (by repeat' (first | exact trivial | refine ⟨rfl, ?_⟩)) ⟨hw, decide_eq_false (by rw [hsq] at g6; omega)⟩
  rintro - wB ⟨hw, rfl⟩
  replace HS := HS.mono hw
  replace HP := HP.mono hw
  replace HL := HL.mono hw
  replace HN := HN.mono hw
  replace H := H.mono hw
  replace hw0 := grow_trans hw0 hw
  clear hw
  have hw := Below.refl wB.heap.size wB
  obtain ⟨g, hg⟩ : ∃ g, findP p n1 = g := ⟨_, rfl⟩
  cases hf : findP p n0 with
  | none =>
    dsimp only
    repeat' (first | (refine lw_pure rfl (pv_move rfl) ?_) | (refine lw_pure rfl (pv_assign rfl) ?_) | (refine lw_call (f := 34) (by kernel_rfl) rfl rfl (rfindP_e hf rfl (HP.mono hw)) ?_; rintro e w1 ⟨rfl, hb⟩; refine ⟨_, rfl, ?_⟩; replace hw := grow_trans hw hb; clear hb) | (refine is_cw ?_; first | (refine cw_seq ?_) | (refine cw_region ?_) | (refine cw_false rfl rfl ?_) | (refine cw_true rfl (by first | assumption | exact decide_eq_true (by omega) | exact dec_notT (by omega)) ?_) | (refine cw_false rfl (by first | assumption | exact decide_eq_false (by omega) | exact dec_notF (by omega)) ?_) | (refine cw_skip ?_) | (refine cw_block ?_)) | (refine is_qw ?_; first | (with_reducible refine qw_then ?_)) | (refine lw_nil ?_) | ((refine is_bin ?_; first | (refine lw_pure rfl (pv_eql rfl rfl) ?_))) | ((refine is_load ?_; first | (refine lw_pure rfl (pv_load (t1 rfl) rfl (by first | exact PT.ld0 (H.mono hw) rfl | exact PT.ld (H.mono hw) rfl | exact SlR.ld (HN.mono hw) hx0 rfl | exact SlR.ld1 (HN.mono hw) hx0 rfl)) ?_))) | ((refine is_fa ?_; first | (refine lw_pure rfl (pv_fa (tF rfl) rfl) ?_))) | ((refine is_ia ?_; first | (refine lw_pure rfl (pv_ia (tS rfl) rfl rfl (by omega)) ?_))) | (refine lw_pure rfl (pv_extract rfl rfl) ?_))
    refine lw_varN rfl (by first | exact tyv_27 | exact tyv_28 | exact tyv_36 | exact tyv_37 | exact tyv_68 | exact tyv_69 | exact tyv_72 | exact tyv_73 | exact tyv_79 | exact tyv_80 | exact tyv_117 | exact tyv_118 | exact tyv_130 | exact tyv_131) rfl (tZ rfl) (fun _ => rfl) rfl rfl ?_; intro N1 wn hN1 HF hb; replace hw := grow_trans hw hb; clear hb
    repeat' (first | (refine lw_pure rfl (pv_move rfl) ?_) | (refine lw_pure rfl (pv_assign rfl) ?_) | (refine lw_call (f := 34) (by kernel_rfl) rfl rfl (rfindP_e hg rfl (HP.mono hw)) ?_; rintro e w1 ⟨rfl, hb⟩; refine ⟨_, rfl, ?_⟩; replace hw := grow_trans hw hb; clear hb) | (refine is_cw ?_; first | (refine cw_seq ?_) | (refine cw_region ?_)) | (refine is_qw ?_; first | (with_reducible refine qw_then ?_)) | (refine lw_nil ?_) | ((refine is_load ?_; first | (refine lw_pure rfl (pv_load (t1 rfl) rfl (by first | exact SlR.ld (HN.mono hw) hx1 rfl | exact SlR.ld1 (HN.mono hw) hx1 rfl)) ?_))) | ((refine is_ia ?_; first | (refine lw_pure rfl (pv_ia (tS rfl) rfl rfl (by omega)) ?_))) | (refine lw_pure rfl (pv_extract rfl rfl) ?_))
    refine lw_varN rfl (by first | exact tyv_27 | exact tyv_28 | exact tyv_36 | exact tyv_37 | exact tyv_68 | exact tyv_69 | exact tyv_72 | exact tyv_73 | exact tyv_79 | exact tyv_80 | exact tyv_117 | exact tyv_118 | exact tyv_130 | exact tyv_131) rfl (tZ rfl) (fun _ => rfl) rfl rfl ?_; intro N2 wn hN2 HG hb; replace hw := grow_trans hw hb; clear hb
    repeat' (first | (refine lw_pure rfl (pv_move rfl) ?_) | (refine lw_pure rfl (pv_assign rfl) ?_) | (refine is_cw ?_; first | (refine cw_seq ?_) | (refine cw_region ?_) | (refine cw_true rfl rfl ?_) | (refine cw_ret ?_)) | (refine is_qw ?_; first | (with_reducible refine qw_then ?_) | (with_reducible refine qw_then_ret ?_) | (with_reducible refine qw_in_ret ?_)) | (refine lw_nil ?_) | (refine is_guarded ?_; first | (refine lw_not rfl rfl rfl rfl ?_)) | ((refine is_un ?_; first | (refine lw_pure rfl (pv_not rfl) ?_))) | (refine lw_pure rfl (pv_pick_t rfl rfl rfl) ?_))
    exact qw_ret2 rfl rfl rfl ⟨refN_nil _ _, grow_trans hw0 hw⟩
  | some x =>
    rw [hg]
    repeat' (first | (refine lw_pure rfl (pv_move rfl) ?_) | (refine lw_pure rfl (pv_assign rfl) ?_) | (refine lw_call (f := 34) (by kernel_rfl) rfl rfl (rfindP_s hf rfl (HP.mono hw)) ?_; rintro e w1 ⟨rfl, hb⟩; refine ⟨_, rfl, ?_⟩; replace hw := grow_trans hw hb; clear hb) | (refine is_cw ?_; first | (refine cw_seq ?_) | (refine cw_region ?_) | (refine cw_false rfl rfl ?_) | (refine cw_true rfl (by first | assumption | exact decide_eq_true (by omega) | exact dec_notT (by omega)) ?_) | (refine cw_false rfl (by first | assumption | exact decide_eq_false (by omega) | exact dec_notF (by omega)) ?_) | (refine cw_skip ?_) | (refine cw_block ?_)) | (refine is_qw ?_; first | (with_reducible refine qw_then ?_)) | (refine lw_nil ?_) | ((refine is_bin ?_; first | (refine lw_pure rfl (pv_eql rfl rfl) ?_))) | ((refine is_load ?_; first | (refine lw_pure rfl (pv_load (t1 rfl) rfl (by first | exact PT.ld0 (H.mono hw) rfl | exact PT.ld (H.mono hw) rfl | exact SlR.ld (HN.mono hw) hx0 rfl | exact SlR.ld1 (HN.mono hw) hx0 rfl)) ?_))) | ((refine is_fa ?_; first | (refine lw_pure rfl (pv_fa (tF rfl) rfl) ?_))) | ((refine is_ia ?_; first | (refine lw_pure rfl (pv_ia (tS rfl) rfl rfl (by omega)) ?_))) | (refine lw_pure rfl (pv_extract rfl rfl) ?_))
    have hz1 := hw.size
    refine lw_varN rfl (by first | exact tyv_27 | exact tyv_28 | exact tyv_36 | exact tyv_37 | exact tyv_68 | exact tyv_69 | exact tyv_72 | exact tyv_73 | exact tyv_79 | exact tyv_80 | exact tyv_117 | exact tyv_118 | exact tyv_130 | exact tyv_131) rfl (tZ rfl) (fun _ => rfl) rfl rfl ?_; intro N1 wn hN1 HF hb; replace hw := grow_trans hw hb; clear hb
    cases g with
    | none =>
      dsimp only
      repeat' (first | (refine lw_pure rfl (pv_move rfl) ?_) | (refine lw_pure rfl (pv_assign rfl) ?_) | (refine lw_call (f := 34) (by kernel_rfl) rfl rfl (rfindP_e hg rfl (HP.mono hw)) ?_; rintro e w1 ⟨rfl, hb⟩; refine ⟨_, rfl, ?_⟩; replace hw := grow_trans hw hb; clear hb) | (refine is_cw ?_; first | (refine cw_seq ?_) | (refine cw_region ?_)) | (refine is_qw ?_; first | (with_reducible refine qw_then ?_)) | (refine lw_nil ?_) | ((refine is_load ?_; first | (refine lw_pure rfl (pv_load (t1 rfl) rfl (by first | exact SlR.ld (HN.mono hw) hx1 rfl | exact SlR.ld1 (HN.mono hw) hx1 rfl)) ?_))) | ((refine is_ia ?_; first | (refine lw_pure rfl (pv_ia (tS rfl) rfl rfl (by omega)) ?_))) | (refine lw_pure rfl (pv_extract rfl rfl) ?_))
      refine lw_varN rfl (by first | exact tyv_27 | exact tyv_28 | exact tyv_36 | exact tyv_37 | exact tyv_68 | exact tyv_69 | exact tyv_72 | exact tyv_73 | exact tyv_79 | exact tyv_80 | exact tyv_117 | exact tyv_118 | exact tyv_130 | exact tyv_131) rfl (tZ rfl) (fun _ => rfl) rfl rfl ?_; intro N2 wn hN2 HG hb; replace hw := grow_trans hw hb; clear hb
      repeat' (first | (refine lw_pure rfl (pv_move rfl) ?_) | (refine lw_pure rfl (pv_assign rfl) ?_) | (refine is_cw ?_; first | (refine cw_seq ?_) | (refine cw_region ?_) | (refine cw_true rfl rfl ?_) | (refine cw_ret ?_)) | (refine is_qw ?_; first | (with_reducible refine qw_then ?_) | (with_reducible refine qw_then_ret ?_) | (with_reducible refine qw_in_ret ?_)) | (refine lw_nil ?_) | (refine is_guarded ?_; first | (refine lw_on rfl rfl rfl ?_)) | ((refine is_un ?_; first | (refine lw_pure rfl (pv_not rfl) ?_))) | (refine lw_pure rfl (pv_pick_f rfl rfl rfl) ?_))
      exact qw_ret2 rfl rfl rfl ⟨refN_nil _ _, grow_trans hw0 hw⟩
    | some y =>
      dsimp only
      have hF1 := HF.lt
      repeat' (first | (refine lw_pure rfl (pv_move rfl) ?_) | (refine lw_pure rfl (pv_assign rfl) ?_) | (refine is_cw ?_; first | (refine cw_seq ?_) | (refine cw_region ?_)) | (refine is_qw ?_; first | (with_reducible refine qw_then ?_)) | (refine lw_nil ?_) | ((refine is_load ?_; first | (refine lw_pure rfl (pv_load (t1 rfl) rfl (by first | exact SlR.ld (HN.mono hw) hx1 rfl | exact SlR.ld1 (HN.mono hw) hx1 rfl)) ?_))) | ((refine is_ia ?_; first | (refine lw_pure rfl (pv_ia (tS rfl) rfl rfl (by omega)) ?_))))
      refine lw_call (f := 34) (by kernel_rfl) rfl rfl (rfindP_s hg rfl (HP.mono hw)) ?_; rintro e1 w3 ⟨rfl, hb⟩; refine ⟨_, rfl, ?_⟩; replace HF := HF.mono hb; have hz3 := hb.size; replace hw := grow_trans hw hb; clear hb
      repeat' (first | (refine lw_pure rfl (pv_move rfl) ?_) | (refine lw_pure rfl (pv_extract rfl rfl) ?_))
      refine lw_varN rfl (by first | exact tyv_27 | exact tyv_28 | exact tyv_36 | exact tyv_37 | exact tyv_68 | exact tyv_69 | exact tyv_72 | exact tyv_73 | exact tyv_79 | exact tyv_80 | exact tyv_117 | exact tyv_118 | exact tyv_130 | exact tyv_131) rfl (tZ rfl) (fun _ => rfl) rfl rfl ?_; intro N2 wm hN2 HG hb; replace HF := HF.mono hb; replace hw := grow_trans hw hb; clear hb
      have hXY : N1 ≠ N2 := by omega
      have hz4 : wB.heap.size ≤ N2 := by omega
      have hz5 : wB.heap.size ≤ N1 := by omega
      by_cases hs : x.side = y.side
      · rw [if_pos hs]
        repeat' (first | (refine lw_pure rfl (pv_move rfl) ?_) | (refine lw_pure rfl (pv_assign rfl) ?_) | (refine is_cw ?_; first | (refine cw_seq ?_) | (refine cw_region ?_) | (refine cw_false rfl rfl ?_) | (refine cw_true rfl (by first | assumption | exact decide_eq_true (by omega) | exact dec_notT (by omega)) ?_) | (refine cw_skip ?_) | (refine cw_ret ?_)) | (refine is_qw ?_; first | (with_reducible refine qw_then ?_) | (with_reducible refine qw_then_ret ?_) | (with_reducible refine qw_in_ret ?_)) | (refine lw_nil ?_) | (refine is_guarded ?_; first | (refine lw_on rfl rfl rfl ?_)) | ((refine is_bin ?_; first | (refine lw_pure rfl (pv_eql rfl rfl) ?_))) | ((refine is_load ?_; first | (refine lw_pure rfl (pv_load (t1 rfl) rfl (by first | exact PT.ld0 HF rfl | exact PT.ld HF rfl | exact PT.ld0 HG rfl | exact PT.ld HG rfl)) ?_))) | ((refine is_fa ?_; first | (refine lw_pure rfl (pv_fa (tF rfl) rfl) ?_))) | ((refine is_un ?_; first | (refine lw_pure rfl (pv_not rfl) ?_))) | (refine lw_pure rfl (pv_pick_f rfl rfl rfl) ?_))
        exact qw_ret2 rfl rfl rfl ⟨refN_nil _ _, grow_trans hw0 hw⟩
      · rw [if_neg hs]
        by_cases h2s : x.side = 2
        · rw [if_pos h2s]
          repeat' (first | (refine lw_pure rfl (pv_move rfl) ?_) | (refine lw_pure rfl (pv_assign rfl) ?_) | (refine is_cw ?_; first | (refine cw_seq ?_) | (refine cw_region ?_) | (refine cw_false rfl rfl ?_) | (refine cw_true rfl (by first | assumption | exact decide_eq_true (by omega) | exact dec_notT (by omega)) ?_) | (refine cw_false rfl (by first | assumption | exact decide_eq_false (by omega) | exact dec_notF (by omega)) ?_) | (refine cw_skip ?_)) | (refine is_qw ?_; first | (with_reducible refine qw_then ?_)) | (refine lw_nil ?_) | (refine is_guarded ?_; first | (refine lw_on rfl rfl rfl ?_)) | ((refine is_bin ?_; first | (refine lw_pure rfl (pv_eql rfl rfl) ?_))) | ((refine is_load ?_; first | (refine lw_pure rfl (pv_load (t1 rfl) rfl (by first | exact PT.ld0 HF rfl | exact PT.ld HF rfl | exact PT.ld0 HG rfl | exact PT.ld HG rfl)) ?_) | (refine lw_pure rfl (pv_loada (tA rfl) rfl (by first | exact PT.lda HF | exact PT.lda HG) (by rfl)) ?_))) | ((refine is_fa ?_; first | (refine lw_pure rfl (pv_fa (tF rfl) rfl) ?_))) | ((refine is_un ?_; first | (refine lw_pure rfl (pv_not rfl) ?_))) | (refine lw_pure rfl (pv_pick_f rfl rfl rfl) ?_))
          refine lw_storea (vs := encP y) HF (tZ rfl) rfl rfl rfl rfl (encP_one _) ?_; intro w6 HF6 hg6 hz6
          have HG6 : PT w6 N2 69 (encP y) := (hg6.block N2 HG.lt (fun e => hXY (Option.some.inj e).symm)).trans HG
          replace hw := st_hw hw hg6 hz5
          refine lw_storea (vs := encP x) HG6 (tZ rfl) rfl rfl rfl rfl (encP_one _) ?_; intro w7 HG7 hg7 hz7
          have HF7 : PT w7 N1 69 (encP y) := (hg7.block N1 HF6.lt (fun e => hXY (Option.some.inj e))).trans HF6
          replace hw := st_hw hw hg7 hz4
          replace HS := HS.mono hw
          replace HN := HN.mono hw
          replace H := H.mono hw
          replace hw0 := grow_trans hw0 hw
          clear hw
          have hw := Below.refl w7.heap.size w7
          repeat' (first | (refine is_cw ?_; first | (refine cw_seq ?_)) | (refine is_qw ?_; first | (with_reducible refine qw_then ?_)) | (refine lw_nil ?_))
          refine cw_drawn (fun w' => Below w7.heap.size w7 w') (by kernel_rfl) (by repeat (first | exact NoPanic.body | with_reducible refine NoPanic.then ?_ | with_reducible refine NoPanic.inBlock ?_)) (fun hNP => ?_)
          have hS := hw.drew
          (refine at0 0 rfl (fun w' hq => pv_move rfl) ?_)
          (refine at0 1 rfl (fun w' hq => pv_move rfl) ?_)
          (refine at0 2 rfl (fun w' hq => pv_fa (tF rfl) rfl) ?_)
          (refine at0 3 rfl (fun w' hq => pv_load (t1 rfl) rfl (by first | exact SlR.ld (HN.mono hq) hx2 rfl | exact SlR.ld1 (HN.mono hq) hx2 rfl | exact SlR.ld (HN.mono hq) hx3 rfl | exact SlR.ld1 (HN.mono hq) hx3 rfl | exact SlR.ld (HN.mono hq) hx4 rfl | exact SlR.ld1 (HN.mono hq) hx4 rfl | exact PT.ld0 (H.mono hq) rfl | exact PT.ld (H.mono hq) rfl | exact PT.ld0 (HF7.mono hq) rfl | exact PT.ld (HF7.mono hq) rfl | exact PT.ld0 (HG7.mono hq) rfl | exact PT.ld (HG7.mono hq) rfl)) ?_)
          (refine at0 4 rfl (fun w' hq => pv_fa (tF rfl) rfl) ?_)
          (refine at0 5 rfl (fun w' hq => pv_load (t1 rfl) rfl (by first | exact SlR.ld (HN.mono hq) hx2 rfl | exact SlR.ld1 (HN.mono hq) hx2 rfl | exact SlR.ld (HN.mono hq) hx3 rfl | exact SlR.ld1 (HN.mono hq) hx3 rfl | exact SlR.ld (HN.mono hq) hx4 rfl | exact SlR.ld1 (HN.mono hq) hx4 rfl | exact PT.ld0 (H.mono hq) rfl | exact PT.ld (H.mono hq) rfl | exact PT.ld0 (HF7.mono hq) rfl | exact PT.ld (HF7.mono hq) rfl | exact PT.ld0 (HG7.mono hq) rfl | exact PT.ld (HG7.mono hq) rfl)) ?_)
          (refine at0 6 rfl (fun w' hq => pv_move rfl) ?_)
          (refine at0 7 rfl (fun w' hq => pv_ia (tS rfl) rfl rfl (by omega)) ?_)
          (refine at0 8 rfl (fun w' hq => pv_load (t1 rfl) rfl (by first | exact SlR.ld (HN.mono hq) hx2 rfl | exact SlR.ld1 (HN.mono hq) hx2 rfl | exact SlR.ld (HN.mono hq) hx3 rfl | exact SlR.ld1 (HN.mono hq) hx3 rfl | exact SlR.ld (HN.mono hq) hx4 rfl | exact SlR.ld1 (HN.mono hq) hx4 rfl | exact PT.ld0 (H.mono hq) rfl | exact PT.ld (H.mono hq) rfl | exact PT.ld0 (HF7.mono hq) rfl | exact PT.ld (HF7.mono hq) rfl | exact PT.ld0 (HG7.mono hq) rfl | exact PT.ld (HG7.mono hq) rfl)) ?_)
          (refine at0 9 rfl (fun w' hq => pv_move rfl) ?_)
          (refine at0 10 rfl (fun w' hq => pv_ia (tS rfl) rfl rfl (by omega)) ?_)
          (refine at0 11 rfl (fun w' hq => pv_load (t1 rfl) rfl (by first | exact SlR.ld (HN.mono hq) hx2 rfl | exact SlR.ld1 (HN.mono hq) hx2 rfl | exact SlR.ld (HN.mono hq) hx3 rfl | exact SlR.ld1 (HN.mono hq) hx3 rfl | exact SlR.ld (HN.mono hq) hx4 rfl | exact SlR.ld1 (HN.mono hq) hx4 rfl | exact PT.ld0 (H.mono hq) rfl | exact PT.ld (H.mono hq) rfl | exact PT.ld0 (HF7.mono hq) rfl | exact PT.ld (HF7.mono hq) rfl | exact PT.ld0 (HG7.mono hq) rfl | exact PT.ld (HG7.mono hq) rfl)) ?_)
          (refine at0 12 rfl (fun w' hq => pv_mul rfl rfl (by omega)) ?_)
          (refine at0 13 rfl (fun w' hq => pv_fa (tF rfl) rfl) ?_)
          (refine at0 14 rfl (fun w' hq => pv_load (t1 rfl) rfl (by first | exact SlR.ld (HN.mono hq) hx2 rfl | exact SlR.ld1 (HN.mono hq) hx2 rfl | exact SlR.ld (HN.mono hq) hx3 rfl | exact SlR.ld1 (HN.mono hq) hx3 rfl | exact SlR.ld (HN.mono hq) hx4 rfl | exact SlR.ld1 (HN.mono hq) hx4 rfl | exact PT.ld0 (H.mono hq) rfl | exact PT.ld (H.mono hq) rfl | exact PT.ld0 (HF7.mono hq) rfl | exact PT.ld (HF7.mono hq) rfl | exact PT.ld0 (HG7.mono hq) rfl | exact PT.ld (HG7.mono hq) rfl)) ?_)
          (refine at0 15 rfl (fun w' hq => pv_move rfl) ?_)
          (refine at0 16 rfl (fun w' hq => pv_ia (tS rfl) rfl rfl (by omega)) ?_)
          (refine at0 17 rfl (fun w' hq => pv_load (t1 rfl) rfl (by first | exact SlR.ld (HN.mono hq) hx2 rfl | exact SlR.ld1 (HN.mono hq) hx2 rfl | exact SlR.ld (HN.mono hq) hx3 rfl | exact SlR.ld1 (HN.mono hq) hx3 rfl | exact SlR.ld (HN.mono hq) hx4 rfl | exact SlR.ld1 (HN.mono hq) hx4 rfl | exact PT.ld0 (H.mono hq) rfl | exact PT.ld (H.mono hq) rfl | exact PT.ld0 (HF7.mono hq) rfl | exact PT.ld (HF7.mono hq) rfl | exact PT.ld0 (HG7.mono hq) rfl | exact PT.ld (HG7.mono hq) rfl)) ?_)
          (refine at0 18 rfl (fun w' hq => pv_move rfl) ?_)
          (refine at0 19 rfl (fun w' hq => pv_ia (tS rfl) rfl rfl (by omega)) ?_)
          (refine at0 20 rfl (fun w' hq => pv_load (t1 rfl) rfl (by first | exact SlR.ld (HN.mono hq) hx2 rfl | exact SlR.ld1 (HN.mono hq) hx2 rfl | exact SlR.ld (HN.mono hq) hx3 rfl | exact SlR.ld1 (HN.mono hq) hx3 rfl | exact SlR.ld (HN.mono hq) hx4 rfl | exact SlR.ld1 (HN.mono hq) hx4 rfl | exact PT.ld0 (H.mono hq) rfl | exact PT.ld (H.mono hq) rfl | exact PT.ld0 (HF7.mono hq) rfl | exact PT.ld (HF7.mono hq) rfl | exact PT.ld0 (HG7.mono hq) rfl | exact PT.ld (HG7.mono hq) rfl)) ?_)
          (refine at0 21 rfl (fun w' hq => pv_mul rfl rfl (by omega)) ?_)
          (refine at0 22 rfl (fun w' hq => pv_move rfl) ?_)
          (refine at0 23 rfl (fun w' hq => pv_ia (tS rfl) rfl rfl (by omega)) ?_)
          (refine at0 24 rfl (fun w' hq => pv_load (t1 rfl) rfl (by first | exact SlR.ld (HN.mono hq) hx2 rfl | exact SlR.ld1 (HN.mono hq) hx2 rfl | exact SlR.ld (HN.mono hq) hx3 rfl | exact SlR.ld1 (HN.mono hq) hx3 rfl | exact SlR.ld (HN.mono hq) hx4 rfl | exact SlR.ld1 (HN.mono hq) hx4 rfl | exact PT.ld0 (H.mono hq) rfl | exact PT.ld (H.mono hq) rfl | exact PT.ld0 (HF7.mono hq) rfl | exact PT.ld (HF7.mono hq) rfl | exact PT.ld0 (HG7.mono hq) rfl | exact PT.ld (HG7.mono hq) rfl)) ?_)
          (refine at0 25 rfl (fun w' hq => pv_sub rfl rfl (by omega)) ?_)
          refine aw_act 26 (by kernel_rfl) rfl rfl rfl ?_
          refine act_call (f := 33) (by kernel_rfl) rfl (rtwo_e seq e.kind y.acct (n2 * n3) x.acct (n2 * n3 - n4) hml hll (HS.mono hS) (bal_in g1) (by unfold NearD; omega) (by unfold NearD; omega)) ?_; rintro e1 w2 ⟨⟨a2, c2, rfl, HQ⟩, hb⟩; refine ⟨_, rfl, grow_trans hS hb, fun hS => ?_⟩
          (refine at0 27 rfl (fun w' hq => pv_extract rfl rfl) ?_)
          (refine at0 28 rfl (fun w' hq => pv_extract rfl rfl) ?_)
          (refine at0 29 rfl (fun w' hq => pv_assign rfl) ?_)
          (refine at0 30 rfl (fun w' hq => pv_assign rfl) ?_)
          refine aw_done (by kernel_rfl) ?_
          replace hw := hS; clear hS hNP
          repeat' (first | (refine is_cw ?_; first | (refine cw_ret ?_)) | (refine is_qw ?_; first | (with_reducible refine qw_then ?_) | (with_reducible refine qw_then_ret ?_) | (with_reducible refine qw_in_ret ?_)))
          exact qw_ret2 rfl rfl rfl ⟨⟨_, _, rfl, HQ⟩, grow_trans hw0 hw⟩
        · rw [if_neg h2s]
          repeat' (first | (refine lw_pure rfl (pv_move rfl) ?_) | (refine lw_pure rfl (pv_assign rfl) ?_) | (refine is_cw ?_; first | (refine cw_seq ?_) | (refine cw_region ?_) | (refine cw_false rfl rfl ?_) | (refine cw_false rfl (by first | assumption | exact decide_eq_false (by omega) | exact dec_notF (by omega)) ?_) | (refine cw_skip ?_)) | (refine is_qw ?_; first | (with_reducible refine qw_then ?_)) | (refine lw_nil ?_) | (refine is_guarded ?_; first | (refine lw_on rfl rfl rfl ?_)) | ((refine is_bin ?_; first | (refine lw_pure rfl (pv_eql rfl rfl) ?_))) | ((refine is_load ?_; first | (refine lw_pure rfl (pv_load (t1 rfl) rfl (by first | exact PT.ld0 HF rfl | exact PT.ld HF rfl | exact PT.ld0 HG rfl | exact PT.ld HG rfl)) ?_))) | ((refine is_fa ?_; first | (refine lw_pure rfl (pv_fa (tF rfl) rfl) ?_))) | ((refine is_un ?_; first | (refine lw_pure rfl (pv_not rfl) ?_))) | (refine lw_pure rfl (pv_pick_f rfl rfl rfl) ?_))
          replace HS := HS.mono hw
          replace HN := HN.mono hw
          replace H := H.mono hw
          replace hw0 := grow_trans hw0 hw
          clear hw
          have hw := Below.refl wm.heap.size wm
          refine cw_drawn (fun w' => Below wm.heap.size wm w') (by kernel_rfl) (by repeat (first | exact NoPanic.body | with_reducible refine NoPanic.then ?_ | with_reducible refine NoPanic.inBlock ?_)) (fun hNP => ?_)
          have hS := hw.drew
          (refine at0 0 rfl (fun w' hq => pv_move rfl) ?_)
          (refine at0 1 rfl (fun w' hq => pv_move rfl) ?_)
          (refine at0 2 rfl (fun w' hq => pv_fa (tF rfl) rfl) ?_)
          (refine at0 3 rfl (fun w' hq => pv_load (t1 rfl) rfl (by first | exact SlR.ld (HN.mono hq) hx2 rfl | exact SlR.ld1 (HN.mono hq) hx2 rfl | exact SlR.ld (HN.mono hq) hx3 rfl | exact SlR.ld1 (HN.mono hq) hx3 rfl | exact SlR.ld (HN.mono hq) hx4 rfl | exact SlR.ld1 (HN.mono hq) hx4 rfl | exact PT.ld0 (H.mono hq) rfl | exact PT.ld (H.mono hq) rfl | exact PT.ld0 (HF.mono hq) rfl | exact PT.ld (HF.mono hq) rfl | exact PT.ld0 (HG.mono hq) rfl | exact PT.ld (HG.mono hq) rfl)) ?_)
          (refine at0 4 rfl (fun w' hq => pv_fa (tF rfl) rfl) ?_)
          (refine at0 5 rfl (fun w' hq => pv_load (t1 rfl) rfl (by first | exact SlR.ld (HN.mono hq) hx2 rfl | exact SlR.ld1 (HN.mono hq) hx2 rfl | exact SlR.ld (HN.mono hq) hx3 rfl | exact SlR.ld1 (HN.mono hq) hx3 rfl | exact SlR.ld (HN.mono hq) hx4 rfl | exact SlR.ld1 (HN.mono hq) hx4 rfl | exact PT.ld0 (H.mono hq) rfl | exact PT.ld (H.mono hq) rfl | exact PT.ld0 (HF.mono hq) rfl | exact PT.ld (HF.mono hq) rfl | exact PT.ld0 (HG.mono hq) rfl | exact PT.ld (HG.mono hq) rfl)) ?_)
          (refine at0 6 rfl (fun w' hq => pv_move rfl) ?_)
          (refine at0 7 rfl (fun w' hq => pv_ia (tS rfl) rfl rfl (by omega)) ?_)
          (refine at0 8 rfl (fun w' hq => pv_load (t1 rfl) rfl (by first | exact SlR.ld (HN.mono hq) hx2 rfl | exact SlR.ld1 (HN.mono hq) hx2 rfl | exact SlR.ld (HN.mono hq) hx3 rfl | exact SlR.ld1 (HN.mono hq) hx3 rfl | exact SlR.ld (HN.mono hq) hx4 rfl | exact SlR.ld1 (HN.mono hq) hx4 rfl | exact PT.ld0 (H.mono hq) rfl | exact PT.ld (H.mono hq) rfl | exact PT.ld0 (HF.mono hq) rfl | exact PT.ld (HF.mono hq) rfl | exact PT.ld0 (HG.mono hq) rfl | exact PT.ld (HG.mono hq) rfl)) ?_)
          (refine at0 9 rfl (fun w' hq => pv_move rfl) ?_)
          (refine at0 10 rfl (fun w' hq => pv_ia (tS rfl) rfl rfl (by omega)) ?_)
          (refine at0 11 rfl (fun w' hq => pv_load (t1 rfl) rfl (by first | exact SlR.ld (HN.mono hq) hx2 rfl | exact SlR.ld1 (HN.mono hq) hx2 rfl | exact SlR.ld (HN.mono hq) hx3 rfl | exact SlR.ld1 (HN.mono hq) hx3 rfl | exact SlR.ld (HN.mono hq) hx4 rfl | exact SlR.ld1 (HN.mono hq) hx4 rfl | exact PT.ld0 (H.mono hq) rfl | exact PT.ld (H.mono hq) rfl | exact PT.ld0 (HF.mono hq) rfl | exact PT.ld (HF.mono hq) rfl | exact PT.ld0 (HG.mono hq) rfl | exact PT.ld (HG.mono hq) rfl)) ?_)
          (refine at0 12 rfl (fun w' hq => pv_mul rfl rfl (by omega)) ?_)
          (refine at0 13 rfl (fun w' hq => pv_fa (tF rfl) rfl) ?_)
          (refine at0 14 rfl (fun w' hq => pv_load (t1 rfl) rfl (by first | exact SlR.ld (HN.mono hq) hx2 rfl | exact SlR.ld1 (HN.mono hq) hx2 rfl | exact SlR.ld (HN.mono hq) hx3 rfl | exact SlR.ld1 (HN.mono hq) hx3 rfl | exact SlR.ld (HN.mono hq) hx4 rfl | exact SlR.ld1 (HN.mono hq) hx4 rfl | exact PT.ld0 (H.mono hq) rfl | exact PT.ld (H.mono hq) rfl | exact PT.ld0 (HF.mono hq) rfl | exact PT.ld (HF.mono hq) rfl | exact PT.ld0 (HG.mono hq) rfl | exact PT.ld (HG.mono hq) rfl)) ?_)
          (refine at0 15 rfl (fun w' hq => pv_move rfl) ?_)
          (refine at0 16 rfl (fun w' hq => pv_ia (tS rfl) rfl rfl (by omega)) ?_)
          (refine at0 17 rfl (fun w' hq => pv_load (t1 rfl) rfl (by first | exact SlR.ld (HN.mono hq) hx2 rfl | exact SlR.ld1 (HN.mono hq) hx2 rfl | exact SlR.ld (HN.mono hq) hx3 rfl | exact SlR.ld1 (HN.mono hq) hx3 rfl | exact SlR.ld (HN.mono hq) hx4 rfl | exact SlR.ld1 (HN.mono hq) hx4 rfl | exact PT.ld0 (H.mono hq) rfl | exact PT.ld (H.mono hq) rfl | exact PT.ld0 (HF.mono hq) rfl | exact PT.ld (HF.mono hq) rfl | exact PT.ld0 (HG.mono hq) rfl | exact PT.ld (HG.mono hq) rfl)) ?_)
          (refine at0 18 rfl (fun w' hq => pv_move rfl) ?_)
          (refine at0 19 rfl (fun w' hq => pv_ia (tS rfl) rfl rfl (by omega)) ?_)
          (refine at0 20 rfl (fun w' hq => pv_load (t1 rfl) rfl (by first | exact SlR.ld (HN.mono hq) hx2 rfl | exact SlR.ld1 (HN.mono hq) hx2 rfl | exact SlR.ld (HN.mono hq) hx3 rfl | exact SlR.ld1 (HN.mono hq) hx3 rfl | exact SlR.ld (HN.mono hq) hx4 rfl | exact SlR.ld1 (HN.mono hq) hx4 rfl | exact PT.ld0 (H.mono hq) rfl | exact PT.ld (H.mono hq) rfl | exact PT.ld0 (HF.mono hq) rfl | exact PT.ld (HF.mono hq) rfl | exact PT.ld0 (HG.mono hq) rfl | exact PT.ld (HG.mono hq) rfl)) ?_)
          (refine at0 21 rfl (fun w' hq => pv_mul rfl rfl (by omega)) ?_)
          (refine at0 22 rfl (fun w' hq => pv_move rfl) ?_)
          (refine at0 23 rfl (fun w' hq => pv_ia (tS rfl) rfl rfl (by omega)) ?_)
          (refine at0 24 rfl (fun w' hq => pv_load (t1 rfl) rfl (by first | exact SlR.ld (HN.mono hq) hx2 rfl | exact SlR.ld1 (HN.mono hq) hx2 rfl | exact SlR.ld (HN.mono hq) hx3 rfl | exact SlR.ld1 (HN.mono hq) hx3 rfl | exact SlR.ld (HN.mono hq) hx4 rfl | exact SlR.ld1 (HN.mono hq) hx4 rfl | exact PT.ld0 (H.mono hq) rfl | exact PT.ld (H.mono hq) rfl | exact PT.ld0 (HF.mono hq) rfl | exact PT.ld (HF.mono hq) rfl | exact PT.ld0 (HG.mono hq) rfl | exact PT.ld (HG.mono hq) rfl)) ?_)
          (refine at0 25 rfl (fun w' hq => pv_sub rfl rfl (by omega)) ?_)
          refine aw_act 26 (by kernel_rfl) rfl rfl rfl ?_
          refine act_call (f := 33) (by kernel_rfl) rfl (rtwo_e seq e.kind x.acct (n2 * n3) y.acct (n2 * n3 - n4) hml hll (HS.mono hS) (bal_in g1) (by unfold NearD; omega) (by unfold NearD; omega)) ?_; rintro e1 w2 ⟨⟨a2, c2, rfl, HQ⟩, hb⟩; refine ⟨_, rfl, grow_trans hS hb, fun hS => ?_⟩
          (refine at0 27 rfl (fun w' hq => pv_extract rfl rfl) ?_)
          (refine at0 28 rfl (fun w' hq => pv_extract rfl rfl) ?_)
          (refine at0 29 rfl (fun w' hq => pv_assign rfl) ?_)
          (refine at0 30 rfl (fun w' hq => pv_assign rfl) ?_)
          refine aw_done (by kernel_rfl) ?_
          replace hw := hS; clear hS hNP
          repeat' (first | (refine is_cw ?_; first | (refine cw_ret ?_)) | (refine is_qw ?_; first | (with_reducible refine qw_then ?_) | (with_reducible refine qw_then_ret ?_) | (with_reducible refine qw_in_ret ?_)))
          exact qw_ret2 rfl rfl rfl ⟨⟨_, _, rfl, HQ⟩, grow_trans hw0 hw⟩
set_option maxRecDepth 20000 in
set_option maxHeartbeats 8000000 in
theorem rstX_c {l : List Ln} {p : List Opn} {t : List Lt} {e : Evt} {seq : Int} {ml mp mt mn mx : Nat} {al ap at_ an ax : Option Addr} {cl cp ct cn cx : Nat} {w : World} (hml : l.length = ml) (hmp : p.length = mp) (hmt : t.length = mt) (hmn : e.nums.length = mn) (hmx : e.texts.length = mx) (HS : SlR encN 5 w al cl l) (hin : In64N l) (hll : l.length ≤ 524288) (HP : SlR encP 6 w ap cp p) (HL : SlR encL 4 w at_ ct t) (HN : SlR encI 1 w an cn e.nums) (HX : SlR encT 1 w ax cx e.texts) (hT : TxtIn e.texts) (hbad : ¬ (mayLn l = true ∧ mayV p t = true ∧ e.v = 3 ∧ mayE e = true ∧ (0 ≤ seq ∧ seq < 1048576) ∧ seqL l ≤ seq)) : Calls Tryz.prog 10 #[.slice al ml cl, .slice ap mp cp, .slice at_ mt ct, .int .i64 seq, .agg #[.int .u8 e.v, .int .u8 e.kind, .slice an mn cn, .slice ax mx cx]] w fun e1 w' => RefN w' e1 ((4, [])) ∧ Below w.heap.size w w' := by
  subst hmp hmt hmn hmx
  have hw := Below.refl w.heap.size w
  have hcn := HN.le
  have hcm := HN.max
  have hcp := HP.le
  have hcpm := HP.max
  have hct := HL.le
  have hctm := HL.max
  have hcl := HS.le
  have hclm := HS.max
  refine fn_enter 214 Tryz.func10 rfl rfl rfl ?_
  repeat' (first | (refine is_cw ?_; first | (refine cw_seq ?_) | (refine cw_region ?_)))
  refine lw_boxN rfl rfl (cs := [.int .u8 e.v, .int .u8 e.kind, .slice (an) e.nums.length cn, .slice ax e.texts.length cx]) rfl ?_; intro NE wE hNE H hb
  replace hw := grow_trans hw hb
  replace HS := HS.mono hw
  replace HP := HP.mono hw
  replace HL := HL.mono hw
  replace HN := HN.mono hw
  replace HX := HX.mono hw
  have hw0 := hw
  clear hw hb
  have hw := Below.refl wE.heap.size wE
  by_cases g1 : mayLn l = true
  case neg =>
    replace g1 : mayLn l = false := by simpa using g1
    repeat' (first | (refine lw_pure rfl (pv_move rfl) ?_) | (refine lw_pure rfl (pv_assign rfl) ?_) | (refine lw_call (f := 8) (by kernel_rfl) rfl rfl (rmayL_e g1 hml (HS.mono hw) hin) ?_; rintro e w1 ⟨rfl, hb⟩; refine ⟨_, rfl, ?_⟩; replace hw := grow_trans hw hb; clear hb) | (refine is_cw ?_; first | (refine cw_seq ?_) | (refine cw_region ?_) | (refine cw_true rfl rfl ?_) | (refine cw_ret ?_)) | (refine is_qw ?_; first | (with_reducible refine qw_then ?_) | (with_reducible refine qw_then_ret ?_)) | (refine lw_nil ?_) | (refine is_guarded ?_; first | (refine lw_not rfl rfl rfl rfl ?_) | (refine lw_not_u rfl rfl rfl ?_)) | ((refine is_un ?_; first | (refine lw_pure rfl (pv_not rfl) ?_))) | (refine lw_pure rfl (pv_pick_t rfl rfl rfl) ?_))
    exact qw_ret2 rfl rfl rfl ⟨refN_nil _ _, grow_trans hw0 hw⟩
  by_cases g2 : mayV p t = true
  case neg =>
    replace g2 : mayV p t = false := by simpa using g2
    repeat' (first | (refine lw_pure rfl (pv_move rfl) ?_) | (refine lw_pure rfl (pv_assign rfl) ?_) | (refine lw_call (f := 8) (by kernel_rfl) rfl rfl (rmayL_e g1 hml (HS.mono hw) hin) ?_; rintro e w1 ⟨rfl, hb⟩; refine ⟨_, rfl, ?_⟩; replace hw := grow_trans hw hb; clear hb) | (refine lw_call (f := 30) (by kernel_rfl) rfl rfl (rmayV_e g2 rfl rfl (HP.mono hw) (HL.mono hw)) ?_; rintro e w1 ⟨rfl, hb⟩; refine ⟨_, rfl, ?_⟩; replace hw := grow_trans hw hb; clear hb) | (refine is_cw ?_; first | (refine cw_seq ?_) | (refine cw_region ?_) | (refine cw_true rfl rfl ?_) | (refine cw_ret ?_)) | (refine is_qw ?_; first | (with_reducible refine qw_then ?_) | (with_reducible refine qw_then_ret ?_)) | (refine lw_nil ?_) | (refine is_guarded ?_; first | (refine lw_not rfl rfl rfl rfl ?_) | (refine lw_not_u rfl rfl rfl ?_) | (refine lw_on rfl rfl rfl ?_)) | ((refine is_un ?_; first | (refine lw_pure rfl (pv_not rfl) ?_))) | (refine lw_pure rfl (pv_pick_t rfl rfl rfl) ?_) | (refine lw_pure rfl (pv_pick_f rfl rfl rfl) ?_))
    exact qw_ret2 rfl rfl rfl ⟨refN_nil _ _, grow_trans hw0 hw⟩
  by_cases g3 : e.v = 3
  case neg =>
    repeat' (first | (refine lw_pure rfl (pv_move rfl) ?_) | (refine lw_pure rfl (pv_assign rfl) ?_) | (refine lw_call (f := 8) (by kernel_rfl) rfl rfl (rmayL_e g1 hml (HS.mono hw) hin) ?_; rintro e w1 ⟨rfl, hb⟩; refine ⟨_, rfl, ?_⟩; replace hw := grow_trans hw hb; clear hb) | (refine lw_call (f := 30) (by kernel_rfl) rfl rfl (rmayV_e g2 rfl rfl (HP.mono hw) (HL.mono hw)) ?_; rintro e w1 ⟨rfl, hb⟩; refine ⟨_, rfl, ?_⟩; replace hw := grow_trans hw hb; clear hb) | (refine is_cw ?_; first | (refine cw_seq ?_) | (refine cw_region ?_) | (refine cw_true rfl rfl ?_) | (refine cw_ret ?_)) | (refine is_qw ?_; first | (with_reducible refine qw_then ?_) | (with_reducible refine qw_then_ret ?_)) | (refine lw_nil ?_) | (refine is_guarded ?_; first | (refine lw_not rfl rfl rfl rfl ?_) | (refine lw_not_u rfl rfl rfl ?_) | (refine lw_on rfl rfl rfl ?_) | (refine lw_not rfl rfl rfl (by first | assumption | exact decide_eq_true (by omega) | exact decide_eq_false (by omega) | exact dec_notT (by omega) | exact dec_notF (by omega)) ?_)) | ((refine is_bin ?_; first | (refine lw_pure rfl (pv_neq rfl rfl) ?_))) | ((refine is_load ?_; first | (refine lw_pure rfl (pv_load (t1 rfl) rfl (by first | exact PT.ld0 (H.mono hw) rfl | exact PT.ld (H.mono hw) rfl)) ?_))) | ((refine is_fa ?_; first | (refine lw_pure rfl (pv_fa (tF rfl) rfl) ?_))) | ((refine is_un ?_; first | (refine lw_pure rfl (pv_not rfl) ?_))) | (refine lw_pure rfl (pv_pick_t rfl rfl rfl) ?_) | (refine lw_pure rfl (pv_pick_f rfl rfl rfl) ?_) | (refine lw_pure rfl (pv_pick_t rfl (by first | assumption | exact decide_eq_true (by omega) | exact dec_notT (by omega)) rfl) ?_))
    exact qw_ret2 rfl rfl rfl ⟨refN_nil _ _, grow_trans hw0 hw⟩
  by_cases g4 : mayE e = true
  case neg =>
    replace g4 : mayE e = false := by simpa using g4
    repeat' (first | (refine lw_pure rfl (pv_move rfl) ?_) | (refine lw_pure rfl (pv_assign rfl) ?_) | (refine lw_call (f := 8) (by kernel_rfl) rfl rfl (rmayL_e g1 hml (HS.mono hw) hin) ?_; rintro e w1 ⟨rfl, hb⟩; refine ⟨_, rfl, ?_⟩; replace hw := grow_trans hw hb; clear hb) | (refine lw_call (f := 30) (by kernel_rfl) rfl rfl (rmayV_e g2 rfl rfl (HP.mono hw) (HL.mono hw)) ?_; rintro e w1 ⟨rfl, hb⟩; refine ⟨_, rfl, ?_⟩; replace hw := grow_trans hw hb; clear hb) | (refine lw_call (f := 31) (by kernel_rfl) rfl rfl (rmayE_e g4 rfl rfl (HN.mono hw) (HX.mono hw) hT) ?_; rintro e w1 ⟨rfl, hb⟩; refine ⟨_, rfl, ?_⟩; replace hw := grow_trans hw hb; clear hb) | (refine is_cw ?_; first | (refine cw_seq ?_) | (refine cw_region ?_) | (refine cw_true rfl rfl ?_) | (refine cw_ret ?_)) | (refine is_qw ?_; first | (with_reducible refine qw_then ?_) | (with_reducible refine qw_then_ret ?_)) | (refine lw_nil ?_) | (refine is_guarded ?_; first | (refine lw_not rfl rfl rfl rfl ?_) | (refine lw_not_u rfl rfl rfl ?_) | (refine lw_on rfl rfl rfl ?_) | (refine lw_on rfl rfl (by first | assumption | exact decide_eq_true (by omega) | exact decide_eq_false (by omega) | exact dec_notT (by omega) | exact dec_notF (by omega)) ?_)) | ((refine is_bin ?_; first | (refine lw_pure rfl (pv_neq rfl rfl) ?_))) | ((refine is_load ?_; first | (refine lw_pure rfl (pv_load (t1 rfl) rfl (by first | exact PT.ld0 (H.mono hw) rfl | exact PT.ld (H.mono hw) rfl)) ?_) | (refine lw_pure rfl (pv_loada (tA rfl) rfl (by first | exact PT.lda (H.mono hw)) (by rfl)) ?_))) | ((refine is_fa ?_; first | (refine lw_pure rfl (pv_fa (tF rfl) rfl) ?_))) | ((refine is_un ?_; first | (refine lw_pure rfl (pv_not rfl) ?_))) | (refine lw_pure rfl (pv_pick_t rfl rfl rfl) ?_) | (refine lw_pure rfl (pv_pick_f rfl rfl rfl) ?_) | (refine lw_pure rfl (pv_pick_f rfl (by first | assumption | exact decide_eq_false (by omega) | exact dec_notF (by omega)) rfl) ?_))
    exact qw_ret2 rfl rfl rfl ⟨refN_nil _ _, grow_trans hw0 hw⟩
  by_cases g5 : 0 ≤ seq ∧ seq < 1048576
  case neg =>
    by_cases g7 : seq < 0
    · repeat' (first | (refine lw_pure rfl (pv_move rfl) ?_) | (refine lw_pure rfl (pv_assign rfl) ?_) | (refine lw_call (f := 8) (by kernel_rfl) rfl rfl (rmayL_e g1 hml (HS.mono hw) hin) ?_; rintro e w1 ⟨rfl, hb⟩; refine ⟨_, rfl, ?_⟩; replace hw := grow_trans hw hb; clear hb) | (refine lw_call (f := 30) (by kernel_rfl) rfl rfl (rmayV_e g2 rfl rfl (HP.mono hw) (HL.mono hw)) ?_; rintro e w1 ⟨rfl, hb⟩; refine ⟨_, rfl, ?_⟩; replace hw := grow_trans hw hb; clear hb) | (refine lw_call (f := 31) (by kernel_rfl) rfl rfl (rmayE_e g4 rfl rfl (HN.mono hw) (HX.mono hw) hT) ?_; rintro e w1 ⟨rfl, hb⟩; refine ⟨_, rfl, ?_⟩; replace hw := grow_trans hw hb; clear hb) | (refine is_cw ?_; first | (refine cw_seq ?_) | (refine cw_region ?_) | (refine cw_true rfl rfl ?_) | (refine cw_ret ?_)) | (refine is_qw ?_; first | (with_reducible refine qw_then ?_) | (with_reducible refine qw_then_ret ?_)) | (refine lw_nil ?_) | (refine is_guarded ?_; first | (refine lw_not rfl rfl rfl rfl ?_) | (refine lw_not_u rfl rfl rfl ?_) | (refine lw_on rfl rfl rfl ?_) | (refine lw_on rfl rfl (by first | assumption | exact decide_eq_true (by omega) | exact decide_eq_false (by omega) | exact dec_notT (by omega) | exact dec_notF (by omega)) ?_) | (refine lw_not rfl rfl rfl (by first | assumption | exact decide_eq_true (by omega) | exact decide_eq_false (by omega) | exact dec_notT (by omega) | exact dec_notF (by omega)) ?_)) | ((refine is_bin ?_; first | (refine lw_pure rfl (pv_lss rfl rfl) ?_) | (refine lw_pure rfl (pv_neq rfl rfl) ?_))) | ((refine is_load ?_; first | (refine lw_pure rfl (pv_load (t1 rfl) rfl (by first | exact PT.ld0 (H.mono hw) rfl | exact PT.ld (H.mono hw) rfl)) ?_) | (refine lw_pure rfl (pv_loada (tA rfl) rfl (by first | exact PT.lda (H.mono hw)) (by rfl)) ?_))) | ((refine is_fa ?_; first | (refine lw_pure rfl (pv_fa (tF rfl) rfl) ?_))) | ((refine is_un ?_; first | (refine lw_pure rfl (pv_not rfl) ?_))) | (refine lw_pure rfl (pv_pick_t rfl rfl rfl) ?_) | (refine lw_pure rfl (pv_pick_f rfl rfl rfl) ?_) | (refine lw_pure rfl (pv_pick_t rfl (by first | assumption | exact decide_eq_true (by omega) | exact dec_notT (by omega)) rfl) ?_) | (refine lw_pure rfl (pv_pick_f rfl (by first | assumption | exact decide_eq_false (by omega) | exact dec_notF (by omega)) rfl) ?_))
      exact qw_ret2 rfl rfl rfl ⟨refN_nil _ _, grow_trans hw0 hw⟩
    · repeat' (first | (refine lw_pure rfl (pv_move rfl) ?_) | (refine lw_pure rfl (pv_assign rfl) ?_) | (refine lw_call (f := 8) (by kernel_rfl) rfl rfl (rmayL_e g1 hml (HS.mono hw) hin) ?_; rintro e w1 ⟨rfl, hb⟩; refine ⟨_, rfl, ?_⟩; replace hw := grow_trans hw hb; clear hb) | (refine lw_call (f := 30) (by kernel_rfl) rfl rfl (rmayV_e g2 rfl rfl (HP.mono hw) (HL.mono hw)) ?_; rintro e w1 ⟨rfl, hb⟩; refine ⟨_, rfl, ?_⟩; replace hw := grow_trans hw hb; clear hb) | (refine lw_call (f := 31) (by kernel_rfl) rfl rfl (rmayE_e g4 rfl rfl (HN.mono hw) (HX.mono hw) hT) ?_; rintro e w1 ⟨rfl, hb⟩; refine ⟨_, rfl, ?_⟩; replace hw := grow_trans hw hb; clear hb) | (refine is_cw ?_; first | (refine cw_seq ?_) | (refine cw_region ?_) | (refine cw_true rfl rfl ?_) | (refine cw_ret ?_)) | (refine is_qw ?_; first | (with_reducible refine qw_then ?_) | (with_reducible refine qw_then_ret ?_)) | (refine lw_nil ?_) | (refine is_guarded ?_; first | (refine lw_not_u rfl rfl rfl ?_) | (refine lw_on rfl rfl rfl ?_) | (refine lw_on rfl rfl (by first | assumption | exact decide_eq_true (by omega) | exact decide_eq_false (by omega) | exact dec_notT (by omega) | exact dec_notF (by omega)) ?_) | (refine lw_not rfl rfl rfl (by first | assumption | exact decide_eq_true (by omega) | exact decide_eq_false (by omega) | exact dec_notT (by omega) | exact dec_notF (by omega)) ?_)) | ((refine is_bin ?_; first | (refine lw_pure rfl (pv_lss rfl rfl) ?_) | (refine lw_pure rfl (pv_neq rfl rfl) ?_) | (refine lw_pure rfl (pv_geq rfl rfl) ?_))) | ((refine is_load ?_; first | (refine lw_pure rfl (pv_load (t1 rfl) rfl (by first | exact PT.ld0 (H.mono hw) rfl | exact PT.ld (H.mono hw) rfl)) ?_) | (refine lw_pure rfl (pv_loada (tA rfl) rfl (by first | exact PT.lda (H.mono hw)) (by rfl)) ?_))) | ((refine is_fa ?_; first | (refine lw_pure rfl (pv_fa (tF rfl) rfl) ?_))) | ((refine is_un ?_; first | (refine lw_pure rfl (pv_not rfl) ?_))) | (refine lw_pure rfl (pv_pick_f rfl rfl rfl) ?_) | (refine lw_pure rfl (pv_pick_t rfl (by first | assumption | exact decide_eq_true (by omega) | exact dec_notT (by omega)) rfl) ?_) | (refine lw_pure rfl (pv_pick_f rfl (by first | assumption | exact decide_eq_false (by omega) | exact dec_notF (by omega)) rfl) ?_))
      exact qw_ret2 rfl rfl rfl ⟨refN_nil _ _, grow_trans hw0 hw⟩
  have g6 : ¬ seqL l ≤ seq := fun h => hbad ⟨g1, g2, g3, g4, g5, h⟩
  have h0 : l.length ≠ 0 := fun h0 => by rw [seq_nilR h0] at g6; omega
  obtain ⟨j, hj⟩ : ∃ j, l.length = j + 1 := ⟨l.length - 1, by omega⟩
  have hxj : l[j]? = some (l[j]'(by omega)) := List.getElem?_eq_getElem (by omega)
  generalize l[j]'(by omega) = x at hxj
  have hsq := seq_lastR hj hxj
  obtain ⟨lb, lo, rfl, -, -⟩ := HS.at (by intro h; rw [h] at hj; simp at hj)
  have hjj : (((j + 1 : Nat) : Int) - 1).toNat = j := by omega
  have hld : ∀ w' : World, Below wE.heap.size wE w' → w'.cell? ⟨lb, lo + (((j + 1 : Nat) : Int) - 1).toNat * 5 + 1, none⟩ = some (.int .i64 x.seq) := fun w' h => by rw [hjj]; exact (HS.mono h).ld hxj rfl
  obtain rfl : ml = j + 1 := by omega
  rw [hsq] at g6
  repeat' (first | (refine lw_pure rfl (pv_move rfl) ?_) | (refine lw_pure rfl (pv_assign rfl) ?_) | (refine lw_call (f := 8) (by kernel_rfl) rfl rfl (rmayL_e g1 hml (HS.mono hw) hin) ?_; rintro e w1 ⟨rfl, hb⟩; refine ⟨_, rfl, ?_⟩; replace hw := grow_trans hw hb; clear hb) | (refine lw_call (f := 30) (by kernel_rfl) rfl rfl (rmayV_e g2 rfl rfl (HP.mono hw) (HL.mono hw)) ?_; rintro e w1 ⟨rfl, hb⟩; refine ⟨_, rfl, ?_⟩; replace hw := grow_trans hw hb; clear hb) | (refine lw_call (f := 31) (by kernel_rfl) rfl rfl (rmayE_e g4 rfl rfl (HN.mono hw) (HX.mono hw) hT) ?_; rintro e w1 ⟨rfl, hb⟩; refine ⟨_, rfl, ?_⟩; replace hw := grow_trans hw hb; clear hb) | (refine is_cw ?_; first | (refine cw_seq ?_) | (refine cw_region ?_) | (refine cw_true rfl (by first | assumption | exact decide_eq_true (by omega) | exact dec_notT (by omega)) ?_) | (refine cw_ret ?_)) | (refine is_qw ?_; first | (with_reducible refine qw_then ?_) | (with_reducible refine qw_then_ret ?_)) | (refine lw_nil ?_) | (refine is_guarded ?_; first | (refine lw_on rfl rfl rfl ?_) | (refine lw_on rfl rfl (by first | assumption | exact decide_eq_true (by omega) | exact decide_eq_false (by omega) | exact dec_notT (by omega) | exact dec_notF (by omega)) ?_)) | ((refine is_bin ?_; first | (refine lw_pure rfl (pv_lss rfl rfl) ?_) | (refine lw_pure rfl (pv_neq rfl rfl) ?_) | (refine lw_pure rfl (pv_gtr rfl rfl) ?_) | (refine lw_pure rfl (pv_geq rfl rfl) ?_) | (refine lw_pure rfl (pv_sub rfl rfl (by omega)) ?_))) | ((refine is_load ?_; first | (refine lw_pure rfl (pv_load (t1 rfl) rfl (hld _ hw)) ?_) | (refine lw_pure rfl (pv_load (t1 rfl) rfl (by first | exact PT.ld0 (H.mono hw) rfl | exact PT.ld (H.mono hw) rfl)) ?_) | (refine lw_pure rfl (pv_loada (tA rfl) rfl (by first | exact PT.lda (H.mono hw)) (by rfl)) ?_))) | ((refine is_fa ?_; first | (refine lw_pure rfl (pv_fa (tF rfl) rfl) ?_))) | ((refine is_ia ?_; first | (refine lw_pure rfl (pv_ia (tS rfl) rfl rfl (by omega)) ?_))) | ((refine is_un ?_; first | (refine lw_pure rfl (pv_not rfl) ?_))) | ((refine is_bi ?_; first | (refine lw_pure rfl (pv_lenl (tS rfl) rfl) ?_))) | (refine lw_pure rfl (pv_pick_f rfl rfl rfl) ?_) | (refine lw_pure rfl (pv_pick_t rfl (by first | assumption | exact decide_eq_true (by omega) | exact dec_notT (by omega)) rfl) ?_) | (refine lw_pure rfl (pv_pick_f rfl (by first | assumption | exact decide_eq_false (by omega) | exact dec_notF (by omega)) rfl) ?_))
  exact qw_ret2 rfl rfl rfl ⟨refN_nil _ _, grow_trans hw0 hw⟩
theorem rstmt_c {l : List Ln} {p : List Opn} {t : List Lt} {e : Evt} {seq : Int} {ml mp mt mn mx : Nat} {al ap at_ an ax : Option Addr} {cl cp ct cn cx : Nat} {w : World} (hml : l.length = ml) (hmp : p.length = mp) (hmt : t.length = mt) (hmn : e.nums.length = mn) (hmx : e.texts.length = mx) (HS : SlR encN 5 w al cl l) (hin : In64N l) (hll : l.length ≤ 524288) (HP : SlR encP 6 w ap cp p) (HL : SlR encL 4 w at_ ct t) (HN : SlR encI 1 w an cn e.nums) (HX : SlR encT 1 w ax cx e.texts) (hT : TxtIn e.texts) : Calls Tryz.prog 10 #[.slice al ml cl, .slice ap mp cp, .slice at_ mt ct, .int .i64 seq, .agg #[.int .u8 e.v, .int .u8 e.kind, .slice an mn cn, .slice ax mx cx]] w fun e1 w' => RefN w' e1 (stmtL l p t seq e) ∧ Below w.heap.size w w' := by
  by_cases hb : mayLn l = true ∧ mayV p t = true ∧ e.v = 3 ∧ mayE e = true ∧ (0 ≤ seq ∧ seq < 1048576) ∧ seqL l ≤ seq
  case neg =>
    have hf : formL l p t seq e = false := by
      rw [Bool.eq_false_iff]
      intro hf
      unfold formL at hf
      simp only [Bool.and_eq_true, decide_eq_true_eq] at hf
      exact hb ⟨hf.1.1.1.1.1, hf.1.1.1.1.2, hf.1.1.1.2, hf.1.1.2, hf.1.2, hf.2⟩
    have hR : stmtL l p t seq e = (4, []) := by unfold stmtL; rw [if_pos hf]
    rw [hR]
    exact rstX_c hml hmp hmt hmn hmx HS hin hll HP HL HN HX hT hb
  obtain ⟨g1, g2, g3, g4, g5, g6⟩ := hb
  have hf : ¬ formL l p t seq e = false := by
    have : formL l p t seq e = true := by
      unfold formL
      simp only [Bool.and_eq_true, decide_eq_true_eq]
      exact ⟨⟨⟨⟨⟨g1, g2⟩, g3⟩, g4⟩, g5⟩, g6⟩
    rw [this]; simp
  have hR : stmtL l p t seq e = finR seq e.kind l (rowsL p t e) := by unfold stmtL; rw [if_neg hf]; rfl
  rw [hR]
  clear hR hf
  by_cases k6 : e.kind = 6
  · rw [show rowsL p t e = (0, [(nthI e 0, nthI e 1)]) from by unfold rowsL; rw [if_pos k6], finR_0]; exact rst6_c hml hmp hmt hmn hmx HS hin hll HP HL HN HX hT g1 g2 g3 g4 g5 g6 k6
  by_cases k7 : e.kind = 7
  · rw [show rowsL p t e = (0, [(nthI e 0, -nthI e 1)]) from by unfold rowsL; rw [if_neg k6, if_pos k7], finR_0]; exact rst7_c hml hmp hmt hmn hmx HS hin hll HP HL HN HX hT g1 g2 g3 g4 g5 g6 k7
  by_cases k21 : e.kind = 21
  · rw [show rowsL p t e = (0, [(nthI e 0, -nthI e 2), (nthI e 1, nthI e 2)]) from by unfold rowsL; rw [if_neg k6, if_neg k7, if_pos k21], finR_0]; exact rst21_c hml hmp hmt hmn hmx HS hin hll HP HL HN HX hT g1 g2 g3 g4 g5 g6 k21
  by_cases k13 : e.kind = 13
  · have h := rst13_c hml hmp hmt hmn hmx HS hin hll HP HL HN HX hT g1 g2 g3 g4 g5 g6 k13
    have hrow : rowsL p t e = match findP p (nthI e 0), findP p (nthI e 1) with
      | some a, some b => if a.side = b.side then (1, []) else if a.side = 2 then (0, [(b.acct, -(nthI e 2 * nthI e 3)), (a.acct, nthI e 2 * nthI e 3 - nthI e 4)]) else (0, [(a.acct, -(nthI e 2 * nthI e 3)), (b.acct, nthI e 2 * nthI e 3 - nthI e 4)])
      | _, _ => (5, []) := by unfold rowsL; rw [if_neg k6, if_neg k7, if_neg k21, if_pos k13]; rfl
    rw [hrow]
    clear hrow
    cases hf : findP p (nthI e 0) with
    | none => rw [hf] at h; rw [finR_n (by decide)]; exact h
    | some a =>
      cases hg : findP p (nthI e 1) with
      | none => rw [hf, hg] at h; rw [finR_n (by decide)]; exact h
      | some b =>
        rw [hf, hg] at h
        dsimp only at h ⊢
        by_cases hs : a.side = b.side
        · rw [if_pos hs] at h ⊢; rw [finR_n (by decide)]; exact h
        · rw [if_neg hs] at h ⊢
          by_cases h2 : a.side = 2
          · rw [if_pos h2] at h ⊢; rw [finR_0]; exact h
          · rw [if_neg h2] at h ⊢; rw [finR_0]; exact h
  by_cases k18 : e.kind = 18
  · have h := rst18_c hml hmp hmt hmn hmx HS hin hll HP HL HN HX hT g1 g2 g3 g4 g5 g6 k18
    have hrow : rowsL p t e = match lotP t (nthI e 0) with
      | some x => (0, [(nthI e 1, -nthI e 2), (x.seller, nthI e 2 - nthI e 3)])
      | none => (5, []) := by unfold rowsL; rw [if_neg k6, if_neg k7, if_neg k21, if_neg k13, if_pos k18]; rfl
    rw [hrow]
    clear hrow
    cases hf : lotP t (nthI e 0) with
    | none => rw [hf] at h; rw [finR_n (by decide)]; exact h
    | some x => rw [hf] at h; rw [finR_0]; exact h
  rw [show rowsL p t e = (0, []) from by unfold rowsL; rw [if_neg k6, if_neg k7, if_neg k21, if_neg k13, if_neg k18], finR_0]
  exact rstN_c hml hmp hmt hmn hmx HS hin hll HP HL HN HX hT g1 g2 g3 g4 g5 g6 k6 k7 k21 k13 k18

theorem pv_bneqs {P : Program} {n : Nat} {l : Fr} {w : World} {d : Option Nat} {t t' ty : TypeId} {x y : Operand} {pos : String} {af : Array Edge} {g : Option (Nat × Bool)} {c : Bool} (ht : isT P t (fun x => x matches .bool) = true) (hx : ev l x = some (.bool c)) (hy : ev l y = some (.bool c)) : Pv P n l ⟨d, .binOp .neq t x y t', ty, pos, af, g⟩ (.bool false) w := by
  have := pv_bneq (n := n) (w := w) (d := d) (t' := t') (ty := ty) (pos := pos) (af := af) (g := g) ht hx hy
  simpa using this
theorem Own.blockN {base : Nat} {w : World} {ad : Option Addr} {n cap : Nat} {xs : List Ln} (h : Own encN 5 37 base w (.slice ad n cap) xs) (hne : 0 < n) : ∃ g, ad = some ⟨g, 0, none⟩ ∧ base ≤ g := by
  obtain ⟨a, c, hv, HS, hbase⟩ := Own.slR encN_len h
  injection hv with h1 h2 h3
  subst h1 h3
  cases ad with
  | none => have := (HS.ofNone rfl).1; subst this; simp at h2; omega
  | some a =>
    obtain ⟨b, o, sp⟩ := a
    obtain ⟨h1, _⟩ := HS.ofSome _ rfl (by have := HS.le; omega)
    have h2 := (hbase _ rfl)
    simp only at h1 h2
    exact ⟨b, by rw [h1, h2.2], h2.1⟩
set_option maxRecDepth 20000 in
set_option maxHeartbeats 8000000 in
theorem tellsL_c {l : List Ln} {p : List Opn} {t : List Lt} {x : EvC} {e : Evt} {seq : Int} {al a b : Option Addr} {ml m n cl ca cb : Nat} {w : World} (hml : l.length = ml) (hm : p.length = m) (hn : t.length = n) (HS : SlR encN 5 w al cl l) (hin : In64N l) (HP : SlR encP 6 w a ca p) (HL : SlR encL 4 w b cb t) (HR : EvR w x e) (hK : KnW w) : Calls Tryz.prog 3 #[.slice al ml cl, .slice a m ca, .slice b n cb, .int .i64 seq, .agg (encV x).toArray] w fun e1 w' => e1 = .returned (.bool true) ∧ Below w.heap.size w w' := by
  subst hml hm hn
  have hcl := HS.le
  have hclm := HS.max
  have hcp := HP.le
  have hcpm := HP.max
  have hct := HL.le
  have hctm := HL.max
  have hw := Below.refl w.heap.size w
  have hW := hw
  refine fn_enter 80 Tryz.func3 rfl rfl rfl ?_
  repeat' (first | (refine is_cw ?_; first | (refine cw_seq ?_) | (refine cw_region ?_)))
  refine lw_boxN rfl rfl (cs := encV x) rfl ?_; intro NE w1 hNE H hb
  replace hW := grow_trans hW hb; replace HS := HS.mono hb; replace HP := HP.mono hb; replace HL := HL.mono hb; replace HR := HR.mono hb; replace hK := hK.mono hb; clear hw hb; have hw := Below.refl w1.heap.size w1
  repeat' (first | (refine lw_pure rfl (pv_move rfl) ?_) | (refine lw_pure rfl (pv_assign rfl) ?_) | (refine is_cw ?_; first | (refine cw_seq ?_) | (refine cw_region ?_)) | (refine is_qw ?_; first | (with_reducible refine qw_then ?_)) | (refine lw_nil ?_) | ((refine is_load ?_; first | (refine lw_pure rfl (pv_loada (tA rfl) rfl (by first | exact PT.lda (H.mono hw)) (by rfl)) ?_))))
  refine lw_bsN (vs := [.agg (encV x).toArray]) (cs := encV x) elemV rfl rfl rfl (by omega) (by omega) rfl (by simp [Value.cells]) ?_; intro B4 w2 _ HX hb
  have hs := grow_trans hw hb; replace hW := grow_trans hW hs; replace HS := HS.mono hs; replace HP := HP.mono hs; replace HL := HL.mono hs; replace HR := HR.mono hs; replace hK := hK.mono hs; replace H := H.mono hs; clear hw hb hs; have hw := Below.refl w2.heap.size w2
  skip
  refine lw_call (f := 5) (by kernel_rfl) rfl rfl (heavyL_c (by omega) (by omega) (by omega) rfl ((HX.slR (xs := [x]) encV_len rfl (by simp)).mono hw)) ?_; rintro e1 w3 ⟨⟨r, rfl, hr⟩, hb⟩; refine ⟨_, rfl, ?_⟩
  have hs := grow_trans hw hb; replace hW := grow_trans hW hs; replace HS := HS.mono hs; replace HP := HP.mono hs; replace HL := HL.mono hs; replace HR := HR.mono hs; replace hK := hK.mono hs; replace H := H.mono hs; clear hw hb hs; have hw := Below.refl w3.heap.size w3
  clear HX
  cases r with
  | true =>
    repeat' (first | (refine is_cw ?_; first | (refine cw_seq ?_) | (refine cw_region ?_) | (refine cw_true rfl rfl ?_)) | (refine is_qw ?_; first | (with_reducible refine qw_then ?_)) | (refine lw_nil ?_))
    refine lw_call (f := 6) (by kernel_rfl) rfl rfl (worksL_c (hK.mono hw)) ?_; rintro e1 w4 ⟨rfl, hb⟩; refine ⟨_, rfl, ?_⟩
    repeat' (first | (refine lw_pure rfl (pv_assign rfl) ?_) | (refine is_cw ?_; first | (refine cw_ret ?_)) | (refine is_qw ?_; first | (with_reducible refine qw_then ?_) | (with_reducible refine qw_then_ret ?_)) | (refine lw_nil ?_))
    exact qw_ret1 rfl rfl ⟨rfl, grow_trans hW (grow_trans hw hb)⟩
  | false =>
    obtain ⟨hl300, hp150, ht50, -, -⟩ := hr rfl
    clear hr
    have hll : l.length ≤ 524288 := by omega
    repeat' (first | (refine is_cw ?_; first | (refine cw_seq ?_) | (refine cw_region ?_) | (refine cw_false rfl rfl ?_) | (refine cw_skip ?_)) | (refine is_qw ?_; first | (with_reducible refine qw_then ?_)) | (refine lw_nil ?_))
    refine lw_bs0 (enc := encN) elemLn rfl ?_; intro u1 HO hb hz
    have hT := grow_trans hw hb
    clear hz hw hb
    have hw := Below.refl u1.heap.size u1
    repeat' (first | (refine lw_pure rfl (pv_move rfl) ?_))
    refine lw_app elemLn encN_len encN_one rfl rfl rfl (HO.mono hw) (HS.mono (grow_trans hT hw)) rfl (grow_trans hT hw).size (by simp; omega) (by simp [maxLen]; omega) ?_; intro v1 u2 HO2 hg hb9
    have hb := (grow_trans hT hw).trans hb9
    clear HO hg hb9 hw hT
    rw [List.nil_append] at HO2
    replace hW := grow_trans hW hb; replace HS := HS.mono hb; replace HP := HP.mono hb; replace HL := HL.mono hb; replace HR := HR.mono hb; replace hK := hK.mono hb; replace H := H.mono hb; clear hb; have hw := Below.refl u2.heap.size u2
    obtain ⟨L1a, L1c, rfl, L1, -⟩ := Own.slR encN_len HO2
    clear HO2
    repeat' (first | (refine lw_pure rfl (pv_move rfl) ?_) | (refine lw_pure rfl (pv_assign rfl) ?_) | (refine lw_pure rfl (pv_bneqs (tBo rfl) rfl rfl) ?_) | (refine lw_call (f := 7) (by kernel_rfl) rfl rfl (mayL_c rfl (L1.mono hw) hin) ?_; rintro e w1 ⟨rfl, hb⟩; refine ⟨_, rfl, ?_⟩; replace hw := grow_trans hw hb; clear hb) | (refine lw_call (f := 8) (by kernel_rfl) rfl rfl (rmayL_c rfl (HS.mono hw) hin) ?_; rintro e w1 ⟨rfl, hb⟩; refine ⟨_, rfl, ?_⟩; replace hw := grow_trans hw hb; clear hb) | (refine is_cw ?_; first | (refine cw_seq ?_) | (refine cw_region ?_) | (refine cw_false rfl rfl ?_) | (refine cw_skip ?_) | (refine cw_block ?_)) | (refine is_qw ?_; first | (with_reducible refine qw_then ?_)) | (refine lw_nil ?_))
    refine cw_loop (σ := Nat) (fun i => [(0, .slice al l.length cl), (1, .slice a p.length ca), (2, .slice b t.length cb), (3, .int .i64 seq), (9, .pointer (some ⟨NE, 0, none⟩)), (11, .slice L1a l.length L1c), (12, .int .i64 (i : Nat))]) (fun i wr => i ≤ 2 ∧ Below u2.heap.size u2 wr) (fun i => 2 - i) 0 (by repeat' (first | exact trivial | refine ⟨rfl, ?_⟩)) ⟨by omega, hw⟩ ?_
    clear hw
    rintro i wr ⟨hi, hw⟩
    by_cases hlt : i < 2
    · obtain ⟨xv, xk, xan, xmn, xcn, xax, xmx, xcx⟩ := x
      obtain ⟨r1, r2, r3, r4, r5, r6, r7, r8⟩ := HR
      simp only at r1 r2 r3 r4 r5 r6
      subst r1 r2 r3 r4
      obtain ⟨Rs, hR⟩ : ∃ Rs, stmtL l p t seq e = Rs := ⟨_, rfl⟩
      repeat' (first | (refine lw_pure rfl (pv_move rfl) ?_) | (refine is_cw ?_; first | (refine cw_seq ?_) | (refine cw_region ?_) | (refine cw_true rfl (by first | assumption | exact decide_eq_true (by omega) | exact dec_notT (by omega)) ?_) | (refine cw_skip ?_) | (refine cw_block ?_)) | (refine is_qw ?_; first | (with_reducible refine qw_then ?_)) | (refine lw_nil ?_) | ((refine is_bin ?_; first | (refine lw_pure rfl (pv_lss rfl rfl) ?_))) | ((refine is_load ?_; first | (refine lw_pure rfl (pv_loada (tA rfl) rfl (by first | exact PT.lda (H.mono hw)) (by rfl)) ?_))))
      refine lw_call (f := 9) (by kernel_rfl) rfl rfl (R.stmt_c r7 rfl rfl rfl rfl rfl (L1.mono hw) hin hll (HP.mono hw) (HL.mono hw) (r5.mono hw) (r6.mono hw) r8 (hK.mono hw)) ?_; rintro e1 w6 ⟨⟨vo, rfl, HO⟩, hb⟩; refine ⟨_, rfl, ?_⟩
      rw [hR] at HO ⊢
      replace HO := HO.weaken hw.size
      replace hw := grow_trans hw hb
      clear hb
      obtain ⟨oa, oc, rfl, -, -⟩ := Own.slR encN_len HO
      repeat' (first | (refine lw_pure rfl (pv_move rfl) ?_) | (refine lw_pure rfl (pv_assign rfl) ?_) | (refine is_cw ?_; first | (refine cw_seq ?_) | (refine cw_region ?_)) | (refine is_qw ?_; first | (with_reducible refine qw_then ?_)) | (refine lw_nil ?_) | ((refine is_load ?_; first | (refine lw_pure rfl (pv_loada (tA rfl) rfl (by first | exact PT.lda (H.mono hw)) (by rfl)) ?_))) | (refine lw_pure rfl (pv_extract rfl rfl) ?_))
      refine lw_call (f := 10) (by kernel_rfl) rfl rfl (rstmt_c rfl rfl rfl rfl rfl (HS.mono hw) hin hll (HP.mono hw) (HL.mono hw) (r5.mono hw) (r6.mono hw) r8) ?_; rintro e1 w7 ⟨⟨a2, c2, rfl, HQ⟩, hb⟩; refine ⟨_, rfl, ?_⟩
      rw [hR] at HQ ⊢
      replace HO := HO.mono hb
      have hB := grow_trans hw hb
      clear hb hw
      obtain ⟨oa2, oc2, hov, HOs, -⟩ := Own.slR encN_len HO
      injection hov with e1 _ e3; subst e1 e3
      have hw := Below.refl w7.heap.size w7
      repeat' (first | (refine lw_pure rfl (pv_move rfl) ?_) | (refine lw_pure rfl (pv_assign rfl) ?_) | (refine lw_call (f := 11) (by kernel_rfl) rfl rfl (rsameN_t rfl rfl (HOs.mono hw) (HQ.mono hw)) ?_; rintro e w1 ⟨rfl, hb⟩; refine ⟨_, rfl, ?_⟩; replace hw := grow_trans hw hb; clear hb) | (refine is_cw ?_; first | (refine cw_seq ?_) | (refine cw_region ?_) | (refine cw_false rfl rfl ?_) | (refine cw_skip ?_) | (refine cw_block ?_)) | (refine is_qw ?_; first | (with_reducible refine qw_then ?_)) | (refine lw_nil ?_) | (refine is_guarded ?_; first | (refine lw_on rfl rfl (by first | assumption | exact decide_eq_true (by omega) | exact decide_eq_false (by omega) | exact dec_notT (by omega) | exact dec_notF (by omega)) ?_)) | ((refine is_bin ?_; first | (refine lw_pure rfl (pv_neq rfl rfl) ?_))) | ((refine is_un ?_; first | (refine lw_pure rfl (pv_not rfl) ?_))) | (refine lw_pure rfl (pv_pick_f rfl (by first | assumption | exact decide_eq_false (by omega) | exact dec_notF (by omega)) rfl) ?_) | (refine lw_pure rfl (pv_extract rfl rfl) ?_))
      replace HO := HO.mono hw
      replace hB := grow_trans hB hw
      have h1m := HOs.max
      have h1l := HOs.le
      clear hw HOs HQ
      have hw := hB
      clear hB
      refine cw_loop (σ := Nat × List Ln) (fun s => [(0, .slice al l.length cl), (1, .slice a p.length ca), (2, .slice b t.length cb), (3, .int .i64 seq), (9, .pointer (some ⟨NE, 0, none⟩)), (11, .slice L1a l.length L1c), (12, .int .i64 (i : Nat)), (13, .slice oa Rs.2.length oc), (17, .int .i64 (s.1 : Nat))]) (fun s wr => s.1 ≤ Rs.2.length ∧ Below u2.heap.size u2 wr ∧ s.2.length = Rs.2.length ∧ Own encN 5 37 u2.heap.size wr (.slice oa Rs.2.length oc) s.2) (fun s => Rs.2.length - s.1) (0, Rs.2) (by repeat' (first | exact trivial | refine ⟨rfl, ?_⟩)) ⟨Nat.zero_le _, hw, rfl, HO⟩ ?_
      clear hw HO
      rintro ⟨k, zs⟩ wq ⟨hk, hw, hz, hO⟩
      dsimp only at hk hz hO
      change CW _ _ _ _ [(0, .slice al l.length cl), (1, .slice a p.length ca), (2, .slice b t.length cb), (3, .int .i64 seq), (9, .pointer (some ⟨NE, 0, none⟩)), (11, .slice L1a l.length L1c), (12, .int .i64 (i : Nat)), (13, .slice oa Rs.2.length oc), (17, .int .i64 (k : Nat))] wq
      by_cases hlt2 : k < Rs.2.length
      · obtain ⟨g, rfl, hgb⟩ := Own.blockN hO (by omega)
        rw [← hz] at hO
        repeat' (first | (refine lw_pure rfl (pv_move rfl) ?_) | (refine is_cw ?_; first | (refine cw_seq ?_) | (refine cw_region ?_) | (refine cw_true rfl (by first | assumption | exact decide_eq_true (by omega) | exact dec_notT (by omega)) ?_) | (refine cw_skip ?_) | (refine cw_block ?_)) | (refine is_qw ?_; first | (with_reducible refine qw_then ?_)) | (refine lw_nil ?_) | ((refine is_bin ?_; first | (refine lw_pure rfl (pv_lss rfl rfl) ?_))) | ((refine is_ia ?_; first | (refine lw_pure rfl (pv_ian (tS rfl) rfl rfl (by omega)) ?_))) | ((refine is_bi ?_; first | (refine lw_pure rfl (pv_lenl (tS rfl) rfl) ?_))) | ((refine is_bd ?_; first | (refine lw_pure rfl (tyB_37 rfl rfl rfl) ?_))))
        refine lw_storeO (i := k) (u := ⟨-7, 0, 0, 0, 0⟩) (tZ rfl) encN_len encN_one rfl (by omega) rfl rfl hO (by omega) ?_; intro w8 hO3 hg3 hz3
        rw [hz] at hO3
        replace hw := hw.grown hg3 hw.size (by intro q hq; injection hq with hq; omega)
        repeat' (first | (refine lw_pure rfl (pv_move rfl) ?_) | (refine lw_pure rfl (pv_assign rfl) ?_) | (refine is_cw ?_; first | (refine cw_region ?_)) | (refine is_qw ?_; first | (with_reducible refine qw_then ?_) | (with_reducible refine qw_in ?_)) | (refine lw_nil ?_) | ((refine is_bin ?_; first | (refine lw_pure rfl (pv_inc rfl rfl (by omega)) ?_))))
        exact qw_round (k + 1, zs.set k ⟨-7, 0, 0, 0, 0⟩) (by repeat' (first | exact trivial | refine ⟨rfl, ?_⟩)) ⟨by show k + 1 ≤ _; omega, hw, by rw [List.length_set]; exact hz, hO3⟩ (by show Rs.2.length - (k + 1) < Rs.2.length - k; omega)
      · repeat' (first | (refine lw_pure rfl (pv_move rfl) ?_) | (refine lw_pure rfl (pv_assign rfl) ?_) | (refine is_cw ?_; first | (refine cw_seq ?_) | (refine cw_region ?_) | (refine cw_false rfl (by first | assumption | exact decide_eq_false (by omega) | exact dec_notF (by omega)) ?_) | (refine cw_exit ?_)) | (refine is_qw ?_; first | (with_reducible refine qw_then ?_) | (with_reducible refine qw_in ?_) | (with_reducible refine qw_in_hit ?_) | (with_reducible refine qw_then_exit ?_)) | (refine lw_nil ?_) | ((refine is_bin ?_; first | (refine lw_pure rfl (pv_lss rfl rfl) ?_) | (refine lw_pure rfl (pv_inc rfl rfl (by omega)) ?_))) | ((refine is_bi ?_; first | (refine lw_pure rfl (pv_lenl (tS rfl) rfl) ?_))))
        exact qw_round (i + 1) (by repeat' (first | exact trivial | refine ⟨rfl, ?_⟩)) ⟨by omega, hw⟩ (by omega)
    · have hi2 : i = 2 := by omega
      subst hi2
      repeat' (first | (refine lw_pure rfl (pv_move rfl) ?_) | (refine lw_pure rfl (pv_assign rfl) ?_) | (refine lw_call (f := 11) (by kernel_rfl) rfl rfl (rsameN_t rfl rfl (L1.mono hw) (HS.mono hw)) ?_; rintro e w1 ⟨rfl, hb⟩; refine ⟨_, rfl, ?_⟩; replace hw := grow_trans hw hb; clear hb) | (refine lw_call (f := 6) (by kernel_rfl) rfl rfl (worksL_c (hK.mono hw)) ?_; rintro e w1 ⟨rfl, hb⟩; refine ⟨_, rfl, ?_⟩; replace hw := grow_trans hw hb; clear hb) | (refine is_cw ?_; first | (refine cw_seq ?_) | (refine cw_region ?_) | (refine cw_false rfl rfl ?_) | (refine cw_exit ?_) | (refine cw_ret ?_)) | (refine is_qw ?_; first | (with_reducible refine qw_then ?_) | (with_reducible refine qw_in_hit ?_) | (with_reducible refine qw_then_exit ?_)) | (refine lw_nil ?_) | (refine is_guarded ?_; first | (refine lw_on rfl rfl rfl ?_)) | ((refine is_bin ?_; first | (refine lw_pure rfl (pv_lss rfl rfl) ?_))) | (refine lw_pure rfl (pv_pick_t rfl rfl rfl) ?_))
      exact qw_ret1 rfl rfl ⟨rfl, grow_trans hW hw⟩
end Go.Proofs.YtnffmbfdfhokeaaGreatDoor
namespace Go.Proofs.YtnffmbfdfhokeaaGreatDoor
open Go.ChangeShapes Go.WideShapes Go.ChangeAt Go.RowKit

set_option maxRecDepth 100000 in
theorem stmtTells_lifted (os : Os) (started : os.Started) (H : Type) (enc : TypeId × Value → H) :
    ReturnsInHanded {} Tryz.checked os 3 .any (fun w args => (Rows.stmtTellsSpec.pre enc Tryz.prog Tryz.f3 [] false w args ∧ laidMetH Tryz.prog Rows.stmtTellsRow.laid w) ∧ sizedMet enc Tryz.prog Tryz.f3 (OpenSpec.ofChange Rows.stmtTellsSpec) false w args)
      (Rows.stmtTellsSpec.post enc Tryz.prog Tryz.f3 false true false false) := by
  refine returnsInHanded_of_change_and (C := Tryz.checked) (X := fun w _ => laidMetH Tryz.prog Rows.stmtTellsRow.laid w) (fun _ _ _ hh h => h.of_heap hh) seatOwn started (by kernel_rfl) Tryz.func3
    (ChangeSpec.witness_shaped (enc := enc) (C := Tryz.checked) (os := os) (X := fun w _ => laidMetH Tryz.prog Rows.stmtTellsRow.laid w) false (World.doorLaid Tryz.prog 200 os) #[.slice none 0 0, .slice none 0 0, .slice none 0 0, .int .i64 0, .agg #[.int .u8 0, .int .u8 0, .slice none 0 0, .slice none 0 0]] 8 rfl (World.shaped_of_RefB (by kernel_rfl) (by kernel_rfl)) (by kernel_rfl) (by kernel_rfl) (by kernel_rfl) (door_met os _)) ?_
  intro W base args ds gs before hval0 hW _ hZ hL _
  have hval : ∀ (j : Nat) t v, Tryz.f3.params[j]? = some t → args[j]? = some v → Value.okWide Tryz.prog W .any base t v := hval0
  have hW' := hW
  obtain ⟨p, q, hA0, hV, hpq, hfz, hnd⟩ := hW
  have hA : DataW.TrodAll enc Tryz.prog W 0 (fun _ => true) true Tryz.f3.params.toList args.toList ds p := hA0
  rw [Tryz.params3] at hA hval
  obtain ⟨args⟩ := args
  have hA1 : DataW.TrodAll enc Tryz.prog W 0 (fun _ => true) true _ args ds p := hA
  clear hA
  obtain ⟨v0, vs0, d0, ds0, p0, q0, hv0, hd0, hp0, h0, hr0⟩ := trodAll_cons hA1
  obtain ⟨v1, vs1, d1, ds1, p1, q1, hv1, hd1, hp1, h1, hr1⟩ := trodAll_cons hr0
  obtain ⟨v2, vs2, d2, ds2, p2, q2, hv2, hd2, hp2, h2, hr2⟩ := trodAll_cons hr1
  obtain ⟨v3, vs3, d3, ds3, p3, q3, hv3, hd3, hp3, h3, hr3⟩ := trodAll_cons hr2
  obtain ⟨v4, vs4, d4, ds4, p4, q4, hv4, hd4, hp4, h4, hr4⟩ := trodAll_cons hr3
  obtain ⟨hvn, hdn, hpn⟩ := trodAll_nil hr4
  subst hvn hdn hpn
  subst hv4 hd4 hp4
  subst hv3 hd3 hp3
  subst hv2 hd2 hp2
  subst hv1 hd1 hp1
  subst hv0 hd0 hp0
  obtain ⟨rfl, rfl⟩ := trodVars_none hV
  obtain ⟨lla, llc, ll, rfl, lls, lli⟩ := lines_open (hval 0 _ v0 rfl rfl) h0
  obtain ⟨ppa, ppc, pp, rfl, pps, -⟩ := opens_open (hval 1 _ v1 rfl rfl) h1
  obtain ⟨tta, ttc, tt, rfl, tts, -⟩ := lots_open (hval 2 _ v2 rfl rfl) h2
  obtain ⟨qq, rfl, qql, qqu⟩ := i64_open Tryz.underlying2 (hval 3 _ v3 rfl rfl) h3
  obtain ⟨eex, ee, rfl, ees⟩ := ev_open (hval 4 _ v4 rfl rfl) h4 (wt_of hZ (j := 4) (by kernel_rfl) rfl)
  have hpr := knW_of hL
  subst hpq
  refine (tellsL_c rfl rfl rfl lls lli pps tts ees hpr).mono fun e W' ⟨he, hw⟩ => ?_
  subst he
  have hB := below_trodAll hw (by decide +kernel) hA1
  rw [← Tryz.params3] at hB
  exact ⟨_, rfl, _, _, _, [], _, [], hW', trodAll_mk1 (shut_bool Tryz.underlying4 true), hB, rfl, hw.frame _, fun h => by cases h⟩
theorem stmtTells_holds : Rows.StmtTellsSaid :=
  OpenClaim.holds_of_wide 3 Tryz.f3 rfl rfl rfl rfl rfl rfl rfl ⟨rfl, rfl, rfl, rfl, rfl⟩ rfl rfl rfl rfl rfl (by kernel_rfl) Tryz.func3 (by kernel_rfl)
    (of_decide_eq_true (by kernel_rfl)) (by unfold Func.isWrapper; first | (rw [if_pos (by decide +kernel)]; kernel_rfl) | (rw [if_neg (by decide +kernel)]; exact ⟨rfl, rfl⟩))
    (fun os started H enc _ => stmtTells_lifted os started H enc)
theorem stmtTells_card : Rows.StmtTellsCardSaid :=
  Claim7.holds_tied_plain_at .later [] [.data] true (true, "28b8a61e8236f19de4108443b75369ebc678c2b20abb73897634beb71150d199") false
    stmtTells_holds (fun _ h => by cases h) (by kernel_rfl) (fun _ h => by cases h) stmtTells_row_tie rfl ⟨rfl, rfl⟩ (by kernel_rfl) rfl
    (fun f fn hf hfn => by
      obtain rfl : f = 3 := Option.some.inj ((show Tryz.prog.funcNamed Rows.stmtTellsRow.func = some 3 by kernel_rfl).symm.trans hf) |>.symm
      obtain rfl : fn = Tryz.f3 := (Option.some.inj (Tryz.func3.symm.trans hfn)).symm
      exact ⟨by kernel_rfl, fun j t ht => by
        have hall : (Tryz.f3.params.toList.all fun u => !Tryz.prog.wantsStandIn u) = true := by kernel_rfl
        have hm : t ∈ Tryz.f3.params.toList := Array.mem_toList_iff.2 (Array.mem_of_getElem? ht)
        exact (show Tryz.prog.wantsStandIn t = false by simpa using List.all_eq_true.1 hall t hm)⟩)
    (by kernel_rfl)
#print axioms stmtTells_card
end Go.Proofs.YtnffmbfdfhokeaaGreatDoor
