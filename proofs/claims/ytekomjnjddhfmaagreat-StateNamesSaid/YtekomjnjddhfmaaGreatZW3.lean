/-
  StateNames: its row: whatever the input: true; the input reads as it did. Conditions: none.
-/
import Derived.Test.YtekomjnjddhfmaaGreatZW2
namespace Go.Proofs.YtekomjnjddhfmaaGreat
open Go.RowKit Go.PlainAid

theorem is_seqr {P : Program} {n : Nat} {l : Fr} {w : World} {Q : Exit → Act → World → Prop} (i : Nat) {ops : Array Oper} {d : Bool} {y : Code} (h : CW P n (.seq (.region i ops d) y) Q l w) : CW P n (.seq (.region i ops d) y) Q l w := h
theorem cw_fr {P : Program} {n : Nat} {c : Code} {Q : Exit → Act → World → Prop} {l m : Fr} {w : World} (hs : Sub m l) (h : CW P n c Q m w) : CW P n c Q l w := ⟨fun a ha => h.out a (ha.sub hs)⟩
theorem cw_sw {P : Program} {n : Nat} {Q : Exit → Act → World → Prop} {l : Fr} {w : World} {i x d1 d2 : Nat} {a c : Int} {kk : IntKind} {t t' ty1 ty2 : TypeId} {p1 p2 : String} {f1 f2 : Array Edge} {A B : Code} (hx : look l x = some (.int kk a)) (hd1 : Nat.blt d1 n = true) (hd2 : Nat.blt d2 n = true) (hn1 : look l d1 = none) (hn2 : look l d2 = none) (h1 : a = c → CW P n A Q l w) (h2 : a ≠ c → CW P n B Q l w) :
    CW P n (.seq (.region i #[⟨some d1, .binOp .eql t (.tmp x) (.const (.int kk c)) t', ty1, p1, f1, none⟩, ⟨some d2, .assign (.tmp d1), ty2, p2, f2, none⟩] false) (.cond (.tmp d2) A B)) Q l w := by
  have hself : ∀ (v : Value) (d : Nat) (r : Fr), look ((d, v) :: r) d = some v := fun v d r => by simp [look]
  have hsub : ∀ (u v : Value) (b : Act), Holds n ((d2, u) :: (d1, v) :: l) b → Holds n l b := fun u v b hb => ⟨hb.1, hb.2.1, fun s z hz => hb.2.2 s z (by
    have e1 : Nat.beq d1 s = false := by
      cases h : Nat.beq d1 s with
      | false => rfl
      | true => have := Nat.eq_of_beq_eq_true h; subst this; rw [hn1] at hz; cases hz
    have e2 : Nat.beq d2 s = false := by
      cases h : Nat.beq d2 s with
      | false => rfl
      | true => have := Nat.eq_of_beq_eq_true h; subst this; rw [hn2] at hz; cases hz
    simp [look, e1, e2, hz])⟩
  refine cw_seq (cw_region (ops := [_, _]) (lw_pure hd1 (pv_eql (a := a) (b := c) hx rfl) (lw_pure hd2 (pv_assign (v := .bool (decide (a = c))) (hself _ _ _)) (lw_nil (qw_then ?_)))))
  by_cases h : a = c
  · exact cw_true (hself _ _ _) (decide_eq_true h) ⟨fun b hb => (h1 h).out b (hsub _ _ b hb)⟩
  · exact cw_false (hself _ _ _) (decide_eq_false h) ⟨fun b hb => (h2 h).out b (hsub _ _ b hb)⟩
section
variable {n : Nat} {l : Fr} {w : World} {ty : TypeId} {pos : String} {af : Array Edge} {x y : Operand}
theorem elemBy : ElemT Tryz.prog 35 5 1 1 := elem_of Tryz.underlying35 (by kernel_rfl) (by omega)
theorem pv_b2sR {d : Option Nat} {g : Option (Nat × Bool)} {N m : Nat} {xs : List Int} (hS : SlR encB 1 w (some ⟨N, 0, none⟩) m xs) (hl : xs.length = m) (hx : ev l x = some (.slice (some ⟨N, 0, none⟩) m m)) : Pv Tryz.prog n l ⟨d, .convert 35 9 x, ty, pos, af, g⟩ (.string (strOfNums xs)) w := ⟨fun A hA => by
  have hr := run_convert_bytes_arg (P := Tryz.prog) w 35 5 Tryz.underlying35 Tryz.underlying5 N 0 m m xs hl (fun i hi => by
    subst hl
    have := (hS.ofSome _ rfl (by have := hS.le; omega)).2.2 i xs[i] (List.getElem?_eq_getElem hi) 0 _ rfl
    simp only [Nat.mul_one, Nat.add_zero] at this
    rw [this, List.getD_eq_getElem?_getD, List.getElem?_eq_getElem hi]; rfl) 9 Tryz.underlying9
  simp [execOp, hA.ev hx, hr]⟩
theorem pv_remz {d : Option Nat} {g : Option (Nat × Bool)} {t t' : TypeId} {a b : Nat} (hx : ev l x = some (.int .i64 (a : Int))) (hy : ev l y = some (.int .i64 (b : Int))) (h : 0 < b) : Pv Tryz.prog n l ⟨d, .binOp .rem t x y t', ty, pos, af, g⟩ (.int .i64 ((a % b : Nat) : Int)) w := ⟨fun A hA => by
  have hb : ¬ b = 0 := by omega
  have e : ((a % b : Nat) : Int) = (a : Int).tmod (b : Int) := by rw [Int.tmod_eq_emod_of_nonneg (by omega), Int.natCast_emod]
  rw [e]
  simp [execOp, hA.ev hx, hA.ev hy, eqGuard, binOp, Op.intDiv, hb]⟩
theorem pv_quoz {d : Option Nat} {g : Option (Nat × Bool)} {t t' : TypeId} {a b : Nat} (hx : ev l x = some (.int .i64 (a : Int))) (hy : ev l y = some (.int .i64 (b : Int))) (h : 0 < b) (ha : a ≤ 9223372036854775807) : Pv Tryz.prog n l ⟨d, .binOp .quo t x y t', ty, pos, af, g⟩ (.int .i64 ((a / b : Nat) : Int)) w := ⟨fun A hA => by
  have hb : ¬ b = 0 := by omega
  have e : (a : Int).tdiv (b : Int) = ((a / b : Nat) : Int) := by rw [Int.tdiv_eq_ediv_of_nonneg (by omega), Int.natCast_ediv]
  have h2 : a / b ≤ a := Nat.div_le_self a b
  obtain ⟨q, hq⟩ : ∃ q, a / b = q := ⟨_, rfl⟩
  rw [hq] at h2 e ⊢
  have e2 : IntKind.i64.wrap (q : Int) = (q : Int) := IntWalk.i64_in _ (by omega)
  simp [execOp, hA.ev hx, hA.ev hy, eqGuard, binOp, Op.intDiv, hb, e, e2]⟩
theorem pv_convb {P : Program} {d : Option Nat} {g : Option (Nat × Bool)} {t t' : TypeId} {k : IntKind} {a : Int} (ht : cvB P t t' .u8 = true) (hx : ev l x = some (.int k a)) (h : 0 ≤ a ∧ a ≤ 255) : Pv P n l ⟨d, .convert t t' x, ty, pos, af, g⟩ (.int .u8 a) w := by
  have := pv_conv_w (P := P) (n := n) (w := w) (d := d) (ty := ty) (pos := pos) (af := af) (g := g) ht hx
  rwa [IntWalk.u8_in _ h] at this
theorem pv_cat {P : Program} {d : Option Nat} {g : Option (Nat × Bool)} {t t' : TypeId} {s u : ByteArray} (hx : ev l x = some (.string s)) (hy : ev l y = some (.string u)) (h : s.size + u.size ≤ 9223372036854775807) : Pv P n l ⟨d, .binOp .add t x y t', ty, pos, af, g⟩ (.string (s ++ u)) w := ⟨fun A hA => by
  have h2 : ¬ (((s.size + u.size : Nat) : Int) > IntKind.i64.max) := by
    rw [show IntKind.i64.max = 9223372036854775807 from rfl]; omega
  simp only [execOp, hA.ev hx, hA.ev hy, eqGuard, binOp, Op.stringOp]
  rw [if_neg h2]
  simp⟩
theorem pv_neqSs {P : Program} {d : Option Nat} {g : Option (Nat × Bool)} {t t' : TypeId} {s : ByteArray} (hx : ev l x = some (.string s)) (hy : ev l y = some (.string s)) : Pv P n l ⟨d, .binOp .neq t x y t', ty, pos, af, g⟩ (.bool false) w := by
  have := pv_sneqD (P := P) (n := n) (w := w) (d := d) (t := t) (t' := t') (ty := ty) (pos := pos) (af := af) (g := g) hx hy
  simpa using this
theorem pv_eqlSs {P : Program} {d : Option Nat} {g : Option (Nat × Bool)} {t t' : TypeId} {s : ByteArray} (hx : ev l x = some (.string s)) (hy : ev l y = some (.string s)) : Pv P n l ⟨d, .binOp .eql t x y t', ty, pos, af, g⟩ (.bool true) w := by
  have := pv_seqlD (P := P) (n := n) (w := w) (d := d) (t := t) (t' := t') (ty := ty) (pos := pos) (af := af) (g := g) hx hy
  simpa using this
theorem pv_neqBs {P : Program} {d : Option Nat} {g : Option (Nat × Bool)} {t t' : TypeId} {c : Bool} (ht : isT P t (fun x => x matches .bool) = true) (hx : ev l x = some (.bool c)) (hy : ev l y = some (.bool c)) : Pv P n l ⟨d, .binOp .neq t x y t', ty, pos, af, g⟩ (.bool false) w := by
  have := pv_bneq (n := n) (w := w) (d := d) (t' := t') (ty := ty) (pos := pos) (af := af) (g := g) ht hx hy
  simpa using this
end
section
variable {α : Type} {enc : α → List Value} {k nb : Nat} {P : Program} {n : Nat} {l : Fr} {w : World} {d : Option Nat} {ty : TypeId} {pos : String} {af : Array Edge} {gd : Option (Nat × Bool)} {S T t : TypeId} {x y : Operand} {base g cap : Nat} {xs ys : List α} {Z : Value → World → Prop}
theorem act_appf (E : ElemT P S T k nb) (hk : ∀ x, (enc x).length = k) (h1c : ∀ x, ∀ v ∈ enc x, v.oneCell' = true) {a a' : Option Addr} {m c m' c' : Nat} (hx : ev l x = some (.slice a' m' c')) (hy : ev l y = some (.slice a m c)) (ho : SlR enc k w a' c' xs) (hs : SlR enc k w a c ys) (hm' : m' = xs.length) (hm : m = ys.length) (hf : c' < xs.length + ys.length)
    (hsz : (xs.length + ys.length) * nb ≤ 140737488355328) (hmx : xs.length + ys.length ≤ maxLen) (h : ∀ v' w', Own enc k T w.heap.size w' v' (xs ++ ys) → Below w.heap.size w w' → Z v' w') : Act1 P n l ⟨d, .call ⟨.builtin .append, #[x, y], #[S, S]⟩, ty, pos, af, gd⟩ w Z := by
  subst hm hm'
  refine act_some (Φ := fun v' w' => Own enc k T w.heap.size w' v' (xs ++ ys) ∧ w.grownBy w' none) (some_append hx hy (app_full E hk h1c ty ho hs hf hsz hmx)) fun v' w' hp => h v' w' hp.1 ?_
  exact (Below.refl _ _).grown hp.2 (Nat.le_refl _) (by intro q hq; cases hq)
theorem act_storeP (ht : sizeB P t k = true) (hk : ∀ x, (enc x).length = k) (h1c : ∀ x, ∀ v ∈ enc x, v.oneCell' = true) {i : Nat} {v : Value} {u : α} {o : Nat} (hx : ev l x = some (.pointer (some ⟨g, o, none⟩))) (ho : o = i * k) (hy : ev l y = some v) (hv : v.cells.toList = enc u) (hO : Own enc k T base w (.slice (some ⟨g, 0, none⟩) xs.length cap) xs) (hi : i < xs.length)
    (h : ∀ w', Own enc k T base w' (.slice (some ⟨g, 0, none⟩) xs.length cap) (xs.set i u) → w.grownBy w' (some g) → w'.heap.size = w.heap.size → Z undef w') : Act1 P n l ⟨d, .store t x y, ty, pos, af, gd⟩ w Z := by
  subst ho
  obtain ⟨w', h1, h2, h3, h4⟩ := Own.store hk h1c hO P i hi u
  refine act_sv (w' := w') ⟨fun A hA => ?_⟩ (h w' h2 h3 h4)
  have hs : v.cells.size = k := by rw [← hk u, ← hv]; simp
  simp [execOp, hA.ev hx, hA.ev hy, Instr.storeAt, Instr.sureAddr, storeVar, sizeB_run ht, hs, hv, h1]
end
def stOkB (t : Stt) : Bool := t.accs.all (fun x => decide (x.name.size ≤ 1000)) && (t.inss.all (fun x => decide (x.name.size ≤ 1000)) && (decide (t.accs.length ≤ 1000) && (decide (t.inss.length ≤ 1000) && t.rows.all fun r => decide ((-1000 ≤ r.free ∧ r.free ≤ 1000) ∧ (-1000 ≤ r.held ∧ r.held ≤ 1000)))))
theorem stOk_of {t : Stt} (h : stOkB t = true) : StOk t := by
  unfold stOkB at h
  simp only [Bool.and_eq_true, List.all_eq_true, decide_eq_true_eq] at h
  obtain ⟨h1, h2, h3, h4, h5⟩ := h
  exact ⟨fun x hx => by have := h1 x hx; omega, fun x hx => by have := h2 x hx; omega, by omega, by omega, fun r hr => by have := h5 r hr; omega⟩
theorem checkV_e {s : SttC} {t : Stt} {v : ByteArray} {w : World} (h : checkF t = v) (hS : StR w s t) (hok : StOk t) : Calls Tryz.prog 9 #[(.agg (encS s).toArray)] w fun e w' => e = .returned (.string v) ∧ Below w.heap.size w w' := by subst h; exact check_c hS hok
theorem mayV_e {s : SttC} {t : Stt} {v : ByteArray} {w : World} (h : checkF t = v) (hS : StR w s t) (hok : StOk t) : Calls Tryz.prog 11 #[(.agg (encS s).toArray)] w fun e w' => e = .returned (.bool (decide (v = ⟨#[]⟩))) ∧ Below w.heap.size w w' := by subst h; exact may_S hS hok
theorem acct_v {s : SttC} {t : Stt} {a : Int} {x : Acc} {b : Bool} {w : World} (h : accOf t.accs a = (x, b)) (hS : StR w s t) : Calls Tryz.prog 12 #[(.agg (encS s).toArray), .int .i64 a] w fun e w' => e = .returned (.tuple #[.agg (encA x).toArray, .bool b]) ∧ Below w.heap.size w w' := by
  have := acct_c (a := a) hS; rw [h] at this; exact this
theorem named_v {s : SttC} {t : Stt} {n : ByteArray} {k : Int} {w : World} (h : namedOf t.accs n = k) (hS : StR w s t) : Calls Tryz.prog 14 #[(.agg (encS s).toArray), .string n] w fun e w' => e = .returned (.int .i64 k) ∧ Below w.heap.size w w' := by subst h; exact named_c hS
theorem held_v {s : SttC} {t : Stt} {a i k : Int} {w : World} (h : heldP t a i = k) (hS : StR w s t) (hN : (partsP t.ords t.aucs).length ≤ 8000) : Calls Tryz.prog 15 #[(.agg (encS s).toArray), .int .i64 a, .int .i64 i] w fun e w' => e = .returned (.int .i64 k) ∧ Below w.heap.size w w' := by subst h; exact R.held_c hS hN
theorem check_many {t : Stt} (hn : numsB t = true) (hl : 64 < t.accs.length) : checkF t = wAccs := by
  have h : accsB t.accs = false := by unfold accsB; rw [decide_eq_false (by omega)]; rfl
  unfold checkF; rw [hn, h]; rfl
theorem sub3 {l : Fr} {a b c : Nat} {u v x : Value} (h1 : look l a = some u) (h2 : look l b = some v) (h3 : look l c = some x) : Sub [(a, u), (b, v), (c, x)] l := ⟨h1, h2, h3, trivial⟩
structure NmX where
  s : SttC
  t : Stt
  v : ByteArray
section
variable {base : Nat} {w w' : World} {gA cA gI gR gO gX cX g1 g2 : Nat}
theorem bX {h : AuH} (hO : OwS base w (fullC gA cA gI gR gO gX cX) fullT (fullX g1 g2)) : ∀ (j : Nat) x a, ([⟨h, some ⟨g1, 0, none⟩, 1, 1⟩, ⟨auc2, some ⟨g2, 0, none⟩, 1, 1⟩] : List AucC)[j]? = some x → ([⟨h, [⟨2, 7⟩]⟩, ⟨auc2, [⟨1, 5⟩]⟩] : List Auc)[j]? = some a → OwA base w x a := fun j x a hx ha => by
  rcases j with _ | _ | j
  · simp at hx ha; subst hx ha; exact ⟨rfl, (hO.B 0 _ _ rfl rfl).o⟩
  · simp at hx ha; subst hx ha; exact ⟨rfl, (hO.B 1 _ _ rfl rfl).o⟩
  · simp at hx
theorem OwS.toD {b : Bid} (h : OwS base w (fullC gA cA gI gR gO gX cX) fullT (fullX g1 g2)) (hne : g1 ≠ g2) (o : Own encD 2 46 base w' (.slice (some ⟨g1, 0, none⟩) 1 1) [b]) (hg : w.grownBy w' (some g1)) : OwS base w' (fullC gA cA gI gR gO gX cX) { fullT with aucs := [⟨auc1, [b]⟩, ⟨auc2, [⟨1, 5⟩]⟩] } (fullX g1 g2) := by
  have h0 := (h.B 0 _ _ rfl rfl).o
  have h1 := (h.B 1 _ _ rfl rfl).o
  refine ⟨h.n, own_keptO h.A h0 (by decide) hg, own_keptO h.I h0 (by decide) hg, own_keptO h.R h0 (by decide) hg, own_keptO h.O h0 (by decide) hg, own_keptO h.X h0 (by decide) hg, rfl, fun j x a hx ha => ?_⟩
  rcases j with _ | _ | j
  · simp at hx ha; subst hx ha; exact ⟨rfl, o⟩
  · simp at hx ha; subst hx ha; exact ⟨rfl, h1.kept hg (Or.inr (fun e => hne (Option.some.inj e).symm))⟩
  · simp at hx
end
abbrev wNone : ByteArray := ⟨#[]⟩
abbrev aucs0 : List Auc := [⟨auc1, [⟨2, 7⟩]⟩, ⟨auc2, [⟨1, 5⟩]⟩]
theorem kF : checkF fullT = wNone ∧ stOkB fullT = true := ⟨by kernel_rfl, by kernel_rfl⟩
theorem stOk_acc {l : List Acc} (h : ∀ x ∈ l, x.name.size ≤ 1000) (hl : l.length ≤ 1000) : StOk { fullT with accs := l } := ⟨fun x hx => by have := h x hx; omega, (stOk_of kF.2).i, by show l.length ≤ _; omega, (stOk_of kF.2).il, (stOk_of kF.2).r⟩
theorem kA2 : accOf fullT.accs 2 = (accB, true) := by kernel_rfl
theorem kA3 : accOf fullT.accs 3 = (⟨ByteArray.empty, false⟩, false) := by kernel_rfl
theorem kA0 : accOf fullT.accs 0 = (⟨ByteArray.empty, false⟩, false) := by kernel_rfl
theorem kA4 : accOf fullT.accs 4 = (⟨ByteArray.empty, false⟩, false) := by kernel_rfl
theorem kI1 : insOf fullT.inss 1 = (insG, true) := by kernel_rfl
theorem kI2 : insOf fullT.inss 2 = (⟨ByteArray.empty, 0, false⟩, false) := by kernel_rfl
theorem kN3 : namedOf fullT.accs ⟨#[99]⟩ = 3 := by kernel_rfl
theorem kN4 : namedOf fullT.accs ⟨#[100]⟩ = 0 := by kernel_rfl
theorem kH1 : heldP fullT 1 0 = 45 := by kernel_rfl
theorem kH2 : heldP fullT 2 1 = 8 := by kernel_rfl
theorem kH3 : heldP fullT 3 0 = 0 := by kernel_rfl
abbrev T0 : Stt := ⟨-1, 100, 4, 8, [accA, accB, accC], [insG], rows1, [ord1, ord2], aucs0⟩
theorem k0 : checkF T0 = wNums ∧ stOkB T0 = true := ⟨by kernel_rfl, by kernel_rfl⟩
abbrev T1 : Stt := ⟨1099511627777, 100, 4, 8, [accA, accB, accC], [insG], rows1, [ord1, ord2], aucs0⟩
theorem k1 : checkF T1 = wNums ∧ stOkB T1 = true := ⟨by kernel_rfl, by kernel_rfl⟩
abbrev T2 : Stt := ⟨9, -1, 4, 8, [accA, accB, accC], [insG], rows1, [ord1, ord2], aucs0⟩
theorem k2 : checkF T2 = wNums ∧ stOkB T2 = true := ⟨by kernel_rfl, by kernel_rfl⟩
abbrev T3 : Stt := ⟨9, 1001, 4, 8, [accA, accB, accC], [insG], rows1, [ord1, ord2], aucs0⟩
theorem k3 : checkF T3 = wNums ∧ stOkB T3 = true := ⟨by kernel_rfl, by kernel_rfl⟩
abbrev T4 : Stt := ⟨9, 100, 0, 8, [accA, accB, accC], [insG], rows1, [ord1, ord2], aucs0⟩
theorem k4 : checkF T4 = wNums ∧ stOkB T4 = true := ⟨by kernel_rfl, by kernel_rfl⟩
abbrev T5 : Stt := ⟨9, 100, 1099511627778, 8, [accA, accB, accC], [insG], rows1, [ord1, ord2], aucs0⟩
theorem k5 : checkF T5 = wNums ∧ stOkB T5 = true := ⟨by kernel_rfl, by kernel_rfl⟩
abbrev T6 : Stt := ⟨9, 100, 4, 0, [accA, accB, accC], [insG], rows1, [ord1, ord2], aucs0⟩
theorem k6 : checkF T6 = wNums ∧ stOkB T6 = true := ⟨by kernel_rfl, by kernel_rfl⟩
abbrev T7 : Stt := ⟨9, 100, 4, 1099511627778, [accA, accB, accC], [insG], rows1, [ord1, ord2], aucs0⟩
theorem k7 : checkF T7 = wNums ∧ stOkB T7 = true := ⟨by kernel_rfl, by kernel_rfl⟩
abbrev T8 : Stt := ⟨9, 100, 4, 8, [accA, accB, ⟨⟨#[97]⟩, false⟩], [insG], rows1, [ord1, ord2], aucs0⟩
theorem k8 : checkF T8 = wAccs ∧ stOkB T8 = true := ⟨by kernel_rfl, by kernel_rfl⟩
abbrev T9 : Stt := ⟨9, 100, 4, 8, [accA, accB, ⟨⟨#[]⟩, false⟩], [insG], rows1, [ord1, ord2], aucs0⟩
theorem k9 : checkF T9 = wAccs ∧ stOkB T9 = true := ⟨by kernel_rfl, by kernel_rfl⟩
abbrev T10 : Stt := ⟨9, 100, 4, 8, [accA, accB, ⟨⟨#[65]⟩, false⟩], [insG], rows1, [ord1, ord2], aucs0⟩
theorem k10 : checkF T10 = wAccs ∧ stOkB T10 = true := ⟨by kernel_rfl, by kernel_rfl⟩
abbrev T12 : Stt := ⟨9, 100, 4, 8, [accA, accB, accC], [⟨⟨#[103, 111, 108, 100]⟩, 0, false⟩], rows1, [ord1, ord2], aucs0⟩
theorem k12 : checkF T12 = wInss ∧ stOkB T12 = true := ⟨by kernel_rfl, by kernel_rfl⟩
abbrev T13 : Stt := ⟨9, 100, 4, 8, [accA, accB, accC], [⟨⟨#[103, 111, 108, 100]⟩, 1073741825, false⟩], rows1, [ord1, ord2], aucs0⟩
theorem k13 : checkF T13 = wInss ∧ stOkB T13 = true := ⟨by kernel_rfl, by kernel_rfl⟩
abbrev T14 : Stt := ⟨9, 100, 4, 8, [accA, accB, accC], [insG, insG], rows1, [ord1, ord2], aucs0⟩
theorem k14 : checkF T14 = wInss ∧ stOkB T14 = true := ⟨by kernel_rfl, by kernel_rfl⟩
abbrev T15 : Stt := ⟨9, 100, 4, 8, [accA, accB, accC], [⟨⟨#[63]⟩, 2, false⟩], rows1, [ord1, ord2], aucs0⟩
theorem k15 : checkF T15 = wInss ∧ stOkB T15 = true := ⟨by kernel_rfl, by kernel_rfl⟩
abbrev T16 : Stt := ⟨9, 100, 4, 8, [accA, accB, accC], [insG], [⟨0, 0, -99, 0⟩, ⟨0, 1, -30, 0⟩, ⟨1, 0, 5, 45⟩, ⟨1, 1, 0, 10⟩, ⟨2, 0, 43, 7⟩, ⟨2, 1, 12, 8⟩], [ord1, ord2], aucs0⟩
theorem k16 : checkF T16 = wRows ∧ stOkB T16 = true := ⟨by kernel_rfl, by kernel_rfl⟩
abbrev T17 : Stt := ⟨9, 100, 4, 8, [accA, ⟨⟨#[98]⟩, false⟩, accC], [insG], rows1, [ord1, ord2], aucs0⟩
theorem k17 : checkF T17 = wRows ∧ stOkB T17 = true := ⟨by kernel_rfl, by kernel_rfl⟩
abbrev T18 : Stt := ⟨9, 100, 4, 8, [accA, accB, accC], [insG], rows1 ++ [⟨4, 0, 1, 0⟩], [ord1, ord2], aucs0⟩
theorem k18 : checkF T18 = wRows ∧ stOkB T18 = true := ⟨by kernel_rfl, by kernel_rfl⟩
abbrev T19 : Stt := ⟨9, 100, 4, 8, [accA, accB, accC], [], rows1, [ord1, ord2], aucs0⟩
theorem k19 : checkF T19 = wRows ∧ stOkB T19 = true := ⟨by kernel_rfl, by kernel_rfl⟩
abbrev T20 : Stt := ⟨9, 100, 4, 8, [accA, accB, accC], [insG], rows1, [⟨1, 1, 1, 3, 10, 4⟩, ord2], aucs0⟩
theorem k20 : checkF T20 = wOrds ∧ stOkB T20 = true := ⟨by kernel_rfl, by kernel_rfl⟩
abbrev T21 : Stt := ⟨9, 100, 3, 8, [accA, accB, accC], [insG], rows1, [ord1, ord2], aucs0⟩
theorem k21 : checkF T21 = wOrds ∧ stOkB T21 = true := ⟨by kernel_rfl, by kernel_rfl⟩
abbrev T22 : Stt := ⟨9, 100, 4, 8, [accA, accB, accC], [insG], rows1, [⟨1, 3, 1, 1, 10, 4⟩, ord2], aucs0⟩
theorem k22 : checkF T22 = wOrds ∧ stOkB T22 = true := ⟨by kernel_rfl, by kernel_rfl⟩
abbrev T23 : Stt := ⟨9, 100, 4, 8, [accA, accB, accC], [insG], rows1, [⟨1, 1, 2, 1, 10, 4⟩, ord2], aucs0⟩
theorem k23 : checkF T23 = wOrds ∧ stOkB T23 = true := ⟨by kernel_rfl, by kernel_rfl⟩
abbrev T24 : Stt := ⟨9, 100, 4, 8, [accA, accB, accC], [insG], rows1, [⟨1, 1, 1, 1, 11, 4⟩, ord2], aucs0⟩
theorem k24 : checkF T24 = wOrds ∧ stOkB T24 = true := ⟨by kernel_rfl, by kernel_rfl⟩
abbrev T25 : Stt := ⟨9, 100, 4, 8, [accA, accB, accC], [insG], rows1, [ord1, ord2], [⟨⟨2, 1, 1, false, 0, 7, 1, 20⟩, [⟨2, 7⟩]⟩, ⟨auc2, [⟨1, 5⟩]⟩]⟩
theorem k25 : checkF T25 = wAucs ∧ stOkB T25 = true := ⟨by kernel_rfl, by kernel_rfl⟩
abbrev T26 : Stt := ⟨9, 100, 4, 7, [accA, accB, accC], [insG], rows1, [ord1, ord2], aucs0⟩
theorem k26 : checkF T26 = wAucs ∧ stOkB T26 = true := ⟨by kernel_rfl, by kernel_rfl⟩
abbrev T27 : Stt := ⟨9, 100, 4, 8, [accA, accB, accC], [insG], rows1, [ord1, ord2], [⟨⟨2, 3, 1, false, 10, 7, 1, 20⟩, [⟨2, 7⟩]⟩, ⟨auc2, [⟨1, 5⟩]⟩]⟩
theorem k27 : checkF T27 = wAucs ∧ stOkB T27 = true := ⟨by kernel_rfl, by kernel_rfl⟩
abbrev T28 : Stt := ⟨9, 100, 4, 8, [accA, accB, accC], [insG], rows1, [ord1, ord2], [⟨⟨2, 1, 2, false, 10, 7, 1, 20⟩, [⟨2, 7⟩]⟩, ⟨auc2, [⟨1, 5⟩]⟩]⟩
theorem k28 : checkF T28 = wAucs ∧ stOkB T28 = true := ⟨by kernel_rfl, by kernel_rfl⟩
abbrev T29 : Stt := ⟨9, 100, 4, 8, [accA, accB, accC], [insG], rows1, [ord1, ord2], [⟨auc1, [⟨3, 7⟩]⟩, ⟨auc2, [⟨1, 5⟩]⟩]⟩
theorem k29 : checkF T29 = wAucs ∧ stOkB T29 = true := ⟨by kernel_rfl, by kernel_rfl⟩
abbrev T30 : Stt := ⟨9, 100, 4, 8, [accA, accB, accC], [insG], rows1, [⟨1, 1, 1, 1, 10, 5⟩, ord2], aucs0⟩
theorem k30 : checkF T30 = wHeld ∧ stOkB T30 = true := ⟨by kernel_rfl, by kernel_rfl⟩
abbrev T31 : Stt := ⟨9, 100, 4, 8, [accA, accB, accC], [insG], rows1, [ord1, ord2], [⟨⟨2, 1, 1, false, 9, 7, 1, 20⟩, [⟨2, 7⟩]⟩, ⟨auc2, [⟨1, 5⟩]⟩]⟩
theorem k31 : checkF T31 = wHeld ∧ stOkB T31 = true := ⟨by kernel_rfl, by kernel_rfl⟩
abbrev T32 : Stt := ⟨9, 100, 4, 8, [accA, accB, accC], [insG], rows1, [ord1, ord2], [⟨auc1, [⟨2, 8⟩]⟩, ⟨auc2, [⟨1, 5⟩]⟩]⟩
theorem k32 : checkF T32 = wHeld ∧ stOkB T32 = true := ⟨by kernel_rfl, by kernel_rfl⟩
abbrev T33 : Stt := ⟨9, 100, 4, 8, [accA, accB, accC], [insG], rows1, [], aucs0⟩
theorem k33 : checkF T33 = wHeld ∧ stOkB T33 = true := ⟨by kernel_rfl, by kernel_rfl⟩
abbrev T34 : Stt := ⟨9, 100, 4, 8, [accA, accB, accC], [insG], rows1, [ord1, ord2], []⟩
theorem k34 : checkF T34 = wHeld ∧ stOkB T34 = true := ⟨by kernel_rfl, by kernel_rfl⟩
abbrev T35 : Stt := ⟨30, 100, 4, 8, [accA, accB, accC], [⟨⟨#[103, 111, 108, 100]⟩, 2, true⟩], rows1, [⟨1, 1, 1, 1, 20, 2⟩, ord2], aucs0⟩
theorem k35 : checkF T35 = wNone ∧ stOkB T35 = true := ⟨by kernel_rfl, by kernel_rfl⟩
abbrev T36 : Stt := ⟨9, 100, 4, 8, [accA, accB, ⟨⟨#[97, 98, 99, 100, 101, 102, 103, 104, 105, 106, 107, 108, 109, 110, 111, 112, 113, 114, 115, 116, 117, 118, 119, 120]⟩, false⟩], [insG], rows1, [ord1, ord2], aucs0⟩
theorem k36 : checkF T36 = wNone ∧ stOkB T36 = true := ⟨by kernel_rfl, by kernel_rfl⟩
abbrev T37 : Stt := ⟨9, 100, 1099511627777, 1099511627777, [accA, accB, accC], [insG], rows1, [ord1, ord2], aucs0⟩
theorem k37 : checkF T37 = wNone ∧ stOkB T37 = true := ⟨by kernel_rfl, by kernel_rfl⟩
abbrev T38 : Stt := ⟨9, 100, 4, 8, [accA, accB, accC], [insG], [⟨0, 0, -100, 0⟩, ⟨0, 1, -30, 0⟩, ⟨1, 1, 0, 10⟩, ⟨1, 0, 5, 45⟩, ⟨2, 0, 43, 7⟩, ⟨2, 1, 12, 8⟩], [ord1, ord2], aucs0⟩
theorem k38 : checkF T38 = wRows ∧ stOkB T38 = true := ⟨by kernel_rfl, by kernel_rfl⟩
abbrev T39 : Stt := ⟨9, 100, 4, 8, [accA, accB, accC], [insG], rows1 ++ [⟨3, 0, 0, 0⟩], [ord1, ord2], aucs0⟩
theorem k39 : checkF T39 = wRows ∧ stOkB T39 = true := ⟨by kernel_rfl, by kernel_rfl⟩

set_option maxRecDepth 20000 in
set_option maxHeartbeats 40000000 in
theorem names18_c (w : World) : Calls Tryz.prog 3 #[] w fun e w' => e = .returned (.bool true) ∧ Below w.heap.size w w' := by
  have hE := Ext.refl w
  have hw := Below.refl w.heap.size w
  refine fn_enter 385 Tryz.func3 rfl rfl rfl ?_
  repeat' (first | (refine lw_pure rfl (pv_assign rfl) ?_) | (refine is_cw ?_; first | (refine cw_seq ?_) | (refine cw_region ?_)) | (refine is_qw ?_; first | (with_reducible refine qw_then ?_)) | (refine lw_nil ?_))
  refine lw_call (f := 8) (by kernel_rfl) rfl rfl (works_c _) ?_; rintro e w1 ⟨rfl, hb⟩; refine ⟨_, rfl, ?_⟩; replace hw := grow_trans hw hb; clear hb
  repeat' (first | (refine lw_pure rfl (pv_move rfl) ?_) | (refine is_guarded ?_; first | (refine lw_on rfl rfl rfl ?_)) | ((refine is_un ?_; first | (refine lw_pure rfl (pv_not rfl) ?_))))
  refine lw_call (f := 10) (by kernel_rfl) rfl rfl (full_c _) ?_; rintro e w1 ⟨⟨gA, cA, gI, gR, gO, gX, cX, g1, g2, hne, rfl, hO⟩, hb⟩; refine ⟨_, rfl, ?_⟩; replace hw := grow_trans hw hb; clear hb
  repeat' (first | (refine is_guarded ?_; first | (refine lw_on rfl rfl rfl ?_)))
  have hS0 := hO.stR
  clear hO hne
  have hE1 := hE.mono hw
  clear hw
  have hw := Below.refl w1.heap.size w1
  refine lw_call (f := 9) (by kernel_rfl) rfl rfl (checkV_e kF.1 hS0 (stOk_of kF.2)) ?_; rintro e w1 ⟨rfl, hb⟩; refine ⟨_, rfl, ?_⟩; replace hw := grow_trans hw hb; clear hb
  repeat' (first | (refine lw_pure rfl (pv_assign rfl) ?_) | (refine is_cw ?_; first | (refine cw_seq ?_) | (refine cw_region ?_) | (refine cw_false rfl rfl ?_) | (refine cw_skip ?_) | (refine cw_block ?_)) | (refine is_qw ?_; first | (with_reducible refine qw_then ?_)) | (refine lw_nil ?_) | (refine is_guarded ?_; first | (refine lw_on rfl rfl rfl ?_)) | ((refine is_bin ?_; first | (refine lw_pure rfl (pv_neqSs rfl rfl) ?_))) | (refine is_pk ?_; refine lw_pure rfl (pv_pick_f rfl rfl rfl) ?_))
  replace hw := (hE1.mono hw).b
  clear hE1 hS0
  refine cw_loop (σ := Nat) (fun k => [(1, .int .i64 (k : Nat))]) (fun k wr => k ≤ 40 ∧ Below w.heap.size w wr) (fun k => 40 - k) 0 (by repeat' (first | exact trivial | refine ⟨rfl, ?_⟩)) ⟨Nat.zero_le _, hw⟩ ?_
  clear hw
  rintro k wk ⟨hk, hw⟩
  by_cases hlt : k < 40
  · have hW := hw
    clear hw
    have hw := Below.refl wk.heap.size wk
    repeat' (first | (refine lw_pure rfl (pv_move rfl) ?_) | (refine is_cw ?_; first | (refine cw_seq ?_) | (refine cw_region ?_) | (refine is_cd ?_; refine cw_true rfl (by first | assumption | exact decide_eq_true (by omega) | exact dec_notT (by omega)) ?_) | (refine cw_skip ?_) | (refine cw_block ?_)) | (refine is_qw ?_; first | (with_reducible refine qw_then ?_)) | (refine lw_nil ?_) | ((refine is_bin ?_; first | (refine lw_pure rfl (pv_lss rfl rfl) ?_))))
    refine lw_call (f := 10) (by kernel_rfl) rfl rfl (full_c _) ?_; rintro e w1 ⟨⟨gA, cA, gI, gR, gO, gX, cX, g1, g2, hne, rfl, hO⟩, hb⟩; refine ⟨_, rfl, ?_⟩; replace hw := grow_trans hw hb; clear hb
    skip
    refine lw_varN rfl (by first | exact tyv_29 | exact tyv_30 | exact tyv_33 | exact tyv_34 | exact tyv_36 | exact tyv_37 | exact tyv_38 | exact tyv_39 | exact tyv_40 | exact tyv_41 | exact tyv_43 | exact tyv_44 | exact tyv_45 | exact tyv_46 | exact tyv_73 | exact tyv_74 | exact tyv_80 | exact tyv_81 | exact tyv_107 | exact tyv_108 | exact tyv_123 | exact tyv_146 | exact tyv_147 | exact tyv_148 | exact tyv_149) rfl (tZ rfl) (fun _ => rfl) rfl rfl ?_; intro N2 w2 hN2 H2 hb
    replace H2 : PT w2 N2 30 [.int .i64 9, .int .i64 100, .int .i64 4, .int .i64 8, .slice (some ⟨gA, 0, none⟩) 3 cA, .slice (some ⟨gI, 0, none⟩) 1 1, .slice (some ⟨gR, 0, none⟩) 6 6, .slice (some ⟨gO, 0, none⟩) 2 2, .slice (some ⟨gX, 0, none⟩) 2 cX] := H2
    replace hO := hO.mo hb
    replace hN2 := Nat.le_trans hw.size hN2
    replace hw := grow_trans hw hb
    clear hb
    repeat' ((fail_if_success (refine is_seqb ?_)); (fail_if_success (refine is_blk ?_)); first | (refine lw_pure rfl (pv_move rfl) ?_) | (refine lw_pure rfl (pv_assign rfl) ?_) | (refine is_cw ?_; first | (refine cw_seq ?_) | (refine cw_region ?_)) | (refine is_qw ?_; first | (with_reducible refine qw_then ?_)) | (refine lw_nil ?_))
    refine cw_cutq (σ := NmX) (fun X => [(1, .int .i64 (k : Nat)), (2, .pointer (some ⟨N2, 0, none⟩)), (3, .string X.v)]) (fun X wr => Below wk.heap.size wk wr ∧ StR wr X.s X.t ∧ PT wr N2 30 (encS X.s) ∧ StOk X.t ∧ checkF X.t = X.v) ?_ ?_
    rotate_left
    · clear hw hO H2
      rintro ⟨s5, t5, v5⟩ wr ⟨hw5, hS5, H5, hok5, hc5⟩
      dsimp only at hS5 H5 hok5 hc5
      change CW _ _ _ _ [(1, .int .i64 (k : Nat)), (2, .pointer (some ⟨N2, 0, none⟩)), (3, .string v5)] wr
      have hw := Below.refl wr.heap.size wr
      repeat' (first | (refine is_cw ?_; first | (refine cw_seq ?_) | (refine cw_region ?_)) | ((refine is_load ?_; first | (refine lw_pure rfl (pv_loada (tA rfl) rfl (by first | exact PT.lda (H5.mono hw)) (by rfl)) ?_))))
      refine lw_call (f := 9) (by kernel_rfl) rfl rfl (checkV_e hc5 (hS5.mono hw) hok5) ?_; rintro e w1 ⟨rfl, hb⟩; refine ⟨_, rfl, ?_⟩; replace hw := grow_trans hw hb; clear hb
      repeat' (first | (refine lw_pure rfl (pv_move rfl) ?_) | (refine is_guarded ?_; first | (refine lw_on rfl rfl rfl ?_)) | ((refine is_bin ?_; first | (refine lw_pure rfl (pv_neqSs rfl rfl) ?_))) | ((refine is_load ?_; first | (refine lw_pure rfl (pv_loada (tA rfl) rfl (by first | exact PT.lda (H5.mono hw)) (by rfl)) ?_))))
      refine lw_call (f := 11) (by kernel_rfl) rfl rfl (mayV_e hc5 (hS5.mono hw) hok5) ?_; rintro e w1 ⟨rfl, hb⟩; refine ⟨_, rfl, ?_⟩; replace hw := grow_trans hw hb; clear hb
      repeat' (first | (refine lw_pure rfl (pv_move rfl) ?_) | (refine lw_pure rfl (pv_assign rfl) ?_) | (refine is_cw ?_; first | (refine cw_region ?_) | (refine cw_false rfl rfl ?_) | (refine cw_skip ?_)) | (refine is_qw ?_; first | (with_reducible refine qw_then ?_) | (with_reducible refine qw_in ?_)) | (refine lw_nil ?_) | (refine is_guarded ?_; first | (refine lw_on rfl rfl rfl ?_)) | ((refine is_bin ?_; first | (refine lw_pure rfl (pv_neqBs (tBo rfl) rfl rfl) ?_) | (refine lw_pure rfl (pv_inc rfl rfl (by omega)) ?_) | (refine lw_pure rfl (pv_seqlD rfl rfl) ?_))) | (refine is_pk ?_; refine lw_pure rfl (pv_pick_f rfl rfl rfl) ?_))
      exact qw_round (k + 1) (by repeat' (first | exact trivial | refine ⟨rfl, ?_⟩)) ⟨by omega, grow_trans hW (grow_trans hw5 hw)⟩ (by omega)
    refine cw_fr (m := [(1, .int .i64 (k : Nat)), (2, .pointer (some ⟨N2, 0, none⟩)), (3, .string ⟨#[]⟩), (30, .int .i64 (k : Nat))]) (by repeat' (first | exact trivial | refine ⟨rfl, ?_⟩)) ?_
    have hWk := hw
    clear hw hW
    have hw := Below.refl w2.heap.size w2
    have oA : Own encA 2 34 wk.heap.size w2 (.slice (some ⟨gA, 0, none⟩) [accA, accB, accC].length cA) [accA, accB, accC] := hO.A
    have oI : Own encN 3 37 wk.heap.size w2 (.slice (some ⟨gI, 0, none⟩) [insG].length 1) [insG] := hO.I
    have oR : Own encR 4 39 wk.heap.size w2 (.slice (some ⟨gR, 0, none⟩) rows1.length 6) rows1 := hO.R
    have oO : Own encO 6 41 wk.heap.size w2 (.slice (some ⟨gO, 0, none⟩) [ord1, ord2].length 2) [ord1, ord2] := hO.O
    have oX : Own encC 9 44 wk.heap.size w2 (.slice (some ⟨gX, 0, none⟩) (fullX g1 g2).length cX) (fullX g1 g2) := hO.X
    have oD : Own encD 2 46 wk.heap.size w2 (.slice (some ⟨g1, 0, none⟩) [(⟨2, 7⟩ : Bid)].length 1) [⟨2, 7⟩] := (hO.B 0 _ _ rfl rfl).o
    have SX := (own_sl encC_len oX).2
    have SI := (own_sl encN_len oI).2
    have SR := (own_sl encR_len oR).2
    have hx0 : (fullX g1 g2)[0]? = some ⟨auc1, some ⟨g1, 0, none⟩, 1, 1⟩ := rfl
    have hb0 : (0 : Int) ≤ 0 ∧ (0 : Int) < ((1 : Nat) : Int) := by decide
    have hi0 : [insG][0]? = some insG := rfl
    have hr2 : rows1[2]? = some ⟨1, 0, 5, 45⟩ := rfl
    have hr3 : rows1[3]? = some ⟨1, 1, 0, 10⟩ := rfl
    refine cw_block ?_
    by_cases h7 : k ≤ 7
    · rcases (by omega : k = 0 ∨ k = 1 ∨ k = 2 ∨ k = 3 ∨ k = 4 ∨ k = 5 ∨ k = 6 ∨ k = 7) with rfl | rfl | rfl | rfl | rfl | rfl | rfl | rfl
      · skip
        repeat' (first | (refine lw_pure rfl (pv_assign rfl) ?_) | (refine is_cw ?_; first | (refine cw_seq ?_) | (refine cw_region ?_) | (refine cw_true rfl rfl ?_) | (refine cw_skip ?_)) | (refine is_qw ?_; first | (with_reducible refine qw_then ?_)) | (refine lw_nil ?_) | ((refine is_bin ?_; first | (refine lw_pure rfl (pv_eql rfl rfl) ?_))))
        refine lw_bsN (vs := [.int .i64 (-1), .int .i64 1099511627777, .int .i64 (-1), .int .i64 1001, .int .i64 0, .int .i64 1099511627778, .int .i64 0, .int .i64 1099511627778]) (cs := [.int .i64 (-1), .int .i64 1099511627777, .int .i64 (-1), .int .i64 1001, .int .i64 0, .int .i64 1099511627778, .int .i64 0, .int .i64 1099511627778]) elemI rfl rfl rfl (by omega) (by omega) rfl (by intro v hv; simp at hv; rcases hv with rfl | rfl | rfl | rfl | rfl | rfl | rfl | rfl <;> rfl) ?_; intro NV w3 hNV HV hb
        replace hO := hO.mo hb
        replace H2 := H2.mono hb
        replace hWk := grow_trans hWk hb
        clear hb hw
        have hw := Below.refl w3.heap.size w3
        repeat' (first | (refine lw_pure rfl (pv_move rfl) ?_) | (refine lw_pure rfl (pv_assign rfl) ?_) | (refine is_cw ?_; first | (refine cw_seq ?_) | (refine cw_region ?_) | (refine cw_true rfl rfl ?_) | (refine cw_block ?_)) | (refine is_qw ?_; first | (with_reducible refine qw_then ?_)) | (refine lw_nil ?_) | ((refine is_bin ?_; first | (refine lw_pure rfl (pv_quoz (b := 2) rfl rfl (by omega) (by omega)) ?_) | (refine lw_pure rfl (pv_eql rfl rfl) ?_))) | ((refine is_load ?_; first | (refine lw_pure rfl (pv_load (t1 rfl) rfl (by first | exact PT.ld0 HV rfl | exact PT.ld HV rfl)) ?_))) | ((refine is_fa ?_; first | (refine lw_pure rfl (pv_fa (tF rfl) rfl) ?_))) | ((refine is_ia ?_; first | (refine lw_pure rfl (pv_ian (tS rfl) rfl rfl (by omega)) ?_))))
        refine lw_store H2 (tZ rfl) rfl rfl rfl (by simp) ?_; intro w5 H22 hg hz
        have hO2 := (hO.num (-1) (100) (4) (8)).st H2 hg
        have hw2 := st_hw hWk hg hN2
        repeat' (first | (refine is_qw ?_; first | (with_reducible refine qw_in ?_)) | (refine lw_nil ?_))
        exact qw_join ⟨_, T0, wNums⟩ (by repeat' (first | exact trivial | refine ⟨rfl, ?_⟩)) ⟨hw2, hO2.stR, H22, stOk_of k0.2, k0.1⟩
      · skip
        repeat' (first | (refine lw_pure rfl (pv_assign rfl) ?_) | (refine is_cw ?_; first | (refine cw_seq ?_) | (refine cw_region ?_) | (refine cw_true rfl rfl ?_) | (refine cw_false rfl rfl ?_) | (refine cw_skip ?_)) | (refine is_qw ?_; first | (with_reducible refine qw_then ?_)) | (refine lw_nil ?_) | ((refine is_bin ?_; first | (refine lw_pure rfl (pv_eql rfl rfl) ?_))))
        refine lw_bsN (vs := [.int .i64 (-1), .int .i64 1099511627777, .int .i64 (-1), .int .i64 1001, .int .i64 0, .int .i64 1099511627778, .int .i64 0, .int .i64 1099511627778]) (cs := [.int .i64 (-1), .int .i64 1099511627777, .int .i64 (-1), .int .i64 1001, .int .i64 0, .int .i64 1099511627778, .int .i64 0, .int .i64 1099511627778]) elemI rfl rfl rfl (by omega) (by omega) rfl (by intro v hv; simp at hv; rcases hv with rfl | rfl | rfl | rfl | rfl | rfl | rfl | rfl <;> rfl) ?_; intro NV w3 hNV HV hb
        replace hO := hO.mo hb
        replace H2 := H2.mono hb
        replace hWk := grow_trans hWk hb
        clear hb hw
        have hw := Below.refl w3.heap.size w3
        repeat' (first | (refine lw_pure rfl (pv_move rfl) ?_) | (refine lw_pure rfl (pv_assign rfl) ?_) | (refine is_cw ?_; first | (refine cw_seq ?_) | (refine cw_region ?_) | (refine cw_true rfl rfl ?_) | (refine cw_block ?_)) | (refine is_qw ?_; first | (with_reducible refine qw_then ?_)) | (refine lw_nil ?_) | ((refine is_bin ?_; first | (refine lw_pure rfl (pv_quoz (b := 2) rfl rfl (by omega) (by omega)) ?_) | (refine lw_pure rfl (pv_eql rfl rfl) ?_))) | ((refine is_load ?_; first | (refine lw_pure rfl (pv_load (t1 rfl) rfl (by first | exact PT.ld0 HV rfl | exact PT.ld HV rfl)) ?_))) | ((refine is_fa ?_; first | (refine lw_pure rfl (pv_fa (tF rfl) rfl) ?_))) | ((refine is_ia ?_; first | (refine lw_pure rfl (pv_ian (tS rfl) rfl rfl (by omega)) ?_))))
        refine lw_store H2 (tZ rfl) rfl rfl rfl (by simp) ?_; intro w5 H22 hg hz
        have hO2 := (hO.num (1099511627777) (100) (4) (8)).st H2 hg
        have hw2 := st_hw hWk hg hN2
        repeat' (first | (refine is_qw ?_; first | (with_reducible refine qw_in ?_)) | (refine lw_nil ?_))
        exact qw_join ⟨_, T1, wNums⟩ (by repeat' (first | exact trivial | refine ⟨rfl, ?_⟩)) ⟨hw2, hO2.stR, H22, stOk_of k1.2, k1.1⟩
      · skip
        repeat' (first | (refine lw_pure rfl (pv_assign rfl) ?_) | (refine is_cw ?_; first | (refine cw_seq ?_) | (refine cw_region ?_) | (refine cw_true rfl rfl ?_) | (refine cw_false rfl rfl ?_) | (refine cw_skip ?_)) | (refine is_qw ?_; first | (with_reducible refine qw_then ?_)) | (refine lw_nil ?_) | ((refine is_bin ?_; first | (refine lw_pure rfl (pv_eql rfl rfl) ?_))))
        refine lw_bsN (vs := [.int .i64 (-1), .int .i64 1099511627777, .int .i64 (-1), .int .i64 1001, .int .i64 0, .int .i64 1099511627778, .int .i64 0, .int .i64 1099511627778]) (cs := [.int .i64 (-1), .int .i64 1099511627777, .int .i64 (-1), .int .i64 1001, .int .i64 0, .int .i64 1099511627778, .int .i64 0, .int .i64 1099511627778]) elemI rfl rfl rfl (by omega) (by omega) rfl (by intro v hv; simp at hv; rcases hv with rfl | rfl | rfl | rfl | rfl | rfl | rfl | rfl <;> rfl) ?_; intro NV w3 hNV HV hb
        replace hO := hO.mo hb
        replace H2 := H2.mono hb
        replace hWk := grow_trans hWk hb
        clear hb hw
        have hw := Below.refl w3.heap.size w3
        repeat' (first | (refine lw_pure rfl (pv_move rfl) ?_) | (refine lw_pure rfl (pv_assign rfl) ?_) | (refine is_cw ?_; first | (refine cw_seq ?_) | (refine cw_region ?_) | (refine cw_true rfl rfl ?_) | (refine cw_false rfl rfl ?_) | (refine cw_block ?_)) | (refine is_qw ?_; first | (with_reducible refine qw_then ?_)) | (refine lw_nil ?_) | ((refine is_bin ?_; first | (refine lw_pure rfl (pv_quoz (b := 2) rfl rfl (by omega) (by omega)) ?_) | (refine lw_pure rfl (pv_eql rfl rfl) ?_))) | ((refine is_load ?_; first | (refine lw_pure rfl (pv_load (t1 rfl) rfl (by first | exact PT.ld0 HV rfl | exact PT.ld HV rfl)) ?_))) | ((refine is_fa ?_; first | (refine lw_pure rfl (pv_fa (tF rfl) rfl) ?_))) | ((refine is_ia ?_; first | (refine lw_pure rfl (pv_ian (tS rfl) rfl rfl (by omega)) ?_))))
        refine lw_store H2 (tZ rfl) rfl rfl rfl (by simp) ?_; intro w5 H22 hg hz
        have hO2 := (hO.num (9) (-1) (4) (8)).st H2 hg
        have hw2 := st_hw hWk hg hN2
        repeat' (first | (refine is_qw ?_; first | (with_reducible refine qw_in ?_)) | (refine lw_nil ?_))
        exact qw_join ⟨_, T2, wNums⟩ (by repeat' (first | exact trivial | refine ⟨rfl, ?_⟩)) ⟨hw2, hO2.stR, H22, stOk_of k2.2, k2.1⟩
      · skip
        repeat' (first | (refine lw_pure rfl (pv_assign rfl) ?_) | (refine is_cw ?_; first | (refine cw_seq ?_) | (refine cw_region ?_) | (refine cw_true rfl rfl ?_) | (refine cw_false rfl rfl ?_) | (refine cw_skip ?_)) | (refine is_qw ?_; first | (with_reducible refine qw_then ?_)) | (refine lw_nil ?_) | ((refine is_bin ?_; first | (refine lw_pure rfl (pv_eql rfl rfl) ?_))))
        refine lw_bsN (vs := [.int .i64 (-1), .int .i64 1099511627777, .int .i64 (-1), .int .i64 1001, .int .i64 0, .int .i64 1099511627778, .int .i64 0, .int .i64 1099511627778]) (cs := [.int .i64 (-1), .int .i64 1099511627777, .int .i64 (-1), .int .i64 1001, .int .i64 0, .int .i64 1099511627778, .int .i64 0, .int .i64 1099511627778]) elemI rfl rfl rfl (by omega) (by omega) rfl (by intro v hv; simp at hv; rcases hv with rfl | rfl | rfl | rfl | rfl | rfl | rfl | rfl <;> rfl) ?_; intro NV w3 hNV HV hb
        replace hO := hO.mo hb
        replace H2 := H2.mono hb
        replace hWk := grow_trans hWk hb
        clear hb hw
        have hw := Below.refl w3.heap.size w3
        repeat' (first | (refine lw_pure rfl (pv_move rfl) ?_) | (refine lw_pure rfl (pv_assign rfl) ?_) | (refine is_cw ?_; first | (refine cw_seq ?_) | (refine cw_region ?_) | (refine cw_true rfl rfl ?_) | (refine cw_false rfl rfl ?_) | (refine cw_block ?_)) | (refine is_qw ?_; first | (with_reducible refine qw_then ?_)) | (refine lw_nil ?_) | ((refine is_bin ?_; first | (refine lw_pure rfl (pv_quoz (b := 2) rfl rfl (by omega) (by omega)) ?_) | (refine lw_pure rfl (pv_eql rfl rfl) ?_))) | ((refine is_load ?_; first | (refine lw_pure rfl (pv_load (t1 rfl) rfl (by first | exact PT.ld0 HV rfl | exact PT.ld HV rfl)) ?_))) | ((refine is_fa ?_; first | (refine lw_pure rfl (pv_fa (tF rfl) rfl) ?_))) | ((refine is_ia ?_; first | (refine lw_pure rfl (pv_ian (tS rfl) rfl rfl (by omega)) ?_))))
        refine lw_store H2 (tZ rfl) rfl rfl rfl (by simp) ?_; intro w5 H22 hg hz
        have hO2 := (hO.num (9) (1001) (4) (8)).st H2 hg
        have hw2 := st_hw hWk hg hN2
        repeat' (first | (refine is_qw ?_; first | (with_reducible refine qw_in ?_)) | (refine lw_nil ?_))
        exact qw_join ⟨_, T3, wNums⟩ (by repeat' (first | exact trivial | refine ⟨rfl, ?_⟩)) ⟨hw2, hO2.stR, H22, stOk_of k3.2, k3.1⟩
      · skip
        repeat' (first | (refine lw_pure rfl (pv_assign rfl) ?_) | (refine is_cw ?_; first | (refine cw_seq ?_) | (refine cw_region ?_) | (refine cw_true rfl rfl ?_) | (refine cw_false rfl rfl ?_) | (refine cw_skip ?_)) | (refine is_qw ?_; first | (with_reducible refine qw_then ?_)) | (refine lw_nil ?_) | ((refine is_bin ?_; first | (refine lw_pure rfl (pv_eql rfl rfl) ?_))))
        refine lw_bsN (vs := [.int .i64 (-1), .int .i64 1099511627777, .int .i64 (-1), .int .i64 1001, .int .i64 0, .int .i64 1099511627778, .int .i64 0, .int .i64 1099511627778]) (cs := [.int .i64 (-1), .int .i64 1099511627777, .int .i64 (-1), .int .i64 1001, .int .i64 0, .int .i64 1099511627778, .int .i64 0, .int .i64 1099511627778]) elemI rfl rfl rfl (by omega) (by omega) rfl (by intro v hv; simp at hv; rcases hv with rfl | rfl | rfl | rfl | rfl | rfl | rfl | rfl <;> rfl) ?_; intro NV w3 hNV HV hb
        replace hO := hO.mo hb
        replace H2 := H2.mono hb
        replace hWk := grow_trans hWk hb
        clear hb hw
        have hw := Below.refl w3.heap.size w3
        repeat' (first | (refine lw_pure rfl (pv_move rfl) ?_) | (refine lw_pure rfl (pv_assign rfl) ?_) | (refine is_cw ?_; first | (refine cw_seq ?_) | (refine cw_region ?_) | (refine cw_true rfl rfl ?_) | (refine cw_false rfl rfl ?_) | (refine cw_block ?_)) | (refine is_qw ?_; first | (with_reducible refine qw_then ?_)) | (refine lw_nil ?_) | ((refine is_bin ?_; first | (refine lw_pure rfl (pv_quoz (b := 2) rfl rfl (by omega) (by omega)) ?_) | (refine lw_pure rfl (pv_eql rfl rfl) ?_))) | ((refine is_load ?_; first | (refine lw_pure rfl (pv_load (t1 rfl) rfl (by first | exact PT.ld0 HV rfl | exact PT.ld HV rfl)) ?_))) | ((refine is_fa ?_; first | (refine lw_pure rfl (pv_fa (tF rfl) rfl) ?_))) | ((refine is_ia ?_; first | (refine lw_pure rfl (pv_ian (tS rfl) rfl rfl (by omega)) ?_))))
        refine lw_store H2 (tZ rfl) rfl rfl rfl (by simp) ?_; intro w5 H22 hg hz
        have hO2 := (hO.num (9) (100) (0) (8)).st H2 hg
        have hw2 := st_hw hWk hg hN2
        repeat' (first | (refine is_qw ?_; first | (with_reducible refine qw_in ?_)) | (refine lw_nil ?_))
        exact qw_join ⟨_, T4, wNums⟩ (by repeat' (first | exact trivial | refine ⟨rfl, ?_⟩)) ⟨hw2, hO2.stR, H22, stOk_of k4.2, k4.1⟩
      · skip
        repeat' (first | (refine lw_pure rfl (pv_assign rfl) ?_) | (refine is_cw ?_; first | (refine cw_seq ?_) | (refine cw_region ?_) | (refine cw_true rfl rfl ?_) | (refine cw_false rfl rfl ?_) | (refine cw_skip ?_)) | (refine is_qw ?_; first | (with_reducible refine qw_then ?_)) | (refine lw_nil ?_) | ((refine is_bin ?_; first | (refine lw_pure rfl (pv_eql rfl rfl) ?_))))
        refine lw_bsN (vs := [.int .i64 (-1), .int .i64 1099511627777, .int .i64 (-1), .int .i64 1001, .int .i64 0, .int .i64 1099511627778, .int .i64 0, .int .i64 1099511627778]) (cs := [.int .i64 (-1), .int .i64 1099511627777, .int .i64 (-1), .int .i64 1001, .int .i64 0, .int .i64 1099511627778, .int .i64 0, .int .i64 1099511627778]) elemI rfl rfl rfl (by omega) (by omega) rfl (by intro v hv; simp at hv; rcases hv with rfl | rfl | rfl | rfl | rfl | rfl | rfl | rfl <;> rfl) ?_; intro NV w3 hNV HV hb
        replace hO := hO.mo hb
        replace H2 := H2.mono hb
        replace hWk := grow_trans hWk hb
        clear hb hw
        have hw := Below.refl w3.heap.size w3
        repeat' (first | (refine lw_pure rfl (pv_move rfl) ?_) | (refine lw_pure rfl (pv_assign rfl) ?_) | (refine is_cw ?_; first | (refine cw_seq ?_) | (refine cw_region ?_) | (refine cw_true rfl rfl ?_) | (refine cw_false rfl rfl ?_) | (refine cw_block ?_)) | (refine is_qw ?_; first | (with_reducible refine qw_then ?_)) | (refine lw_nil ?_) | ((refine is_bin ?_; first | (refine lw_pure rfl (pv_quoz (b := 2) rfl rfl (by omega) (by omega)) ?_) | (refine lw_pure rfl (pv_eql rfl rfl) ?_))) | ((refine is_load ?_; first | (refine lw_pure rfl (pv_load (t1 rfl) rfl (by first | exact PT.ld0 HV rfl | exact PT.ld HV rfl)) ?_))) | ((refine is_fa ?_; first | (refine lw_pure rfl (pv_fa (tF rfl) rfl) ?_))) | ((refine is_ia ?_; first | (refine lw_pure rfl (pv_ian (tS rfl) rfl rfl (by omega)) ?_))))
        refine lw_store H2 (tZ rfl) rfl rfl rfl (by simp) ?_; intro w5 H22 hg hz
        have hO2 := (hO.num (9) (100) (1099511627778) (8)).st H2 hg
        have hw2 := st_hw hWk hg hN2
        repeat' (first | (refine is_qw ?_; first | (with_reducible refine qw_in ?_)) | (refine lw_nil ?_))
        exact qw_join ⟨_, T5, wNums⟩ (by repeat' (first | exact trivial | refine ⟨rfl, ?_⟩)) ⟨hw2, hO2.stR, H22, stOk_of k5.2, k5.1⟩
      · skip
        repeat' (first | (refine lw_pure rfl (pv_assign rfl) ?_) | (refine is_cw ?_; first | (refine cw_seq ?_) | (refine cw_region ?_) | (refine cw_true rfl rfl ?_) | (refine cw_false rfl rfl ?_) | (refine cw_skip ?_)) | (refine is_qw ?_; first | (with_reducible refine qw_then ?_)) | (refine lw_nil ?_) | ((refine is_bin ?_; first | (refine lw_pure rfl (pv_eql rfl rfl) ?_))))
        refine lw_bsN (vs := [.int .i64 (-1), .int .i64 1099511627777, .int .i64 (-1), .int .i64 1001, .int .i64 0, .int .i64 1099511627778, .int .i64 0, .int .i64 1099511627778]) (cs := [.int .i64 (-1), .int .i64 1099511627777, .int .i64 (-1), .int .i64 1001, .int .i64 0, .int .i64 1099511627778, .int .i64 0, .int .i64 1099511627778]) elemI rfl rfl rfl (by omega) (by omega) rfl (by intro v hv; simp at hv; rcases hv with rfl | rfl | rfl | rfl | rfl | rfl | rfl | rfl <;> rfl) ?_; intro NV w3 hNV HV hb
        replace hO := hO.mo hb
        replace H2 := H2.mono hb
        replace hWk := grow_trans hWk hb
        clear hb hw
        have hw := Below.refl w3.heap.size w3
        repeat' (first | (refine lw_pure rfl (pv_move rfl) ?_) | (refine lw_pure rfl (pv_assign rfl) ?_) | (refine is_cw ?_; first | (refine cw_seq ?_) | (refine cw_region ?_) | (refine cw_false rfl rfl ?_) | (refine cw_block ?_)) | (refine is_qw ?_; first | (with_reducible refine qw_then ?_)) | (refine lw_nil ?_) | ((refine is_bin ?_; first | (refine lw_pure rfl (pv_quoz (b := 2) rfl rfl (by omega) (by omega)) ?_) | (refine lw_pure rfl (pv_eql rfl rfl) ?_))) | ((refine is_load ?_; first | (refine lw_pure rfl (pv_load (t1 rfl) rfl (by first | exact PT.ld0 HV rfl | exact PT.ld HV rfl)) ?_))) | ((refine is_fa ?_; first | (refine lw_pure rfl (pv_fa (tF rfl) rfl) ?_))) | ((refine is_ia ?_; first | (refine lw_pure rfl (pv_ian (tS rfl) rfl rfl (by omega)) ?_))))
        refine lw_store H2 (tZ rfl) rfl rfl rfl (by simp) ?_; intro w5 H22 hg hz
        have hO2 := (hO.num (9) (100) (4) (0)).st H2 hg
        have hw2 := st_hw hWk hg hN2
        repeat' (first | (refine is_qw ?_; first | (with_reducible refine qw_in ?_)) | (refine lw_nil ?_))
        exact qw_join ⟨_, T6, wNums⟩ (by repeat' (first | exact trivial | refine ⟨rfl, ?_⟩)) ⟨hw2, hO2.stR, H22, stOk_of k6.2, k6.1⟩
      · skip
        repeat' (first | (refine lw_pure rfl (pv_assign rfl) ?_) | (refine is_cw ?_; first | (refine cw_seq ?_) | (refine cw_region ?_) | (refine cw_true rfl rfl ?_) | (refine cw_false rfl rfl ?_)) | (refine is_qw ?_; first | (with_reducible refine qw_then ?_)) | (refine lw_nil ?_) | ((refine is_bin ?_; first | (refine lw_pure rfl (pv_eql rfl rfl) ?_))))
        refine lw_bsN (vs := [.int .i64 (-1), .int .i64 1099511627777, .int .i64 (-1), .int .i64 1001, .int .i64 0, .int .i64 1099511627778, .int .i64 0, .int .i64 1099511627778]) (cs := [.int .i64 (-1), .int .i64 1099511627777, .int .i64 (-1), .int .i64 1001, .int .i64 0, .int .i64 1099511627778, .int .i64 0, .int .i64 1099511627778]) elemI rfl rfl rfl (by omega) (by omega) rfl (by intro v hv; simp at hv; rcases hv with rfl | rfl | rfl | rfl | rfl | rfl | rfl | rfl <;> rfl) ?_; intro NV w3 hNV HV hb
        replace hO := hO.mo hb
        replace H2 := H2.mono hb
        replace hWk := grow_trans hWk hb
        clear hb hw
        have hw := Below.refl w3.heap.size w3
        repeat' (first | (refine lw_pure rfl (pv_move rfl) ?_) | (refine lw_pure rfl (pv_assign rfl) ?_) | (refine is_cw ?_; first | (refine cw_seq ?_) | (refine cw_region ?_) | (refine cw_false rfl rfl ?_) | (refine cw_block ?_)) | (refine is_qw ?_; first | (with_reducible refine qw_then ?_)) | (refine lw_nil ?_) | ((refine is_bin ?_; first | (refine lw_pure rfl (pv_quoz (b := 2) rfl rfl (by omega) (by omega)) ?_) | (refine lw_pure rfl (pv_eql rfl rfl) ?_))) | ((refine is_load ?_; first | (refine lw_pure rfl (pv_load (t1 rfl) rfl (by first | exact PT.ld0 HV rfl | exact PT.ld HV rfl)) ?_))) | ((refine is_fa ?_; first | (refine lw_pure rfl (pv_fa (tF rfl) rfl) ?_))) | ((refine is_ia ?_; first | (refine lw_pure rfl (pv_ian (tS rfl) rfl rfl (by omega)) ?_))))
        refine lw_store H2 (tZ rfl) rfl rfl rfl (by simp) ?_; intro w5 H22 hg hz
        have hO2 := (hO.num (9) (100) (4) (1099511627778)).st H2 hg
        have hw2 := st_hw hWk hg hN2
        repeat' (first | (refine is_qw ?_; first | (with_reducible refine qw_in ?_)) | (refine lw_nil ?_))
        exact qw_join ⟨_, T7, wNums⟩ (by repeat' (first | exact trivial | refine ⟨rfl, ?_⟩)) ⟨hw2, hO2.stR, H22, stOk_of k7.2, k7.1⟩
    repeat' ((fail_if_success (refine is_seqr 29 ?_)); first | (refine lw_pure rfl (pv_assign rfl) ?_) | (refine is_cw ?_; first | (refine cw_seq ?_) | (refine cw_region ?_) | (refine is_cd ?_; refine cw_false rfl (by first | assumption | exact decide_eq_false (by omega) | exact dec_notF (by omega)) ?_)) | (refine is_qw ?_; first | (with_reducible refine qw_then ?_)) | (refine lw_nil ?_) | ((refine is_bin ?_; first | (refine lw_pure rfl (pv_eql rfl rfl) ?_))))
    refine cw_sw (x := 30) rfl rfl rfl rfl rfl (fun e => ?_) (fun e => ?_)
    · obtain rfl : k = 8 := by omega
      skip
      skip
      refine cw_drawnF 5 (fun w' => Below w2.heap.size w2 w' ∧ True) (by kernel_rfl) (by repeat (first | exact NoPanic.body | with_reducible refine NoPanic.then ?_ | with_reducible refine NoPanic.inBlock ?_)) (fun hNP => ?_)
      have hU := And.intro hw.drew trivial
      first | (refine fw_take 0 rfl (by kernel_rfl) rfl rfl (by kernel_rfl) (by kernel_rfl) (by kernel_rfl) hNP hU rfl (fun w' hq => pv_fa (tF rfl) rfl) ?_)
      first | (refine fw_take 1 rfl (by kernel_rfl) rfl rfl (by kernel_rfl) (by kernel_rfl) (by kernel_rfl) hNP hU rfl (fun w' hq => pv_load (t1 rfl) rfl (by first | exact PT.ld0 hq.2 rfl | exact PT.ld hq.2 rfl)) ?_) | (refine fw_take 1 rfl (by kernel_rfl) rfl rfl (by kernel_rfl) (by kernel_rfl) (by kernel_rfl) hNP hU rfl (fun w' hq => pv_loada (tA rfl) rfl (by first | exact PT.lda hq.2) (by rfl)) ?_) | (refine fw_take 1 rfl (by kernel_rfl) rfl rfl (by kernel_rfl) (by kernel_rfl) (by kernel_rfl) hNP hU rfl (fun w' hq => pv_load (t1 rfl) rfl (by first | exact PT.ld0 (H2.mono hq.1) rfl | exact PT.ld (H2.mono hq.1) rfl)) ?_) | (refine fw_take 1 rfl (by kernel_rfl) rfl rfl (by kernel_rfl) (by kernel_rfl) (by kernel_rfl) hNP hU rfl (fun w' hq => pv_loada (tA rfl) rfl (by first | exact PT.lda (H2.mono hq.1)) (by rfl)) ?_)
      first | (refine fw_take 2 rfl (by kernel_rfl) rfl rfl (by kernel_rfl) (by kernel_rfl) (by kernel_rfl) hNP hU rfl (fun w' hq => pv_assign rfl) ?_)
      first | (refine fw_act 3 (by kernel_rfl) rfl rfl rfl ?_; refine act_pv (pv_ian (tS rfl) rfl rfl (by omega)) ?_; refine ⟨hU, fun hU => ?_⟩) | (refine fw_act 3 (by kernel_rfl) rfl rfl rfl ?_; refine act_pv (pv_ia (tS rfl) rfl rfl (by omega)) ?_; refine ⟨hU, fun hU => ?_⟩)
      first | (refine fw_take 4 rfl (by kernel_rfl) rfl rfl (by kernel_rfl) (by kernel_rfl) (by kernel_rfl) hNP hU rfl (fun w' hq => pv_fa (tF rfl) rfl) ?_)
      refine fw_last (by kernel_rfl) rfl rfl rfl rfl (by kernel_rfl) ?_
      obtain ⟨hw, -⟩ := hU; clear hNP
      refine act_storeF (i := 2) (f := 0) (a := accC) (u := ⟨⟨#[97]⟩, false⟩) encA_len (tZ rfl) rfl (by omega) rfl rfl (oA.mono hw) rfl rfl (by omega) ?_; intro wz oZ hg hz
      have hO2 := (hO.mo hw).toA oZ hg
      have H22 := pt_keptO (oA.mono hw) (H2.mono hw) (by decide) hg
      have hw2 := st_hw (grow_trans hWk hw) hg (Own.lt oA _ rfl).1
      repeat' (first | (refine is_qw ?_; first | (with_reducible refine qw_in ?_)))
      exact qw_join ⟨_, T8, wAccs⟩ (by repeat' (first | exact trivial | refine ⟨rfl, ?_⟩)) ⟨hw2, hO2.stR, H22, stOk_of k8.2, k8.1⟩
    refine cw_sw (x := 30) rfl rfl rfl rfl rfl (fun e => ?_) (fun e => ?_)
    · obtain rfl : k = 9 := by omega
      skip
      skip
      refine cw_drawnF 5 (fun w' => Below w2.heap.size w2 w' ∧ True) (by kernel_rfl) (by repeat (first | exact NoPanic.body | with_reducible refine NoPanic.then ?_ | with_reducible refine NoPanic.inBlock ?_)) (fun hNP => ?_)
      have hU := And.intro hw.drew trivial
      first | (refine fw_take 0 rfl (by kernel_rfl) rfl rfl (by kernel_rfl) (by kernel_rfl) (by kernel_rfl) hNP hU rfl (fun w' hq => pv_fa (tF rfl) rfl) ?_)
      first | (refine fw_take 1 rfl (by kernel_rfl) rfl rfl (by kernel_rfl) (by kernel_rfl) (by kernel_rfl) hNP hU rfl (fun w' hq => pv_load (t1 rfl) rfl (by first | exact PT.ld0 hq.2 rfl | exact PT.ld hq.2 rfl)) ?_) | (refine fw_take 1 rfl (by kernel_rfl) rfl rfl (by kernel_rfl) (by kernel_rfl) (by kernel_rfl) hNP hU rfl (fun w' hq => pv_loada (tA rfl) rfl (by first | exact PT.lda hq.2) (by rfl)) ?_) | (refine fw_take 1 rfl (by kernel_rfl) rfl rfl (by kernel_rfl) (by kernel_rfl) (by kernel_rfl) hNP hU rfl (fun w' hq => pv_load (t1 rfl) rfl (by first | exact PT.ld0 (H2.mono hq.1) rfl | exact PT.ld (H2.mono hq.1) rfl)) ?_) | (refine fw_take 1 rfl (by kernel_rfl) rfl rfl (by kernel_rfl) (by kernel_rfl) (by kernel_rfl) hNP hU rfl (fun w' hq => pv_loada (tA rfl) rfl (by first | exact PT.lda (H2.mono hq.1)) (by rfl)) ?_)
      first | (refine fw_take 2 rfl (by kernel_rfl) rfl rfl (by kernel_rfl) (by kernel_rfl) (by kernel_rfl) hNP hU rfl (fun w' hq => pv_assign rfl) ?_)
      first | (refine fw_act 3 (by kernel_rfl) rfl rfl rfl ?_; refine act_pv (pv_ian (tS rfl) rfl rfl (by omega)) ?_; refine ⟨hU, fun hU => ?_⟩) | (refine fw_act 3 (by kernel_rfl) rfl rfl rfl ?_; refine act_pv (pv_ia (tS rfl) rfl rfl (by omega)) ?_; refine ⟨hU, fun hU => ?_⟩)
      first | (refine fw_take 4 rfl (by kernel_rfl) rfl rfl (by kernel_rfl) (by kernel_rfl) (by kernel_rfl) hNP hU rfl (fun w' hq => pv_fa (tF rfl) rfl) ?_)
      refine fw_last (by kernel_rfl) rfl rfl rfl rfl (by kernel_rfl) ?_
      obtain ⟨hw, -⟩ := hU; clear hNP
      refine act_storeF (i := 2) (f := 0) (a := accC) (u := ⟨⟨#[]⟩, false⟩) encA_len (tZ rfl) rfl (by omega) rfl rfl (oA.mono hw) rfl rfl (by omega) ?_; intro wz oZ hg hz
      have hO2 := (hO.mo hw).toA oZ hg
      have H22 := pt_keptO (oA.mono hw) (H2.mono hw) (by decide) hg
      have hw2 := st_hw (grow_trans hWk hw) hg (Own.lt oA _ rfl).1
      repeat' (first | (refine is_qw ?_; first | (with_reducible refine qw_in ?_)))
      exact qw_join ⟨_, T9, wAccs⟩ (by repeat' (first | exact trivial | refine ⟨rfl, ?_⟩)) ⟨hw2, hO2.stR, H22, stOk_of k9.2, k9.1⟩
    refine cw_sw (x := 30) rfl rfl rfl rfl rfl (fun e => ?_) (fun e => ?_)
    · obtain rfl : k = 10 := by omega
      skip
      skip
      refine cw_drawnF 5 (fun w' => Below w2.heap.size w2 w' ∧ True) (by kernel_rfl) (by repeat (first | exact NoPanic.body | with_reducible refine NoPanic.then ?_ | with_reducible refine NoPanic.inBlock ?_)) (fun hNP => ?_)
      have hU := And.intro hw.drew trivial
      first | (refine fw_take 0 rfl (by kernel_rfl) rfl rfl (by kernel_rfl) (by kernel_rfl) (by kernel_rfl) hNP hU rfl (fun w' hq => pv_fa (tF rfl) rfl) ?_)
      first | (refine fw_take 1 rfl (by kernel_rfl) rfl rfl (by kernel_rfl) (by kernel_rfl) (by kernel_rfl) hNP hU rfl (fun w' hq => pv_load (t1 rfl) rfl (by first | exact PT.ld0 hq.2 rfl | exact PT.ld hq.2 rfl)) ?_) | (refine fw_take 1 rfl (by kernel_rfl) rfl rfl (by kernel_rfl) (by kernel_rfl) (by kernel_rfl) hNP hU rfl (fun w' hq => pv_loada (tA rfl) rfl (by first | exact PT.lda hq.2) (by rfl)) ?_) | (refine fw_take 1 rfl (by kernel_rfl) rfl rfl (by kernel_rfl) (by kernel_rfl) (by kernel_rfl) hNP hU rfl (fun w' hq => pv_load (t1 rfl) rfl (by first | exact PT.ld0 (H2.mono hq.1) rfl | exact PT.ld (H2.mono hq.1) rfl)) ?_) | (refine fw_take 1 rfl (by kernel_rfl) rfl rfl (by kernel_rfl) (by kernel_rfl) (by kernel_rfl) hNP hU rfl (fun w' hq => pv_loada (tA rfl) rfl (by first | exact PT.lda (H2.mono hq.1)) (by rfl)) ?_)
      first | (refine fw_take 2 rfl (by kernel_rfl) rfl rfl (by kernel_rfl) (by kernel_rfl) (by kernel_rfl) hNP hU rfl (fun w' hq => pv_assign rfl) ?_)
      first | (refine fw_act 3 (by kernel_rfl) rfl rfl rfl ?_; refine act_pv (pv_ian (tS rfl) rfl rfl (by omega)) ?_; refine ⟨hU, fun hU => ?_⟩) | (refine fw_act 3 (by kernel_rfl) rfl rfl rfl ?_; refine act_pv (pv_ia (tS rfl) rfl rfl (by omega)) ?_; refine ⟨hU, fun hU => ?_⟩)
      first | (refine fw_take 4 rfl (by kernel_rfl) rfl rfl (by kernel_rfl) (by kernel_rfl) (by kernel_rfl) hNP hU rfl (fun w' hq => pv_fa (tF rfl) rfl) ?_)
      refine fw_last (by kernel_rfl) rfl rfl rfl rfl (by kernel_rfl) ?_
      obtain ⟨hw, -⟩ := hU; clear hNP
      refine act_storeF (i := 2) (f := 0) (a := accC) (u := ⟨⟨#[65]⟩, false⟩) encA_len (tZ rfl) rfl (by omega) rfl rfl (oA.mono hw) rfl rfl (by omega) ?_; intro wz oZ hg hz
      have hO2 := (hO.mo hw).toA oZ hg
      have H22 := pt_keptO (oA.mono hw) (H2.mono hw) (by decide) hg
      have hw2 := st_hw (grow_trans hWk hw) hg (Own.lt oA _ rfl).1
      repeat' (first | (refine is_qw ?_; first | (with_reducible refine qw_in ?_)))
      exact qw_join ⟨_, T10, wAccs⟩ (by repeat' (first | exact trivial | refine ⟨rfl, ?_⟩)) ⟨hw2, hO2.stR, H22, stOk_of k10.2, k10.1⟩
    refine cw_sw (x := 30) rfl rfl rfl rfl rfl (fun e => ?_) (fun e => ?_)
    · obtain rfl : k = 11 := by omega
      skip
      have hz3 : ∀ x ∈ [accA, accB, accC], x.name.size ≤ 1000 := by decide
      repeat' (first | (refine lw_pure rfl (pv_assign rfl) ?_) | (refine is_cw ?_; first | (refine cw_seq ?_) | (refine cw_region ?_) | (refine cw_block ?_)) | (refine is_qw ?_; first | (with_reducible refine qw_then ?_)) | (refine lw_nil ?_))
      refine cw_loop (σ := Nat × Nat × Nat × List Acc) (fun q => [(1, .int .i64 ((11 : Nat) : Int)), (2, .pointer (some ⟨N2, 0, none⟩)), (3, .string wAccs)]) (fun q wr => q.1 ≤ 62 ∧ Below wk.heap.size wk wr ∧ OwS wk.heap.size wr ⟨9, 100, 4, 8, some ⟨q.2.1, 0, none⟩, q.2.2.2.length, q.2.2.1, some ⟨gI, 0, none⟩, 1, 1, some ⟨gR, 0, none⟩, 6, 6, some ⟨gO, 0, none⟩, 2, 2, some ⟨gX, 0, none⟩, 2, cX⟩ { fullT with accs := q.2.2.2 } (fullX g1 g2) ∧ PT wr N2 30 [.int .i64 9, .int .i64 100, .int .i64 4, .int .i64 8, .slice (some ⟨q.2.1, 0, none⟩) q.2.2.2.length q.2.2.1, .slice (some ⟨gI, 0, none⟩) 1 1, .slice (some ⟨gR, 0, none⟩) 6 6, .slice (some ⟨gO, 0, none⟩) 2 2, .slice (some ⟨gX, 0, none⟩) 2 cX] ∧ q.2.2.2.length = 3 + q.1 ∧ ∀ x ∈ q.2.2.2, x.name.size ≤ 1000) (fun q => 62 - q.1) (0, gA, cA, [accA, accB, accC]) (by repeat' (first | exact trivial | refine ⟨rfl, ?_⟩)) ⟨Nat.zero_le _, hWk, hO, H2, rfl, hz3⟩ ?_
      clear hw hO H2 oA oI oR oO oX oD SX SI SR hx0 hb0 hi0 hr2 hr3 hWk h7 hk hlt e
      rintro ⟨m, gA, cA, l⟩ wr ⟨hm, hWr, hO, H2, hl, hsz⟩
      dsimp only at hm hO H2 hl hsz
      change CW _ _ _ _ [(1, .int .i64 ((11 : Nat) : Int)), (2, .pointer (some ⟨N2, 0, none⟩)), (3, .string wAccs)] wr
      have hw := Below.refl wr.heap.size wr
      by_cases hlm : m < 62
      · have hla := (own_sl encA_len hO.A).2.le
        have hma := (own_sl encA_len hO.A).2.max
        repeat' (first | (refine is_cw ?_; first | (refine cw_seq ?_) | (refine cw_region ?_) | (refine is_cd ?_; refine cw_true rfl (by first | assumption | exact decide_eq_true (by omega) | exact dec_notT (by omega)) ?_) | (refine cw_skip ?_) | (refine cw_block ?_)) | (refine is_qw ?_; first | (with_reducible refine qw_then ?_)) | (refine lw_nil ?_) | ((refine is_bin ?_; first | (refine lw_pure rfl (pv_quoz (b := 10) rfl rfl (by omega) (by omega)) ?_) | (refine lw_pure rfl (pv_remz (b := 10) rfl rfl (by omega)) ?_) | (refine lw_pure rfl (pv_leq rfl rfl) ?_) | (refine lw_pure rfl (pv_add rfl rfl (by omega)) ?_))) | ((refine is_load ?_; first | (refine lw_pure rfl (pv_load (t1 rfl) rfl (by first | exact PT.ld0 (H2.mono hw) rfl | exact PT.ld (H2.mono hw) rfl)) ?_))) | ((refine is_fa ?_; first | (refine lw_pure rfl (pv_fa (tF rfl) rfl) ?_))) | ((refine is_bi ?_; first | (refine lw_pure rfl (pv_lenl (tS rfl) rfl) ?_))) | (refine is_cv ?_; refine lw_pure rfl (pv_convb (tCv rfl rfl) rfl (by omega)) ?_))
        refine lw_bsN (vs := [.int .u8 (48 + ((l.length / 10 : Nat) : Int)), .int .u8 (48 + ((l.length % 10 : Nat) : Int))]) (cs := [.int .u8 (48 + ((l.length / 10 : Nat) : Int)), .int .u8 (48 + ((l.length % 10 : Nat) : Int))]) elemBy rfl rfl rfl (by omega) (by omega) rfl (by intro v hv; simp at hv; rcases hv with rfl | rfl <;> rfl) ?_; intro N5 w5 hN5 H5 hb
        have HS : SlR encB 1 w5 (some ⟨N5, 0, none⟩) 2 [48 + ((l.length / 10 : Nat) : Int), 48 + ((l.length % 10 : Nat) : Int)] := H5.slR (xs := [48 + ((l.length / 10 : Nat) : Int), 48 + ((l.length % 10 : Nat) : Int)]) encB_len rfl (by omega)
        replace hO := hO.mo hb
        replace H2 := H2.mono hb
        replace hWr := grow_trans hWr hb
        clear hb hw
        have hw := Below.refl w5.heap.size w5
        have hl2 : [48 + ((l.length / 10 : Nat) : Int), 48 + ((l.length % 10 : Nat) : Int)].length = 2 := rfl
        have hss := strOfNums_size [48 + ((l.length / 10 : Nat) : Int), 48 + ((l.length % 10 : Nat) : Int)]
        obtain ⟨s, hs⟩ : ∃ s, strOfNums [48 + ((l.length / 10 : Nat) : Int), 48 + ((l.length % 10 : Nat) : Int)] = s := ⟨_, rfl⟩
        rw [hs] at hss
        have hss2 : s.size = 2 := hss
        have h1 : (⟨#[120]⟩ : ByteArray).size = 1 := rfl
        have hc1 : (⟨#[120]⟩ : ByteArray).size + s.size ≤ 9223372036854775807 := by omega
        repeat' (first | (refine is_cv ?_; refine lw_pure rfl (pv_b2sR HS hl2 rfl) ?_))
        rw [hs]
        repeat' (first | ((refine is_bin ?_; first | (refine lw_pure rfl (pv_cat rfl rfl hc1) ?_))) | ((refine is_bd ?_; first | (refine lw_pure rfl (tyB_34 rfl rfl rfl) ?_))))
        have hsn : ((⟨#[120]⟩ : ByteArray) ++ s).size ≤ 1000 := by rw [ByteArray.size_append]; omega
        generalize (⟨#[120]⟩ : ByteArray) ++ s = nm at hsn ⊢
        refine lw_bsN (vs := [.agg (encA ⟨nm, false⟩).toArray]) (cs := encA ⟨nm, false⟩) elemA rfl rfl rfl (by omega) (by omega) rfl (by simp [Value.cells, encA]) ?_; intro N6 w6 hN6 H6 hb
        replace hO := hO.mo hb
        replace H2 := H2.mono hb
        replace hWr := grow_trans hWr hb
        clear hb hw
        have hw := Below.refl w6.heap.size w6
        skip
        have oA := hO.A
        dsimp only at oA
        refine lw_app elemA encA_len encA_one rfl rfl rfl oA (H6.slR (xs := [(⟨nm, false⟩ : Acc)]) encA_len rfl (by omega)) rfl hWr.size (by simp; omega) (by simp [maxLen]; omega) ?_; intro vm w7 oM hg hb
        obtain ⟨aA, cB, rfl⟩ := own_shape encA_len oM
        obtain ⟨gB, rfl⟩ := own_some oM (by simp)
        replace H2 := pt_keptO oA H2 (by decide) hg
        replace hO := hO.toA oM hg
        replace hWr := hWr.trans hb
        clear hg hb hw oA
        have hw := Below.refl w7.heap.size w7
        repeat' (first | ((refine is_fa ?_; first | (refine lw_pure rfl (pv_fa (tF rfl) rfl) ?_))))
        refine lw_store H2 (tZ rfl) rfl rfl rfl (by simp) ?_; intro w8 H8 hg hz
        replace H8 : PT w8 N2 30 [.int .i64 9, .int .i64 100, .int .i64 4, .int .i64 8, .slice (some ⟨gB, 0, none⟩) (l ++ [(⟨nm, false⟩ : Acc)]).length cB, .slice (some ⟨gI, 0, none⟩) 1 1, .slice (some ⟨gR, 0, none⟩) 6 6, .slice (some ⟨gO, 0, none⟩) 2 2, .slice (some ⟨gX, 0, none⟩) 2 cX] := H8
        have hO8 := hO.st H2 hg
        have hw8 := st_hw hWr hg hN2
        repeat' (first | (refine is_qw ?_; first | (with_reducible refine qw_in ?_)) | (refine lw_nil ?_))
        exact qw_round (m + 1, gB, cB, l ++ [(⟨nm, false⟩ : Acc)]) (by repeat' (first | exact trivial | refine ⟨rfl, ?_⟩)) ⟨by show m + 1 ≤ 62; omega, hw8, hO8, H8, by simp; omega, fun x hx => by
          rcases List.mem_append.1 hx with h | h
          · exact hsz x h
          · rw [List.mem_singleton] at h; subst h; exact hsn⟩ (by show 62 - (m + 1) < 62 - m; omega)
      repeat' (first | (refine is_cw ?_; first | (refine cw_seq ?_) | (refine cw_region ?_) | (refine is_cd ?_; refine cw_false rfl (by first | assumption | exact decide_eq_false (by omega) | exact dec_notF (by omega)) ?_) | (refine cw_exit ?_)) | (refine is_qw ?_; first | (with_reducible refine qw_then ?_) | (with_reducible refine qw_in ?_) | (with_reducible refine qw_in_hit ?_) | (with_reducible refine qw_then_exit ?_)) | (refine lw_nil ?_) | ((refine is_bin ?_; first | (refine lw_pure rfl (pv_leq rfl rfl) ?_))) | ((refine is_load ?_; first | (refine lw_pure rfl (pv_load (t1 rfl) rfl (by first | exact PT.ld0 (H2.mono hw) rfl | exact PT.ld (H2.mono hw) rfl)) ?_))) | ((refine is_fa ?_; first | (refine lw_pure rfl (pv_fa (tF rfl) rfl) ?_))) | ((refine is_bi ?_; first | (refine lw_pure rfl (pv_lenl (tS rfl) rfl) ?_))))
      exact qw_join ⟨_, { fullT with accs := l }, wAccs⟩ (by repeat' (first | exact trivial | refine ⟨rfl, ?_⟩)) ⟨hWr, hO.stR, H2, stOk_acc hsz (by omega), check_many rfl (by show 64 < l.length; omega)⟩
    refine cw_sw (x := 30) rfl rfl rfl rfl rfl (fun e => ?_) (fun e => ?_)
    · obtain rfl : k = 12 := by omega
      skip
      skip
      refine cw_drawnF 5 (fun w' => Below w2.heap.size w2 w' ∧ True) (by kernel_rfl) (by repeat (first | exact NoPanic.body | with_reducible refine NoPanic.then ?_ | with_reducible refine NoPanic.inBlock ?_)) (fun hNP => ?_)
      have hU := And.intro hw.drew trivial
      first | (refine fw_take 0 rfl (by kernel_rfl) rfl rfl (by kernel_rfl) (by kernel_rfl) (by kernel_rfl) hNP hU rfl (fun w' hq => pv_fa (tF rfl) rfl) ?_)
      first | (refine fw_take 1 rfl (by kernel_rfl) rfl rfl (by kernel_rfl) (by kernel_rfl) (by kernel_rfl) hNP hU rfl (fun w' hq => pv_load (t1 rfl) rfl (by first | exact PT.ld0 hq.2 rfl | exact PT.ld hq.2 rfl)) ?_) | (refine fw_take 1 rfl (by kernel_rfl) rfl rfl (by kernel_rfl) (by kernel_rfl) (by kernel_rfl) hNP hU rfl (fun w' hq => pv_loada (tA rfl) rfl (by first | exact PT.lda hq.2) (by rfl)) ?_) | (refine fw_take 1 rfl (by kernel_rfl) rfl rfl (by kernel_rfl) (by kernel_rfl) (by kernel_rfl) hNP hU rfl (fun w' hq => pv_load (t1 rfl) rfl (by first | exact PT.ld0 (H2.mono hq.1) rfl | exact PT.ld (H2.mono hq.1) rfl)) ?_) | (refine fw_take 1 rfl (by kernel_rfl) rfl rfl (by kernel_rfl) (by kernel_rfl) (by kernel_rfl) hNP hU rfl (fun w' hq => pv_loada (tA rfl) rfl (by first | exact PT.lda (H2.mono hq.1)) (by rfl)) ?_)
      first | (refine fw_take 2 rfl (by kernel_rfl) rfl rfl (by kernel_rfl) (by kernel_rfl) (by kernel_rfl) hNP hU rfl (fun w' hq => pv_assign rfl) ?_)
      first | (refine fw_act 3 (by kernel_rfl) rfl rfl rfl ?_; refine act_pv (pv_ian (tS rfl) rfl rfl (by omega)) ?_; refine ⟨hU, fun hU => ?_⟩) | (refine fw_act 3 (by kernel_rfl) rfl rfl rfl ?_; refine act_pv (pv_ia (tS rfl) rfl rfl (by omega)) ?_; refine ⟨hU, fun hU => ?_⟩)
      first | (refine fw_take 4 rfl (by kernel_rfl) rfl rfl (by kernel_rfl) (by kernel_rfl) (by kernel_rfl) hNP hU rfl (fun w' hq => pv_fa (tF rfl) rfl) ?_)
      refine fw_last (by kernel_rfl) rfl rfl rfl rfl (by kernel_rfl) ?_
      obtain ⟨hw, -⟩ := hU; clear hNP
      refine act_storeF (i := 0) (f := 1) (a := insG) (u := ⟨⟨#[103, 111, 108, 100]⟩, 0, false⟩) encN_len (tZ rfl) rfl (by omega) rfl rfl (oI.mono hw) rfl rfl (by omega) ?_; intro wz oZ hg hz
      have hO2 := (hO.mo hw).toI oZ hg
      have H22 := pt_keptO (oI.mono hw) (H2.mono hw) (by decide) hg
      have hw2 := st_hw (grow_trans hWk hw) hg (Own.lt oI _ rfl).1
      repeat' (first | (refine is_qw ?_; first | (with_reducible refine qw_in ?_)))
      exact qw_join ⟨_, T12, wInss⟩ (by repeat' (first | exact trivial | refine ⟨rfl, ?_⟩)) ⟨hw2, hO2.stR, H22, stOk_of k12.2, k12.1⟩
    refine cw_sw (x := 30) rfl rfl rfl rfl rfl (fun e => ?_) (fun e => ?_)
    · obtain rfl : k = 13 := by omega
      skip
      skip
      refine cw_drawnF 5 (fun w' => Below w2.heap.size w2 w' ∧ True) (by kernel_rfl) (by repeat (first | exact NoPanic.body | with_reducible refine NoPanic.then ?_ | with_reducible refine NoPanic.inBlock ?_)) (fun hNP => ?_)
      have hU := And.intro hw.drew trivial
      first | (refine fw_take 0 rfl (by kernel_rfl) rfl rfl (by kernel_rfl) (by kernel_rfl) (by kernel_rfl) hNP hU rfl (fun w' hq => pv_fa (tF rfl) rfl) ?_)
      first | (refine fw_take 1 rfl (by kernel_rfl) rfl rfl (by kernel_rfl) (by kernel_rfl) (by kernel_rfl) hNP hU rfl (fun w' hq => pv_load (t1 rfl) rfl (by first | exact PT.ld0 hq.2 rfl | exact PT.ld hq.2 rfl)) ?_) | (refine fw_take 1 rfl (by kernel_rfl) rfl rfl (by kernel_rfl) (by kernel_rfl) (by kernel_rfl) hNP hU rfl (fun w' hq => pv_loada (tA rfl) rfl (by first | exact PT.lda hq.2) (by rfl)) ?_) | (refine fw_take 1 rfl (by kernel_rfl) rfl rfl (by kernel_rfl) (by kernel_rfl) (by kernel_rfl) hNP hU rfl (fun w' hq => pv_load (t1 rfl) rfl (by first | exact PT.ld0 (H2.mono hq.1) rfl | exact PT.ld (H2.mono hq.1) rfl)) ?_) | (refine fw_take 1 rfl (by kernel_rfl) rfl rfl (by kernel_rfl) (by kernel_rfl) (by kernel_rfl) hNP hU rfl (fun w' hq => pv_loada (tA rfl) rfl (by first | exact PT.lda (H2.mono hq.1)) (by rfl)) ?_)
      first | (refine fw_take 2 rfl (by kernel_rfl) rfl rfl (by kernel_rfl) (by kernel_rfl) (by kernel_rfl) hNP hU rfl (fun w' hq => pv_assign rfl) ?_)
      first | (refine fw_act 3 (by kernel_rfl) rfl rfl rfl ?_; refine act_pv (pv_ian (tS rfl) rfl rfl (by omega)) ?_; refine ⟨hU, fun hU => ?_⟩) | (refine fw_act 3 (by kernel_rfl) rfl rfl rfl ?_; refine act_pv (pv_ia (tS rfl) rfl rfl (by omega)) ?_; refine ⟨hU, fun hU => ?_⟩)
      first | (refine fw_take 4 rfl (by kernel_rfl) rfl rfl (by kernel_rfl) (by kernel_rfl) (by kernel_rfl) hNP hU rfl (fun w' hq => pv_fa (tF rfl) rfl) ?_)
      refine fw_last (by kernel_rfl) rfl rfl rfl rfl (by kernel_rfl) ?_
      obtain ⟨hw, -⟩ := hU; clear hNP
      refine act_storeF (i := 0) (f := 1) (a := insG) (u := ⟨⟨#[103, 111, 108, 100]⟩, 1073741825, false⟩) encN_len (tZ rfl) rfl (by omega) rfl rfl (oI.mono hw) rfl rfl (by omega) ?_; intro wz oZ hg hz
      have hO2 := (hO.mo hw).toI oZ hg
      have H22 := pt_keptO (oI.mono hw) (H2.mono hw) (by decide) hg
      have hw2 := st_hw (grow_trans hWk hw) hg (Own.lt oI _ rfl).1
      repeat' (first | (refine is_qw ?_; first | (with_reducible refine qw_in ?_)))
      exact qw_join ⟨_, T13, wInss⟩ (by repeat' (first | exact trivial | refine ⟨rfl, ?_⟩)) ⟨hw2, hO2.stR, H22, stOk_of k13.2, k13.1⟩
    refine cw_sw (x := 30) rfl rfl rfl rfl rfl (fun e => ?_) (fun e => ?_)
    · obtain rfl : k = 14 := by omega
      skip
      repeat' (first | (refine lw_pure rfl (pv_assign rfl) ?_) | (refine is_cw ?_; first | (refine cw_seq ?_) | (refine cw_region ?_)) | (refine is_qw ?_; first | (with_reducible refine qw_then ?_)) | (refine lw_nil ?_))
      refine cw_drawnF 9 (fun w' => Below w2.heap.size w2 w' ∧ True) (by kernel_rfl) (by repeat (first | exact NoPanic.body | with_reducible refine NoPanic.then ?_ | with_reducible refine NoPanic.inBlock ?_)) (fun hNP => ?_)
      have hU := And.intro hw.drew trivial
      first | (refine fw_take 0 rfl (by kernel_rfl) rfl rfl (by kernel_rfl) (by kernel_rfl) (by kernel_rfl) hNP hU rfl (fun w' hq => pv_fa (tF rfl) rfl) ?_)
      first | (refine fw_take 1 rfl (by kernel_rfl) rfl rfl (by kernel_rfl) (by kernel_rfl) (by kernel_rfl) hNP hU rfl (fun w' hq => pv_load (t1 rfl) rfl (by first | exact PT.ld0 hq.2 rfl | exact PT.ld hq.2 rfl)) ?_) | (refine fw_take 1 rfl (by kernel_rfl) rfl rfl (by kernel_rfl) (by kernel_rfl) (by kernel_rfl) hNP hU rfl (fun w' hq => pv_loada (tA rfl) rfl (by first | exact PT.lda hq.2) (by rfl)) ?_) | (refine fw_take 1 rfl (by kernel_rfl) rfl rfl (by kernel_rfl) (by kernel_rfl) (by kernel_rfl) hNP hU rfl (fun w' hq => pv_load (t1 rfl) rfl (by first | exact PT.ld0 (H2.mono hq.1) rfl | exact PT.ld (H2.mono hq.1) rfl | exact SlR.ld (SI.mono hq.1) hi0 rfl | exact SlR.ld1 (SI.mono hq.1) hi0 rfl)) ?_) | (refine fw_take 1 rfl (by kernel_rfl) rfl rfl (by kernel_rfl) (by kernel_rfl) (by kernel_rfl) hNP hU rfl (fun w' hq => pv_loada (tA rfl) rfl (by first | exact PT.lda (H2.mono hq.1) | exact SlR.lda (SI.mono hq.1) hi0) (by rfl)) ?_)
      first | (refine fw_take 2 rfl (by kernel_rfl) rfl rfl (by kernel_rfl) (by kernel_rfl) (by kernel_rfl) hNP hU rfl (fun w' hq => pv_fa (tF rfl) rfl) ?_)
      first | (refine fw_take 3 rfl (by kernel_rfl) rfl rfl (by kernel_rfl) (by kernel_rfl) (by kernel_rfl) hNP hU rfl (fun w' hq => pv_load (t1 rfl) rfl (by first | exact PT.ld0 hq.2 rfl | exact PT.ld hq.2 rfl)) ?_) | (refine fw_take 3 rfl (by kernel_rfl) rfl rfl (by kernel_rfl) (by kernel_rfl) (by kernel_rfl) hNP hU rfl (fun w' hq => pv_loada (tA rfl) rfl (by first | exact PT.lda hq.2) (by rfl)) ?_) | (refine fw_take 3 rfl (by kernel_rfl) rfl rfl (by kernel_rfl) (by kernel_rfl) (by kernel_rfl) hNP hU rfl (fun w' hq => pv_load (t1 rfl) rfl (by first | exact PT.ld0 (H2.mono hq.1) rfl | exact PT.ld (H2.mono hq.1) rfl | exact SlR.ld (SI.mono hq.1) hi0 rfl | exact SlR.ld1 (SI.mono hq.1) hi0 rfl)) ?_) | (refine fw_take 3 rfl (by kernel_rfl) rfl rfl (by kernel_rfl) (by kernel_rfl) (by kernel_rfl) hNP hU rfl (fun w' hq => pv_loada (tA rfl) rfl (by first | exact PT.lda (H2.mono hq.1) | exact SlR.lda (SI.mono hq.1) hi0) (by rfl)) ?_)
      first | (refine fw_take 4 rfl (by kernel_rfl) rfl rfl (by kernel_rfl) (by kernel_rfl) (by kernel_rfl) hNP hU rfl (fun w' hq => pv_ian (tS rfl) rfl rfl (by omega)) ?_) | (refine fw_take 4 rfl (by kernel_rfl) rfl rfl (by kernel_rfl) (by kernel_rfl) (by kernel_rfl) hNP hU rfl (fun w' hq => pv_ia (tS rfl) rfl rfl (by omega)) ?_)
      first | (refine fw_take 5 rfl (by kernel_rfl) rfl rfl (by kernel_rfl) (by kernel_rfl) (by kernel_rfl) hNP hU rfl (fun w' hq => pv_load (t1 rfl) rfl (by first | exact PT.ld0 hq.2 rfl | exact PT.ld hq.2 rfl)) ?_) | (refine fw_take 5 rfl (by kernel_rfl) rfl rfl (by kernel_rfl) (by kernel_rfl) (by kernel_rfl) hNP hU rfl (fun w' hq => pv_loada (tA rfl) rfl (by first | exact PT.lda hq.2) (by rfl)) ?_) | (refine fw_take 5 rfl (by kernel_rfl) rfl rfl (by kernel_rfl) (by kernel_rfl) (by kernel_rfl) hNP hU rfl (fun w' hq => pv_load (t1 rfl) rfl (by first | exact PT.ld0 (H2.mono hq.1) rfl | exact PT.ld (H2.mono hq.1) rfl | exact SlR.ld (SI.mono hq.1) hi0 rfl | exact SlR.ld1 (SI.mono hq.1) hi0 rfl)) ?_) | (refine fw_take 5 rfl (by kernel_rfl) rfl rfl (by kernel_rfl) (by kernel_rfl) (by kernel_rfl) hNP hU rfl (fun w' hq => pv_loada (tA rfl) rfl (by first | exact PT.lda (H2.mono hq.1) | exact SlR.lda (SI.mono hq.1) hi0) (by rfl)) ?_)
      refine fw_act 6 (by kernel_rfl) rfl rfl rfl ?_
      refine act_bs (vs := [.agg (encN insG).toArray]) (cs := encN insG) elemIn rfl rfl (by omega) (by omega) rfl (by simp [Value.cells, encN]) ?_; intro wb HB hbb; refine ⟨⟨grow_trans hU.1 hbb, trivial⟩, fun hU => ?_⟩
      refine fw_act 7 (by kernel_rfl) rfl rfl rfl ?_
      refine act_appf elemIn encN_len encN_one rfl rfl (SI.mono hU.1) (HB.slR (xs := [insG]) encN_len rfl (by omega)) rfl rfl (by simp) (by simp) (by simp [maxLen]) ?_; intro v7 wc oC hbc; obtain ⟨aI, cI, rfl⟩ := own_shapeM (m := 2) encN_len oC rfl; replace oC := oC.weaken (Nat.le_trans hWk.size hU.1.size); refine ⟨⟨grow_trans hU.1 hbc, trivial⟩, fun hU => ?_⟩
      first | (refine fw_take 8 rfl (by kernel_rfl) rfl rfl (by kernel_rfl) (by kernel_rfl) (by kernel_rfl) hNP hU rfl (fun w' hq => pv_fa (tF rfl) rfl) ?_)
      refine fw_last (by kernel_rfl) rfl rfl rfl rfl (by kernel_rfl) ?_
      obtain ⟨hw, -⟩ := hU; clear hNP
      refine act_store (H2.mono hw) (tZ rfl) rfl rfl rfl (by simp) ?_; intro wz H22 hg hz
      have hO2 := ((hO.mo hw).nI oC).st (H2.mono hw) hg
      have hw2 := st_hw (grow_trans hWk hw) hg hN2
      repeat' (first | (refine is_qw ?_; first | (with_reducible refine qw_in ?_)))
      exact qw_join ⟨_, T14, wInss⟩ (by repeat' (first | exact trivial | refine ⟨rfl, ?_⟩)) ⟨hw2, hO2.stR, H22, stOk_of k14.2, k14.1⟩
    refine cw_sw (x := 30) rfl rfl rfl rfl rfl (fun e => ?_) (fun e => ?_)
    · obtain rfl : k = 15 := by omega
      skip
      skip
      refine cw_drawnF 5 (fun w' => Below w2.heap.size w2 w' ∧ True) (by kernel_rfl) (by repeat (first | exact NoPanic.body | with_reducible refine NoPanic.then ?_ | with_reducible refine NoPanic.inBlock ?_)) (fun hNP => ?_)
      have hU := And.intro hw.drew trivial
      first | (refine fw_take 0 rfl (by kernel_rfl) rfl rfl (by kernel_rfl) (by kernel_rfl) (by kernel_rfl) hNP hU rfl (fun w' hq => pv_fa (tF rfl) rfl) ?_)
      first | (refine fw_take 1 rfl (by kernel_rfl) rfl rfl (by kernel_rfl) (by kernel_rfl) (by kernel_rfl) hNP hU rfl (fun w' hq => pv_load (t1 rfl) rfl (by first | exact PT.ld0 hq.2 rfl | exact PT.ld hq.2 rfl)) ?_) | (refine fw_take 1 rfl (by kernel_rfl) rfl rfl (by kernel_rfl) (by kernel_rfl) (by kernel_rfl) hNP hU rfl (fun w' hq => pv_loada (tA rfl) rfl (by first | exact PT.lda hq.2) (by rfl)) ?_) | (refine fw_take 1 rfl (by kernel_rfl) rfl rfl (by kernel_rfl) (by kernel_rfl) (by kernel_rfl) hNP hU rfl (fun w' hq => pv_load (t1 rfl) rfl (by first | exact PT.ld0 (H2.mono hq.1) rfl | exact PT.ld (H2.mono hq.1) rfl)) ?_) | (refine fw_take 1 rfl (by kernel_rfl) rfl rfl (by kernel_rfl) (by kernel_rfl) (by kernel_rfl) hNP hU rfl (fun w' hq => pv_loada (tA rfl) rfl (by first | exact PT.lda (H2.mono hq.1)) (by rfl)) ?_)
      first | (refine fw_take 2 rfl (by kernel_rfl) rfl rfl (by kernel_rfl) (by kernel_rfl) (by kernel_rfl) hNP hU rfl (fun w' hq => pv_assign rfl) ?_)
      first | (refine fw_act 3 (by kernel_rfl) rfl rfl rfl ?_; refine act_pv (pv_ian (tS rfl) rfl rfl (by omega)) ?_; refine ⟨hU, fun hU => ?_⟩) | (refine fw_act 3 (by kernel_rfl) rfl rfl rfl ?_; refine act_pv (pv_ia (tS rfl) rfl rfl (by omega)) ?_; refine ⟨hU, fun hU => ?_⟩)
      first | (refine fw_take 4 rfl (by kernel_rfl) rfl rfl (by kernel_rfl) (by kernel_rfl) (by kernel_rfl) hNP hU rfl (fun w' hq => pv_fa (tF rfl) rfl) ?_)
      refine fw_last (by kernel_rfl) rfl rfl rfl rfl (by kernel_rfl) ?_
      obtain ⟨hw, -⟩ := hU; clear hNP
      refine act_storeF (i := 0) (f := 0) (a := insG) (u := ⟨⟨#[63]⟩, 2, false⟩) encN_len (tZ rfl) rfl (by omega) rfl rfl (oI.mono hw) rfl rfl (by omega) ?_; intro wz oZ hg hz
      have hO2 := (hO.mo hw).toI oZ hg
      have H22 := pt_keptO (oI.mono hw) (H2.mono hw) (by decide) hg
      have hw2 := st_hw (grow_trans hWk hw) hg (Own.lt oI _ rfl).1
      repeat' (first | (refine is_qw ?_; first | (with_reducible refine qw_in ?_)))
      exact qw_join ⟨_, T15, wInss⟩ (by repeat' (first | exact trivial | refine ⟨rfl, ?_⟩)) ⟨hw2, hO2.stR, H22, stOk_of k15.2, k15.1⟩
    refine cw_sw (x := 30) rfl rfl rfl rfl rfl (fun e => ?_) (fun e => ?_)
    · obtain rfl : k = 16 := by omega
      skip
      skip
      refine cw_drawnF 5 (fun w' => Below w2.heap.size w2 w' ∧ True) (by kernel_rfl) (by repeat (first | exact NoPanic.body | with_reducible refine NoPanic.then ?_ | with_reducible refine NoPanic.inBlock ?_)) (fun hNP => ?_)
      have hU := And.intro hw.drew trivial
      first | (refine fw_take 0 rfl (by kernel_rfl) rfl rfl (by kernel_rfl) (by kernel_rfl) (by kernel_rfl) hNP hU rfl (fun w' hq => pv_fa (tF rfl) rfl) ?_)
      first | (refine fw_take 1 rfl (by kernel_rfl) rfl rfl (by kernel_rfl) (by kernel_rfl) (by kernel_rfl) hNP hU rfl (fun w' hq => pv_load (t1 rfl) rfl (by first | exact PT.ld0 hq.2 rfl | exact PT.ld hq.2 rfl)) ?_) | (refine fw_take 1 rfl (by kernel_rfl) rfl rfl (by kernel_rfl) (by kernel_rfl) (by kernel_rfl) hNP hU rfl (fun w' hq => pv_loada (tA rfl) rfl (by first | exact PT.lda hq.2) (by rfl)) ?_) | (refine fw_take 1 rfl (by kernel_rfl) rfl rfl (by kernel_rfl) (by kernel_rfl) (by kernel_rfl) hNP hU rfl (fun w' hq => pv_load (t1 rfl) rfl (by first | exact PT.ld0 (H2.mono hq.1) rfl | exact PT.ld (H2.mono hq.1) rfl)) ?_) | (refine fw_take 1 rfl (by kernel_rfl) rfl rfl (by kernel_rfl) (by kernel_rfl) (by kernel_rfl) hNP hU rfl (fun w' hq => pv_loada (tA rfl) rfl (by first | exact PT.lda (H2.mono hq.1)) (by rfl)) ?_)
      first | (refine fw_take 2 rfl (by kernel_rfl) rfl rfl (by kernel_rfl) (by kernel_rfl) (by kernel_rfl) hNP hU rfl (fun w' hq => pv_assign rfl) ?_)
      first | (refine fw_act 3 (by kernel_rfl) rfl rfl rfl ?_; refine act_pv (pv_ian (tS rfl) rfl rfl (by omega)) ?_; refine ⟨hU, fun hU => ?_⟩) | (refine fw_act 3 (by kernel_rfl) rfl rfl rfl ?_; refine act_pv (pv_ia (tS rfl) rfl rfl (by omega)) ?_; refine ⟨hU, fun hU => ?_⟩)
      first | (refine fw_take 4 rfl (by kernel_rfl) rfl rfl (by kernel_rfl) (by kernel_rfl) (by kernel_rfl) hNP hU rfl (fun w' hq => pv_fa (tF rfl) rfl) ?_)
      refine fw_last (by kernel_rfl) rfl rfl rfl rfl (by kernel_rfl) ?_
      obtain ⟨hw, -⟩ := hU; clear hNP
      refine act_storeF (i := 0) (f := 2) (a := ⟨0, 0, -100, 0⟩) (u := ⟨0, 0, -99, 0⟩) encR_len (tZ rfl) rfl (by omega) rfl rfl (oR.mono hw) rfl rfl (by omega) ?_; intro wz oZ hg hz
      have hO2 := (hO.mo hw).toR oZ hg
      have H22 := pt_keptO (oR.mono hw) (H2.mono hw) (by decide) hg
      have hw2 := st_hw (grow_trans hWk hw) hg (Own.lt oR _ rfl).1
      repeat' (first | (refine is_qw ?_; first | (with_reducible refine qw_in ?_)))
      exact qw_join ⟨_, T16, wRows⟩ (by repeat' (first | exact trivial | refine ⟨rfl, ?_⟩)) ⟨hw2, hO2.stR, H22, stOk_of k16.2, k16.1⟩
    refine cw_sw (x := 30) rfl rfl rfl rfl rfl (fun e => ?_) (fun e => ?_)
    · obtain rfl : k = 17 := by omega
      skip
      skip
      refine cw_drawnF 5 (fun w' => Below w2.heap.size w2 w' ∧ True) (by kernel_rfl) (by repeat (first | exact NoPanic.body | with_reducible refine NoPanic.then ?_ | with_reducible refine NoPanic.inBlock ?_)) (fun hNP => ?_)
      have hU := And.intro hw.drew trivial
      first | (refine fw_take 0 rfl (by kernel_rfl) rfl rfl (by kernel_rfl) (by kernel_rfl) (by kernel_rfl) hNP hU rfl (fun w' hq => pv_fa (tF rfl) rfl) ?_)
      first | (refine fw_take 1 rfl (by kernel_rfl) rfl rfl (by kernel_rfl) (by kernel_rfl) (by kernel_rfl) hNP hU rfl (fun w' hq => pv_load (t1 rfl) rfl (by first | exact PT.ld0 hq.2 rfl | exact PT.ld hq.2 rfl)) ?_) | (refine fw_take 1 rfl (by kernel_rfl) rfl rfl (by kernel_rfl) (by kernel_rfl) (by kernel_rfl) hNP hU rfl (fun w' hq => pv_loada (tA rfl) rfl (by first | exact PT.lda hq.2) (by rfl)) ?_) | (refine fw_take 1 rfl (by kernel_rfl) rfl rfl (by kernel_rfl) (by kernel_rfl) (by kernel_rfl) hNP hU rfl (fun w' hq => pv_load (t1 rfl) rfl (by first | exact PT.ld0 (H2.mono hq.1) rfl | exact PT.ld (H2.mono hq.1) rfl)) ?_) | (refine fw_take 1 rfl (by kernel_rfl) rfl rfl (by kernel_rfl) (by kernel_rfl) (by kernel_rfl) hNP hU rfl (fun w' hq => pv_loada (tA rfl) rfl (by first | exact PT.lda (H2.mono hq.1)) (by rfl)) ?_)
      first | (refine fw_take 2 rfl (by kernel_rfl) rfl rfl (by kernel_rfl) (by kernel_rfl) (by kernel_rfl) hNP hU rfl (fun w' hq => pv_assign rfl) ?_)
      first | (refine fw_act 3 (by kernel_rfl) rfl rfl rfl ?_; refine act_pv (pv_ian (tS rfl) rfl rfl (by omega)) ?_; refine ⟨hU, fun hU => ?_⟩) | (refine fw_act 3 (by kernel_rfl) rfl rfl rfl ?_; refine act_pv (pv_ia (tS rfl) rfl rfl (by omega)) ?_; refine ⟨hU, fun hU => ?_⟩)
      first | (refine fw_take 4 rfl (by kernel_rfl) rfl rfl (by kernel_rfl) (by kernel_rfl) (by kernel_rfl) hNP hU rfl (fun w' hq => pv_fa (tF rfl) rfl) ?_)
      refine fw_last (by kernel_rfl) rfl rfl rfl rfl (by kernel_rfl) ?_
      obtain ⟨hw, -⟩ := hU; clear hNP
      refine act_storeF (i := 1) (f := 1) (a := accB) (u := ⟨⟨#[98]⟩, false⟩) encA_len (tZ rfl) rfl (by omega) rfl rfl (oA.mono hw) rfl rfl (by omega) ?_; intro wz oZ hg hz
      have hO2 := (hO.mo hw).toA oZ hg
      have H22 := pt_keptO (oA.mono hw) (H2.mono hw) (by decide) hg
      have hw2 := st_hw (grow_trans hWk hw) hg (Own.lt oA _ rfl).1
      repeat' (first | (refine is_qw ?_; first | (with_reducible refine qw_in ?_)))
      exact qw_join ⟨_, T17, wRows⟩ (by repeat' (first | exact trivial | refine ⟨rfl, ?_⟩)) ⟨hw2, hO2.stR, H22, stOk_of k17.2, k17.1⟩
    refine cw_sw (x := 30) rfl rfl rfl rfl rfl (fun e => ?_) (fun e => ?_)
    · obtain rfl : k = 18 := by omega
      skip
      repeat' (first | (refine lw_pure rfl (pv_assign rfl) ?_) | (refine is_cw ?_; first | (refine cw_seq ?_) | (refine cw_region ?_)) | (refine is_qw ?_; first | (with_reducible refine qw_then ?_)) | (refine lw_nil ?_) | ((refine is_load ?_; first | (refine lw_pure rfl (pv_load (t1 rfl) rfl (by first | exact PT.ld0 (H2.mono hw) rfl | exact PT.ld (H2.mono hw) rfl)) ?_))) | ((refine is_fa ?_; first | (refine lw_pure rfl (pv_fa (tF rfl) rfl) ?_))) | ((refine is_bd ?_; first | (refine lw_pure rfl (tyB_39 rfl rfl rfl) ?_))))
      refine lw_bsN (vs := [.agg (encR ⟨4, 0, 1, 0⟩).toArray]) (cs := encR ⟨4, 0, 1, 0⟩) elemR rfl rfl rfl (by omega) (by omega) rfl (by simp [Value.cells, encR]) ?_; intro NQ w3 hNQ HQ hb
      replace hO := hO.mo hb
      replace oR := oR.mono hb
      replace H2 := H2.mono hb
      replace hWk := grow_trans hWk hb
      clear hb hw
      have hw := Below.refl w3.heap.size w3
      skip
      refine lw_app elemR encR_len encR_one rfl rfl rfl oR (HQ.slR (xs := [⟨4, 0, 1, 0⟩]) encR_len rfl (by omega)) rfl hWk.size (by simp) (by simp [maxLen]) ?_; intro vm w4 oM hg hb
      obtain ⟨aR, cR, rfl⟩ := own_shapeM (m := 7) encR_len oM rfl
      replace H2 := pt_keptO oR H2 (by decide) hg
      replace hO := hO.toR oM hg
      replace hWk := hWk.trans hb
      clear hg hb hw
      have hw := Below.refl w4.heap.size w4
      repeat' (first | ((refine is_fa ?_; first | (refine lw_pure rfl (pv_fa (tF rfl) rfl) ?_))))
      refine lw_store H2 (tZ rfl) rfl rfl rfl (by simp) ?_; intro w5 H22 hg hz
      have hO2 := hO.st H2 hg
      have hw2 := st_hw hWk hg hN2
      repeat' (first | (refine is_qw ?_; first | (with_reducible refine qw_in ?_)) | (refine lw_nil ?_))
      exact qw_join ⟨_, T18, wRows⟩ (by repeat' (first | exact trivial | refine ⟨rfl, ?_⟩)) ⟨hw2, hO2.stR, H22, stOk_of k18.2, k18.1⟩
    refine cw_sw (x := 30) rfl rfl rfl rfl rfl (fun e => ?_) (fun e => ?_)
    · obtain rfl : k = 19 := by omega
      skip
      repeat' (first | (refine lw_pure rfl (pv_assign rfl) ?_) | (refine is_cw ?_; first | (refine cw_seq ?_) | (refine cw_region ?_)) | (refine is_qw ?_; first | (with_reducible refine qw_then ?_)) | (refine lw_nil ?_) | ((refine is_fa ?_; first | (refine lw_pure rfl (pv_fa (tF rfl) rfl) ?_))))
      refine lw_store H2 (tZ rfl) rfl rfl rfl (by simp) ?_; intro wz0 H25 hg0 hz0
      have hO2 := (hO.nI (Own.nil _)).st H2 hg0
      have hw2 := st_hw hWk hg0 hN2
      repeat' (first | (refine is_qw ?_; first | (with_reducible refine qw_in ?_)) | (refine lw_nil ?_))
      exact qw_join ⟨_, T19, wRows⟩ (by repeat' (first | exact trivial | refine ⟨rfl, ?_⟩)) ⟨hw2, hO2.stR, H25, stOk_of k19.2, k19.1⟩
    refine cw_sw (x := 30) rfl rfl rfl rfl rfl (fun e => ?_) (fun e => ?_)
    · obtain rfl : k = 20 := by omega
      skip
      skip
      refine cw_drawnF 5 (fun w' => Below w2.heap.size w2 w' ∧ True) (by kernel_rfl) (by repeat (first | exact NoPanic.body | with_reducible refine NoPanic.then ?_ | with_reducible refine NoPanic.inBlock ?_)) (fun hNP => ?_)
      have hU := And.intro hw.drew trivial
      first | (refine fw_take 0 rfl (by kernel_rfl) rfl rfl (by kernel_rfl) (by kernel_rfl) (by kernel_rfl) hNP hU rfl (fun w' hq => pv_fa (tF rfl) rfl) ?_)
      first | (refine fw_take 1 rfl (by kernel_rfl) rfl rfl (by kernel_rfl) (by kernel_rfl) (by kernel_rfl) hNP hU rfl (fun w' hq => pv_load (t1 rfl) rfl (by first | exact PT.ld0 hq.2 rfl | exact PT.ld hq.2 rfl)) ?_) | (refine fw_take 1 rfl (by kernel_rfl) rfl rfl (by kernel_rfl) (by kernel_rfl) (by kernel_rfl) hNP hU rfl (fun w' hq => pv_loada (tA rfl) rfl (by first | exact PT.lda hq.2) (by rfl)) ?_) | (refine fw_take 1 rfl (by kernel_rfl) rfl rfl (by kernel_rfl) (by kernel_rfl) (by kernel_rfl) hNP hU rfl (fun w' hq => pv_load (t1 rfl) rfl (by first | exact PT.ld0 (H2.mono hq.1) rfl | exact PT.ld (H2.mono hq.1) rfl)) ?_) | (refine fw_take 1 rfl (by kernel_rfl) rfl rfl (by kernel_rfl) (by kernel_rfl) (by kernel_rfl) hNP hU rfl (fun w' hq => pv_loada (tA rfl) rfl (by first | exact PT.lda (H2.mono hq.1)) (by rfl)) ?_)
      first | (refine fw_take 2 rfl (by kernel_rfl) rfl rfl (by kernel_rfl) (by kernel_rfl) (by kernel_rfl) hNP hU rfl (fun w' hq => pv_assign rfl) ?_)
      first | (refine fw_act 3 (by kernel_rfl) rfl rfl rfl ?_; refine act_pv (pv_ian (tS rfl) rfl rfl (by omega)) ?_; refine ⟨hU, fun hU => ?_⟩) | (refine fw_act 3 (by kernel_rfl) rfl rfl rfl ?_; refine act_pv (pv_ia (tS rfl) rfl rfl (by omega)) ?_; refine ⟨hU, fun hU => ?_⟩)
      first | (refine fw_take 4 rfl (by kernel_rfl) rfl rfl (by kernel_rfl) (by kernel_rfl) (by kernel_rfl) hNP hU rfl (fun w' hq => pv_fa (tF rfl) rfl) ?_)
      refine fw_last (by kernel_rfl) rfl rfl rfl rfl (by kernel_rfl) ?_
      obtain ⟨hw, -⟩ := hU; clear hNP
      refine act_storeF (i := 0) (f := 3) (a := ord1) (u := ⟨1, 1, 1, 3, 10, 4⟩) encO_len (tZ rfl) rfl (by omega) rfl rfl (oO.mono hw) rfl rfl (by omega) ?_; intro wz oZ hg hz
      have hO2 := (hO.mo hw).toO oZ hg
      have H22 := pt_keptO (oO.mono hw) (H2.mono hw) (by decide) hg
      have hw2 := st_hw (grow_trans hWk hw) hg (Own.lt oO _ rfl).1
      repeat' (first | (refine is_qw ?_; first | (with_reducible refine qw_in ?_)))
      exact qw_join ⟨_, T20, wOrds⟩ (by repeat' (first | exact trivial | refine ⟨rfl, ?_⟩)) ⟨hw2, hO2.stR, H22, stOk_of k20.2, k20.1⟩
    refine cw_sw (x := 30) rfl rfl rfl rfl rfl (fun e => ?_) (fun e => ?_)
    · obtain rfl : k = 21 := by omega
      skip
      repeat' (first | (refine lw_pure rfl (pv_assign rfl) ?_) | (refine is_cw ?_; first | (refine cw_region ?_)) | ((refine is_fa ?_; first | (refine lw_pure rfl (pv_fa (tF rfl) rfl) ?_))))
      refine lw_store H2 (tZ rfl) rfl rfl rfl (by simp) ?_; intro wz0 H25 hg0 hz0
      have hO2 := (hO.num 9 100 3 8).st H2 hg0
      have hw2 := st_hw hWk hg0 hN2
      repeat' (first | (refine is_qw ?_; first | (with_reducible refine qw_in ?_)) | (refine lw_nil ?_))
      exact qw_join ⟨_, T21, wOrds⟩ (by repeat' (first | exact trivial | refine ⟨rfl, ?_⟩)) ⟨hw2, hO2.stR, H25, stOk_of k21.2, k21.1⟩
    refine cw_sw (x := 30) rfl rfl rfl rfl rfl (fun e => ?_) (fun e => ?_)
    · obtain rfl : k = 22 := by omega
      skip
      skip
      refine cw_drawnF 5 (fun w' => Below w2.heap.size w2 w' ∧ True) (by kernel_rfl) (by repeat (first | exact NoPanic.body | with_reducible refine NoPanic.then ?_ | with_reducible refine NoPanic.inBlock ?_)) (fun hNP => ?_)
      have hU := And.intro hw.drew trivial
      first | (refine fw_take 0 rfl (by kernel_rfl) rfl rfl (by kernel_rfl) (by kernel_rfl) (by kernel_rfl) hNP hU rfl (fun w' hq => pv_fa (tF rfl) rfl) ?_)
      first | (refine fw_take 1 rfl (by kernel_rfl) rfl rfl (by kernel_rfl) (by kernel_rfl) (by kernel_rfl) hNP hU rfl (fun w' hq => pv_load (t1 rfl) rfl (by first | exact PT.ld0 hq.2 rfl | exact PT.ld hq.2 rfl)) ?_) | (refine fw_take 1 rfl (by kernel_rfl) rfl rfl (by kernel_rfl) (by kernel_rfl) (by kernel_rfl) hNP hU rfl (fun w' hq => pv_loada (tA rfl) rfl (by first | exact PT.lda hq.2) (by rfl)) ?_) | (refine fw_take 1 rfl (by kernel_rfl) rfl rfl (by kernel_rfl) (by kernel_rfl) (by kernel_rfl) hNP hU rfl (fun w' hq => pv_load (t1 rfl) rfl (by first | exact PT.ld0 (H2.mono hq.1) rfl | exact PT.ld (H2.mono hq.1) rfl)) ?_) | (refine fw_take 1 rfl (by kernel_rfl) rfl rfl (by kernel_rfl) (by kernel_rfl) (by kernel_rfl) hNP hU rfl (fun w' hq => pv_loada (tA rfl) rfl (by first | exact PT.lda (H2.mono hq.1)) (by rfl)) ?_)
      first | (refine fw_take 2 rfl (by kernel_rfl) rfl rfl (by kernel_rfl) (by kernel_rfl) (by kernel_rfl) hNP hU rfl (fun w' hq => pv_assign rfl) ?_)
      first | (refine fw_act 3 (by kernel_rfl) rfl rfl rfl ?_; refine act_pv (pv_ian (tS rfl) rfl rfl (by omega)) ?_; refine ⟨hU, fun hU => ?_⟩) | (refine fw_act 3 (by kernel_rfl) rfl rfl rfl ?_; refine act_pv (pv_ia (tS rfl) rfl rfl (by omega)) ?_; refine ⟨hU, fun hU => ?_⟩)
      first | (refine fw_take 4 rfl (by kernel_rfl) rfl rfl (by kernel_rfl) (by kernel_rfl) (by kernel_rfl) hNP hU rfl (fun w' hq => pv_fa (tF rfl) rfl) ?_)
      refine fw_last (by kernel_rfl) rfl rfl rfl rfl (by kernel_rfl) ?_
      obtain ⟨hw, -⟩ := hU; clear hNP
      refine act_storeF (i := 0) (f := 1) (a := ord1) (u := ⟨1, 3, 1, 1, 10, 4⟩) encO_len (tZ rfl) rfl (by omega) rfl rfl (oO.mono hw) rfl rfl (by omega) ?_; intro wz oZ hg hz
      have hO2 := (hO.mo hw).toO oZ hg
      have H22 := pt_keptO (oO.mono hw) (H2.mono hw) (by decide) hg
      have hw2 := st_hw (grow_trans hWk hw) hg (Own.lt oO _ rfl).1
      repeat' (first | (refine is_qw ?_; first | (with_reducible refine qw_in ?_)))
      exact qw_join ⟨_, T22, wOrds⟩ (by repeat' (first | exact trivial | refine ⟨rfl, ?_⟩)) ⟨hw2, hO2.stR, H22, stOk_of k22.2, k22.1⟩
    refine cw_sw (x := 30) rfl rfl rfl rfl rfl (fun e => ?_) (fun e => ?_)
    · obtain rfl : k = 23 := by omega
      skip
      skip
      refine cw_drawnF 5 (fun w' => Below w2.heap.size w2 w' ∧ True) (by kernel_rfl) (by repeat (first | exact NoPanic.body | with_reducible refine NoPanic.then ?_ | with_reducible refine NoPanic.inBlock ?_)) (fun hNP => ?_)
      have hU := And.intro hw.drew trivial
      first | (refine fw_take 0 rfl (by kernel_rfl) rfl rfl (by kernel_rfl) (by kernel_rfl) (by kernel_rfl) hNP hU rfl (fun w' hq => pv_fa (tF rfl) rfl) ?_)
      first | (refine fw_take 1 rfl (by kernel_rfl) rfl rfl (by kernel_rfl) (by kernel_rfl) (by kernel_rfl) hNP hU rfl (fun w' hq => pv_load (t1 rfl) rfl (by first | exact PT.ld0 hq.2 rfl | exact PT.ld hq.2 rfl)) ?_) | (refine fw_take 1 rfl (by kernel_rfl) rfl rfl (by kernel_rfl) (by kernel_rfl) (by kernel_rfl) hNP hU rfl (fun w' hq => pv_loada (tA rfl) rfl (by first | exact PT.lda hq.2) (by rfl)) ?_) | (refine fw_take 1 rfl (by kernel_rfl) rfl rfl (by kernel_rfl) (by kernel_rfl) (by kernel_rfl) hNP hU rfl (fun w' hq => pv_load (t1 rfl) rfl (by first | exact PT.ld0 (H2.mono hq.1) rfl | exact PT.ld (H2.mono hq.1) rfl)) ?_) | (refine fw_take 1 rfl (by kernel_rfl) rfl rfl (by kernel_rfl) (by kernel_rfl) (by kernel_rfl) hNP hU rfl (fun w' hq => pv_loada (tA rfl) rfl (by first | exact PT.lda (H2.mono hq.1)) (by rfl)) ?_)
      first | (refine fw_take 2 rfl (by kernel_rfl) rfl rfl (by kernel_rfl) (by kernel_rfl) (by kernel_rfl) hNP hU rfl (fun w' hq => pv_assign rfl) ?_)
      first | (refine fw_act 3 (by kernel_rfl) rfl rfl rfl ?_; refine act_pv (pv_ian (tS rfl) rfl rfl (by omega)) ?_; refine ⟨hU, fun hU => ?_⟩) | (refine fw_act 3 (by kernel_rfl) rfl rfl rfl ?_; refine act_pv (pv_ia (tS rfl) rfl rfl (by omega)) ?_; refine ⟨hU, fun hU => ?_⟩)
      first | (refine fw_take 4 rfl (by kernel_rfl) rfl rfl (by kernel_rfl) (by kernel_rfl) (by kernel_rfl) hNP hU rfl (fun w' hq => pv_fa (tF rfl) rfl) ?_)
      refine fw_last (by kernel_rfl) rfl rfl rfl rfl (by kernel_rfl) ?_
      obtain ⟨hw, -⟩ := hU; clear hNP
      refine act_storeF (i := 0) (f := 2) (a := ord1) (u := ⟨1, 1, 2, 1, 10, 4⟩) encO_len (tZ rfl) rfl (by omega) rfl rfl (oO.mono hw) rfl rfl (by omega) ?_; intro wz oZ hg hz
      have hO2 := (hO.mo hw).toO oZ hg
      have H22 := pt_keptO (oO.mono hw) (H2.mono hw) (by decide) hg
      have hw2 := st_hw (grow_trans hWk hw) hg (Own.lt oO _ rfl).1
      repeat' (first | (refine is_qw ?_; first | (with_reducible refine qw_in ?_)))
      exact qw_join ⟨_, T23, wOrds⟩ (by repeat' (first | exact trivial | refine ⟨rfl, ?_⟩)) ⟨hw2, hO2.stR, H22, stOk_of k23.2, k23.1⟩
    refine cw_sw (x := 30) rfl rfl rfl rfl rfl (fun e => ?_) (fun e => ?_)
    · obtain rfl : k = 24 := by omega
      skip
      skip
      refine cw_drawnF 5 (fun w' => Below w2.heap.size w2 w' ∧ True) (by kernel_rfl) (by repeat (first | exact NoPanic.body | with_reducible refine NoPanic.then ?_ | with_reducible refine NoPanic.inBlock ?_)) (fun hNP => ?_)
      have hU := And.intro hw.drew trivial
      first | (refine fw_take 0 rfl (by kernel_rfl) rfl rfl (by kernel_rfl) (by kernel_rfl) (by kernel_rfl) hNP hU rfl (fun w' hq => pv_fa (tF rfl) rfl) ?_)
      first | (refine fw_take 1 rfl (by kernel_rfl) rfl rfl (by kernel_rfl) (by kernel_rfl) (by kernel_rfl) hNP hU rfl (fun w' hq => pv_load (t1 rfl) rfl (by first | exact PT.ld0 hq.2 rfl | exact PT.ld hq.2 rfl)) ?_) | (refine fw_take 1 rfl (by kernel_rfl) rfl rfl (by kernel_rfl) (by kernel_rfl) (by kernel_rfl) hNP hU rfl (fun w' hq => pv_loada (tA rfl) rfl (by first | exact PT.lda hq.2) (by rfl)) ?_) | (refine fw_take 1 rfl (by kernel_rfl) rfl rfl (by kernel_rfl) (by kernel_rfl) (by kernel_rfl) hNP hU rfl (fun w' hq => pv_load (t1 rfl) rfl (by first | exact PT.ld0 (H2.mono hq.1) rfl | exact PT.ld (H2.mono hq.1) rfl)) ?_) | (refine fw_take 1 rfl (by kernel_rfl) rfl rfl (by kernel_rfl) (by kernel_rfl) (by kernel_rfl) hNP hU rfl (fun w' hq => pv_loada (tA rfl) rfl (by first | exact PT.lda (H2.mono hq.1)) (by rfl)) ?_)
      first | (refine fw_take 2 rfl (by kernel_rfl) rfl rfl (by kernel_rfl) (by kernel_rfl) (by kernel_rfl) hNP hU rfl (fun w' hq => pv_assign rfl) ?_)
      first | (refine fw_act 3 (by kernel_rfl) rfl rfl rfl ?_; refine act_pv (pv_ian (tS rfl) rfl rfl (by omega)) ?_; refine ⟨hU, fun hU => ?_⟩) | (refine fw_act 3 (by kernel_rfl) rfl rfl rfl ?_; refine act_pv (pv_ia (tS rfl) rfl rfl (by omega)) ?_; refine ⟨hU, fun hU => ?_⟩)
      first | (refine fw_take 4 rfl (by kernel_rfl) rfl rfl (by kernel_rfl) (by kernel_rfl) (by kernel_rfl) hNP hU rfl (fun w' hq => pv_fa (tF rfl) rfl) ?_)
      refine fw_last (by kernel_rfl) rfl rfl rfl rfl (by kernel_rfl) ?_
      obtain ⟨hw, -⟩ := hU; clear hNP
      refine act_storeF (i := 0) (f := 4) (a := ord1) (u := ⟨1, 1, 1, 1, 11, 4⟩) encO_len (tZ rfl) rfl (by omega) rfl rfl (oO.mono hw) rfl rfl (by omega) ?_; intro wz oZ hg hz
      have hO2 := (hO.mo hw).toO oZ hg
      have H22 := pt_keptO (oO.mono hw) (H2.mono hw) (by decide) hg
      have hw2 := st_hw (grow_trans hWk hw) hg (Own.lt oO _ rfl).1
      repeat' (first | (refine is_qw ?_; first | (with_reducible refine qw_in ?_)))
      exact qw_join ⟨_, T24, wOrds⟩ (by repeat' (first | exact trivial | refine ⟨rfl, ?_⟩)) ⟨hw2, hO2.stR, H22, stOk_of k24.2, k24.1⟩
    refine cw_sw (x := 30) rfl rfl rfl rfl rfl (fun e => ?_) (fun e => ?_)
    · obtain rfl : k = 25 := by omega
      skip
      skip
      refine cw_drawnF 5 (fun w' => Below w2.heap.size w2 w' ∧ True) (by kernel_rfl) (by repeat (first | exact NoPanic.body | with_reducible refine NoPanic.then ?_ | with_reducible refine NoPanic.inBlock ?_)) (fun hNP => ?_)
      have hU := And.intro hw.drew trivial
      first | (refine fw_take 0 rfl (by kernel_rfl) rfl rfl (by kernel_rfl) (by kernel_rfl) (by kernel_rfl) hNP hU rfl (fun w' hq => pv_fa (tF rfl) rfl) ?_)
      first | (refine fw_take 1 rfl (by kernel_rfl) rfl rfl (by kernel_rfl) (by kernel_rfl) (by kernel_rfl) hNP hU rfl (fun w' hq => pv_load (t1 rfl) rfl (by first | exact PT.ld0 hq.2 rfl | exact PT.ld hq.2 rfl)) ?_) | (refine fw_take 1 rfl (by kernel_rfl) rfl rfl (by kernel_rfl) (by kernel_rfl) (by kernel_rfl) hNP hU rfl (fun w' hq => pv_loada (tA rfl) rfl (by first | exact PT.lda hq.2) (by rfl)) ?_) | (refine fw_take 1 rfl (by kernel_rfl) rfl rfl (by kernel_rfl) (by kernel_rfl) (by kernel_rfl) hNP hU rfl (fun w' hq => pv_load (t1 rfl) rfl (by first | exact PT.ld0 (H2.mono hq.1) rfl | exact PT.ld (H2.mono hq.1) rfl)) ?_) | (refine fw_take 1 rfl (by kernel_rfl) rfl rfl (by kernel_rfl) (by kernel_rfl) (by kernel_rfl) hNP hU rfl (fun w' hq => pv_loada (tA rfl) rfl (by first | exact PT.lda (H2.mono hq.1)) (by rfl)) ?_)
      first | (refine fw_take 2 rfl (by kernel_rfl) rfl rfl (by kernel_rfl) (by kernel_rfl) (by kernel_rfl) hNP hU rfl (fun w' hq => pv_assign rfl) ?_)
      first | (refine fw_act 3 (by kernel_rfl) rfl rfl rfl ?_; refine act_pv (pv_ian (tS rfl) rfl rfl (by omega)) ?_; refine ⟨hU, fun hU => ?_⟩) | (refine fw_act 3 (by kernel_rfl) rfl rfl rfl ?_; refine act_pv (pv_ia (tS rfl) rfl rfl (by omega)) ?_; refine ⟨hU, fun hU => ?_⟩)
      first | (refine fw_take 4 rfl (by kernel_rfl) rfl rfl (by kernel_rfl) (by kernel_rfl) (by kernel_rfl) hNP hU rfl (fun w' hq => pv_fa (tF rfl) rfl) ?_)
      refine fw_last (by kernel_rfl) rfl rfl rfl rfl (by kernel_rfl) ?_
      obtain ⟨hw, -⟩ := hU; clear hNP
      refine act_storeF (i := 0) (f := 4) (a := ⟨auc1, some ⟨g1, 0, none⟩, 1, 1⟩) (u := ⟨⟨2, 1, 1, false, 0, 7, 1, 20⟩, some ⟨g1, 0, none⟩, 1, 1⟩) encC_len (tZ rfl) rfl (by omega) rfl rfl (oX.mono hw) rfl rfl (by omega) ?_; intro wz oZ hg hz
      have hO2 := (hO.mo hw).toX (us := [⟨⟨2, 1, 1, false, 0, 7, 1, 20⟩, [⟨2, 7⟩]⟩, ⟨auc2, [⟨1, 5⟩]⟩]) oZ hg rfl (bX (hO.mo hw))
      have H22 := pt_keptO (oX.mono hw) (H2.mono hw) (by decide) hg
      have hw2 := st_hw (grow_trans hWk hw) hg (Own.lt oX _ rfl).1
      repeat' (first | (refine is_qw ?_; first | (with_reducible refine qw_in ?_)))
      exact qw_join ⟨_, T25, wAucs⟩ (by repeat' (first | exact trivial | refine ⟨rfl, ?_⟩)) ⟨hw2, hO2.stR, H22, stOk_of k25.2, k25.1⟩
    refine cw_sw (x := 30) rfl rfl rfl rfl rfl (fun e => ?_) (fun e => ?_)
    · obtain rfl : k = 26 := by omega
      skip
      repeat' (first | (refine lw_pure rfl (pv_assign rfl) ?_) | (refine is_cw ?_; first | (refine cw_region ?_)) | ((refine is_fa ?_; first | (refine lw_pure rfl (pv_fa (tF rfl) rfl) ?_))))
      refine lw_store H2 (tZ rfl) rfl rfl rfl (by simp) ?_; intro wz0 H25 hg0 hz0
      have hO2 := (hO.num 9 100 4 7).st H2 hg0
      have hw2 := st_hw hWk hg0 hN2
      repeat' (first | (refine is_qw ?_; first | (with_reducible refine qw_in ?_)) | (refine lw_nil ?_))
      exact qw_join ⟨_, T26, wAucs⟩ (by repeat' (first | exact trivial | refine ⟨rfl, ?_⟩)) ⟨hw2, hO2.stR, H25, stOk_of k26.2, k26.1⟩
    refine cw_sw (x := 30) rfl rfl rfl rfl rfl (fun e => ?_) (fun e => ?_)
    · obtain rfl : k = 27 := by omega
      skip
      skip
      refine cw_drawnF 5 (fun w' => Below w2.heap.size w2 w' ∧ True) (by kernel_rfl) (by repeat (first | exact NoPanic.body | with_reducible refine NoPanic.then ?_ | with_reducible refine NoPanic.inBlock ?_)) (fun hNP => ?_)
      have hU := And.intro hw.drew trivial
      first | (refine fw_take 0 rfl (by kernel_rfl) rfl rfl (by kernel_rfl) (by kernel_rfl) (by kernel_rfl) hNP hU rfl (fun w' hq => pv_fa (tF rfl) rfl) ?_)
      first | (refine fw_take 1 rfl (by kernel_rfl) rfl rfl (by kernel_rfl) (by kernel_rfl) (by kernel_rfl) hNP hU rfl (fun w' hq => pv_load (t1 rfl) rfl (by first | exact PT.ld0 hq.2 rfl | exact PT.ld hq.2 rfl)) ?_) | (refine fw_take 1 rfl (by kernel_rfl) rfl rfl (by kernel_rfl) (by kernel_rfl) (by kernel_rfl) hNP hU rfl (fun w' hq => pv_loada (tA rfl) rfl (by first | exact PT.lda hq.2) (by rfl)) ?_) | (refine fw_take 1 rfl (by kernel_rfl) rfl rfl (by kernel_rfl) (by kernel_rfl) (by kernel_rfl) hNP hU rfl (fun w' hq => pv_load (t1 rfl) rfl (by first | exact PT.ld0 (H2.mono hq.1) rfl | exact PT.ld (H2.mono hq.1) rfl)) ?_) | (refine fw_take 1 rfl (by kernel_rfl) rfl rfl (by kernel_rfl) (by kernel_rfl) (by kernel_rfl) hNP hU rfl (fun w' hq => pv_loada (tA rfl) rfl (by first | exact PT.lda (H2.mono hq.1)) (by rfl)) ?_)
      first | (refine fw_take 2 rfl (by kernel_rfl) rfl rfl (by kernel_rfl) (by kernel_rfl) (by kernel_rfl) hNP hU rfl (fun w' hq => pv_assign rfl) ?_)
      first | (refine fw_act 3 (by kernel_rfl) rfl rfl rfl ?_; refine act_pv (pv_ian (tS rfl) rfl rfl (by omega)) ?_; refine ⟨hU, fun hU => ?_⟩) | (refine fw_act 3 (by kernel_rfl) rfl rfl rfl ?_; refine act_pv (pv_ia (tS rfl) rfl rfl (by omega)) ?_; refine ⟨hU, fun hU => ?_⟩)
      first | (refine fw_take 4 rfl (by kernel_rfl) rfl rfl (by kernel_rfl) (by kernel_rfl) (by kernel_rfl) hNP hU rfl (fun w' hq => pv_fa (tF rfl) rfl) ?_)
      refine fw_last (by kernel_rfl) rfl rfl rfl rfl (by kernel_rfl) ?_
      obtain ⟨hw, -⟩ := hU; clear hNP
      refine act_storeF (i := 0) (f := 1) (a := ⟨auc1, some ⟨g1, 0, none⟩, 1, 1⟩) (u := ⟨⟨2, 3, 1, false, 10, 7, 1, 20⟩, some ⟨g1, 0, none⟩, 1, 1⟩) encC_len (tZ rfl) rfl (by omega) rfl rfl (oX.mono hw) rfl rfl (by omega) ?_; intro wz oZ hg hz
      have hO2 := (hO.mo hw).toX (us := [⟨⟨2, 3, 1, false, 10, 7, 1, 20⟩, [⟨2, 7⟩]⟩, ⟨auc2, [⟨1, 5⟩]⟩]) oZ hg rfl (bX (hO.mo hw))
      have H22 := pt_keptO (oX.mono hw) (H2.mono hw) (by decide) hg
      have hw2 := st_hw (grow_trans hWk hw) hg (Own.lt oX _ rfl).1
      repeat' (first | (refine is_qw ?_; first | (with_reducible refine qw_in ?_)))
      exact qw_join ⟨_, T27, wAucs⟩ (by repeat' (first | exact trivial | refine ⟨rfl, ?_⟩)) ⟨hw2, hO2.stR, H22, stOk_of k27.2, k27.1⟩
    refine cw_sw (x := 30) rfl rfl rfl rfl rfl (fun e => ?_) (fun e => ?_)
    · obtain rfl : k = 28 := by omega
      skip
      skip
      refine cw_drawnF 5 (fun w' => Below w2.heap.size w2 w' ∧ True) (by kernel_rfl) (by repeat (first | exact NoPanic.body | with_reducible refine NoPanic.then ?_ | with_reducible refine NoPanic.inBlock ?_)) (fun hNP => ?_)
      have hU := And.intro hw.drew trivial
      first | (refine fw_take 0 rfl (by kernel_rfl) rfl rfl (by kernel_rfl) (by kernel_rfl) (by kernel_rfl) hNP hU rfl (fun w' hq => pv_fa (tF rfl) rfl) ?_)
      first | (refine fw_take 1 rfl (by kernel_rfl) rfl rfl (by kernel_rfl) (by kernel_rfl) (by kernel_rfl) hNP hU rfl (fun w' hq => pv_load (t1 rfl) rfl (by first | exact PT.ld0 hq.2 rfl | exact PT.ld hq.2 rfl)) ?_) | (refine fw_take 1 rfl (by kernel_rfl) rfl rfl (by kernel_rfl) (by kernel_rfl) (by kernel_rfl) hNP hU rfl (fun w' hq => pv_loada (tA rfl) rfl (by first | exact PT.lda hq.2) (by rfl)) ?_) | (refine fw_take 1 rfl (by kernel_rfl) rfl rfl (by kernel_rfl) (by kernel_rfl) (by kernel_rfl) hNP hU rfl (fun w' hq => pv_load (t1 rfl) rfl (by first | exact PT.ld0 (H2.mono hq.1) rfl | exact PT.ld (H2.mono hq.1) rfl)) ?_) | (refine fw_take 1 rfl (by kernel_rfl) rfl rfl (by kernel_rfl) (by kernel_rfl) (by kernel_rfl) hNP hU rfl (fun w' hq => pv_loada (tA rfl) rfl (by first | exact PT.lda (H2.mono hq.1)) (by rfl)) ?_)
      first | (refine fw_take 2 rfl (by kernel_rfl) rfl rfl (by kernel_rfl) (by kernel_rfl) (by kernel_rfl) hNP hU rfl (fun w' hq => pv_assign rfl) ?_)
      first | (refine fw_act 3 (by kernel_rfl) rfl rfl rfl ?_; refine act_pv (pv_ian (tS rfl) rfl rfl (by omega)) ?_; refine ⟨hU, fun hU => ?_⟩) | (refine fw_act 3 (by kernel_rfl) rfl rfl rfl ?_; refine act_pv (pv_ia (tS rfl) rfl rfl (by omega)) ?_; refine ⟨hU, fun hU => ?_⟩)
      first | (refine fw_take 4 rfl (by kernel_rfl) rfl rfl (by kernel_rfl) (by kernel_rfl) (by kernel_rfl) hNP hU rfl (fun w' hq => pv_fa (tF rfl) rfl) ?_)
      refine fw_last (by kernel_rfl) rfl rfl rfl rfl (by kernel_rfl) ?_
      obtain ⟨hw, -⟩ := hU; clear hNP
      refine act_storeF (i := 0) (f := 2) (a := ⟨auc1, some ⟨g1, 0, none⟩, 1, 1⟩) (u := ⟨⟨2, 1, 2, false, 10, 7, 1, 20⟩, some ⟨g1, 0, none⟩, 1, 1⟩) encC_len (tZ rfl) rfl (by omega) rfl rfl (oX.mono hw) rfl rfl (by omega) ?_; intro wz oZ hg hz
      have hO2 := (hO.mo hw).toX (us := [⟨⟨2, 1, 2, false, 10, 7, 1, 20⟩, [⟨2, 7⟩]⟩, ⟨auc2, [⟨1, 5⟩]⟩]) oZ hg rfl (bX (hO.mo hw))
      have H22 := pt_keptO (oX.mono hw) (H2.mono hw) (by decide) hg
      have hw2 := st_hw (grow_trans hWk hw) hg (Own.lt oX _ rfl).1
      repeat' (first | (refine is_qw ?_; first | (with_reducible refine qw_in ?_)))
      exact qw_join ⟨_, T28, wAucs⟩ (by repeat' (first | exact trivial | refine ⟨rfl, ?_⟩)) ⟨hw2, hO2.stR, H22, stOk_of k28.2, k28.1⟩
    refine cw_sw (x := 30) rfl rfl rfl rfl rfl (fun e => ?_) (fun e => ?_)
    · obtain rfl : k = 29 := by omega
      skip
      skip
      refine cw_drawnF 8 (fun w' => Below w2.heap.size w2 w' ∧ True) (by kernel_rfl) (by repeat (first | exact NoPanic.body | with_reducible refine NoPanic.then ?_ | with_reducible refine NoPanic.inBlock ?_)) (fun hNP => ?_)
      have hU := And.intro hw.drew trivial
      first | (refine fw_take 0 rfl (by kernel_rfl) rfl rfl (by kernel_rfl) (by kernel_rfl) (by kernel_rfl) hNP hU rfl (fun w' hq => pv_fa (tF rfl) rfl) ?_)
      first | (refine fw_take 1 rfl (by kernel_rfl) rfl rfl (by kernel_rfl) (by kernel_rfl) (by kernel_rfl) hNP hU rfl (fun w' hq => pv_load (t1 rfl) rfl (by first | exact PT.ld0 hq.2 rfl | exact PT.ld hq.2 rfl)) ?_) | (refine fw_take 1 rfl (by kernel_rfl) rfl rfl (by kernel_rfl) (by kernel_rfl) (by kernel_rfl) hNP hU rfl (fun w' hq => pv_loada (tA rfl) rfl (by first | exact PT.lda hq.2) (by rfl)) ?_) | (refine fw_take 1 rfl (by kernel_rfl) rfl rfl (by kernel_rfl) (by kernel_rfl) (by kernel_rfl) hNP hU rfl (fun w' hq => pv_load (t1 rfl) rfl (by first | exact PT.ld0 (H2.mono hq.1) rfl | exact PT.ld (H2.mono hq.1) rfl | exact SlR.ld (SX.mono hq.1) hx0 rfl | exact SlR.ld1 (SX.mono hq.1) hx0 rfl)) ?_) | (refine fw_take 1 rfl (by kernel_rfl) rfl rfl (by kernel_rfl) (by kernel_rfl) (by kernel_rfl) hNP hU rfl (fun w' hq => pv_loada (tA rfl) rfl (by first | exact PT.lda (H2.mono hq.1) | exact SlR.lda (SX.mono hq.1) hx0) (by rfl)) ?_)
      first | (refine fw_take 2 rfl (by kernel_rfl) rfl rfl (by kernel_rfl) (by kernel_rfl) (by kernel_rfl) hNP hU rfl (fun w' hq => pv_ia (tS rfl) rfl rfl hb0) ?_) | (refine fw_take 2 rfl (by kernel_rfl) rfl rfl (by kernel_rfl) (by kernel_rfl) (by kernel_rfl) hNP hU rfl (fun w' hq => pv_ian (tS rfl) rfl rfl (by omega)) ?_) | (refine fw_take 2 rfl (by kernel_rfl) rfl rfl (by kernel_rfl) (by kernel_rfl) (by kernel_rfl) hNP hU rfl (fun w' hq => pv_ia (tS rfl) rfl rfl (by omega)) ?_)
      first | (refine fw_take 3 rfl (by kernel_rfl) rfl rfl (by kernel_rfl) (by kernel_rfl) (by kernel_rfl) hNP hU rfl (fun w' hq => pv_fa (tF rfl) rfl) ?_)
      first | (refine fw_take 4 rfl (by kernel_rfl) rfl rfl (by kernel_rfl) (by kernel_rfl) (by kernel_rfl) hNP hU rfl (fun w' hq => pv_load (t1 rfl) rfl (by first | exact PT.ld0 hq.2 rfl | exact PT.ld hq.2 rfl)) ?_) | (refine fw_take 4 rfl (by kernel_rfl) rfl rfl (by kernel_rfl) (by kernel_rfl) (by kernel_rfl) hNP hU rfl (fun w' hq => pv_loada (tA rfl) rfl (by first | exact PT.lda hq.2) (by rfl)) ?_) | (refine fw_take 4 rfl (by kernel_rfl) rfl rfl (by kernel_rfl) (by kernel_rfl) (by kernel_rfl) hNP hU rfl (fun w' hq => pv_load (t1 rfl) rfl (by first | exact PT.ld0 (H2.mono hq.1) rfl | exact PT.ld (H2.mono hq.1) rfl | exact SlR.ld (SX.mono hq.1) hx0 rfl | exact SlR.ld1 (SX.mono hq.1) hx0 rfl)) ?_) | (refine fw_take 4 rfl (by kernel_rfl) rfl rfl (by kernel_rfl) (by kernel_rfl) (by kernel_rfl) hNP hU rfl (fun w' hq => pv_loada (tA rfl) rfl (by first | exact PT.lda (H2.mono hq.1) | exact SlR.lda (SX.mono hq.1) hx0) (by rfl)) ?_)
      first | (refine fw_take 5 rfl (by kernel_rfl) rfl rfl (by kernel_rfl) (by kernel_rfl) (by kernel_rfl) hNP hU rfl (fun w' hq => pv_assign rfl) ?_)
      first | (refine fw_act 6 (by kernel_rfl) rfl rfl rfl ?_; refine act_pv (pv_ia (tS rfl) rfl rfl hb0) ?_; refine ⟨hU, fun hU => ?_⟩) | (refine fw_act 6 (by kernel_rfl) rfl rfl rfl ?_; refine act_pv (pv_ian (tS rfl) rfl rfl (by omega)) ?_; refine ⟨hU, fun hU => ?_⟩) | (refine fw_act 6 (by kernel_rfl) rfl rfl rfl ?_; refine act_pv (pv_ia (tS rfl) rfl rfl (by omega)) ?_; refine ⟨hU, fun hU => ?_⟩)
      first | (refine fw_take 7 rfl (by kernel_rfl) rfl rfl (by kernel_rfl) (by kernel_rfl) (by kernel_rfl) hNP hU rfl (fun w' hq => pv_fa (tF rfl) rfl) ?_)
      refine fw_last (by kernel_rfl) rfl rfl rfl rfl (by kernel_rfl) ?_
      obtain ⟨hw, -⟩ := hU; clear hNP
      refine act_storeF (i := 0) (f := 0) (a := ⟨2, 7⟩) (u := ⟨3, 7⟩) encD_len (tZ rfl) rfl (by omega) rfl rfl (oD.mono hw) rfl rfl (by omega) ?_; intro wz oZ hg hz
      have hO2 := (hO.mo hw).toD hne oZ hg
      have H22 := pt_keptO (oD.mono hw) (H2.mono hw) (by decide) hg
      have hw2 := st_hw (grow_trans hWk hw) hg (Own.lt oD _ rfl).1
      repeat' (first | (refine is_qw ?_; first | (with_reducible refine qw_in ?_)))
      exact qw_join ⟨_, T29, wAucs⟩ (by repeat' (first | exact trivial | refine ⟨rfl, ?_⟩)) ⟨hw2, hO2.stR, H22, stOk_of k29.2, k29.1⟩
    refine cw_sw (x := 30) rfl rfl rfl rfl rfl (fun e => ?_) (fun e => ?_)
    · obtain rfl : k = 30 := by omega
      skip
      skip
      refine cw_drawnF 5 (fun w' => Below w2.heap.size w2 w' ∧ True) (by kernel_rfl) (by repeat (first | exact NoPanic.body | with_reducible refine NoPanic.then ?_ | with_reducible refine NoPanic.inBlock ?_)) (fun hNP => ?_)
      have hU := And.intro hw.drew trivial
      first | (refine fw_take 0 rfl (by kernel_rfl) rfl rfl (by kernel_rfl) (by kernel_rfl) (by kernel_rfl) hNP hU rfl (fun w' hq => pv_fa (tF rfl) rfl) ?_)
      first | (refine fw_take 1 rfl (by kernel_rfl) rfl rfl (by kernel_rfl) (by kernel_rfl) (by kernel_rfl) hNP hU rfl (fun w' hq => pv_load (t1 rfl) rfl (by first | exact PT.ld0 hq.2 rfl | exact PT.ld hq.2 rfl)) ?_) | (refine fw_take 1 rfl (by kernel_rfl) rfl rfl (by kernel_rfl) (by kernel_rfl) (by kernel_rfl) hNP hU rfl (fun w' hq => pv_loada (tA rfl) rfl (by first | exact PT.lda hq.2) (by rfl)) ?_) | (refine fw_take 1 rfl (by kernel_rfl) rfl rfl (by kernel_rfl) (by kernel_rfl) (by kernel_rfl) hNP hU rfl (fun w' hq => pv_load (t1 rfl) rfl (by first | exact PT.ld0 (H2.mono hq.1) rfl | exact PT.ld (H2.mono hq.1) rfl)) ?_) | (refine fw_take 1 rfl (by kernel_rfl) rfl rfl (by kernel_rfl) (by kernel_rfl) (by kernel_rfl) hNP hU rfl (fun w' hq => pv_loada (tA rfl) rfl (by first | exact PT.lda (H2.mono hq.1)) (by rfl)) ?_)
      first | (refine fw_take 2 rfl (by kernel_rfl) rfl rfl (by kernel_rfl) (by kernel_rfl) (by kernel_rfl) hNP hU rfl (fun w' hq => pv_assign rfl) ?_)
      first | (refine fw_act 3 (by kernel_rfl) rfl rfl rfl ?_; refine act_pv (pv_ian (tS rfl) rfl rfl (by omega)) ?_; refine ⟨hU, fun hU => ?_⟩) | (refine fw_act 3 (by kernel_rfl) rfl rfl rfl ?_; refine act_pv (pv_ia (tS rfl) rfl rfl (by omega)) ?_; refine ⟨hU, fun hU => ?_⟩)
      first | (refine fw_take 4 rfl (by kernel_rfl) rfl rfl (by kernel_rfl) (by kernel_rfl) (by kernel_rfl) hNP hU rfl (fun w' hq => pv_fa (tF rfl) rfl) ?_)
      refine fw_last (by kernel_rfl) rfl rfl rfl rfl (by kernel_rfl) ?_
      obtain ⟨hw, -⟩ := hU; clear hNP
      refine act_storeF (i := 0) (f := 5) (a := ord1) (u := ⟨1, 1, 1, 1, 10, 5⟩) encO_len (tZ rfl) rfl (by omega) rfl rfl (oO.mono hw) rfl rfl (by omega) ?_; intro wz oZ hg hz
      have hO2 := (hO.mo hw).toO oZ hg
      have H22 := pt_keptO (oO.mono hw) (H2.mono hw) (by decide) hg
      have hw2 := st_hw (grow_trans hWk hw) hg (Own.lt oO _ rfl).1
      repeat' (first | (refine is_qw ?_; first | (with_reducible refine qw_in ?_)))
      exact qw_join ⟨_, T30, wHeld⟩ (by repeat' (first | exact trivial | refine ⟨rfl, ?_⟩)) ⟨hw2, hO2.stR, H22, stOk_of k30.2, k30.1⟩
    refine cw_sw (x := 30) rfl rfl rfl rfl rfl (fun e => ?_) (fun e => ?_)
    · obtain rfl : k = 31 := by omega
      skip
      skip
      refine cw_drawnF 5 (fun w' => Below w2.heap.size w2 w' ∧ True) (by kernel_rfl) (by repeat (first | exact NoPanic.body | with_reducible refine NoPanic.then ?_ | with_reducible refine NoPanic.inBlock ?_)) (fun hNP => ?_)
      have hU := And.intro hw.drew trivial
      first | (refine fw_take 0 rfl (by kernel_rfl) rfl rfl (by kernel_rfl) (by kernel_rfl) (by kernel_rfl) hNP hU rfl (fun w' hq => pv_fa (tF rfl) rfl) ?_)
      first | (refine fw_take 1 rfl (by kernel_rfl) rfl rfl (by kernel_rfl) (by kernel_rfl) (by kernel_rfl) hNP hU rfl (fun w' hq => pv_load (t1 rfl) rfl (by first | exact PT.ld0 hq.2 rfl | exact PT.ld hq.2 rfl)) ?_) | (refine fw_take 1 rfl (by kernel_rfl) rfl rfl (by kernel_rfl) (by kernel_rfl) (by kernel_rfl) hNP hU rfl (fun w' hq => pv_loada (tA rfl) rfl (by first | exact PT.lda hq.2) (by rfl)) ?_) | (refine fw_take 1 rfl (by kernel_rfl) rfl rfl (by kernel_rfl) (by kernel_rfl) (by kernel_rfl) hNP hU rfl (fun w' hq => pv_load (t1 rfl) rfl (by first | exact PT.ld0 (H2.mono hq.1) rfl | exact PT.ld (H2.mono hq.1) rfl)) ?_) | (refine fw_take 1 rfl (by kernel_rfl) rfl rfl (by kernel_rfl) (by kernel_rfl) (by kernel_rfl) hNP hU rfl (fun w' hq => pv_loada (tA rfl) rfl (by first | exact PT.lda (H2.mono hq.1)) (by rfl)) ?_)
      first | (refine fw_take 2 rfl (by kernel_rfl) rfl rfl (by kernel_rfl) (by kernel_rfl) (by kernel_rfl) hNP hU rfl (fun w' hq => pv_assign rfl) ?_)
      first | (refine fw_act 3 (by kernel_rfl) rfl rfl rfl ?_; refine act_pv (pv_ian (tS rfl) rfl rfl (by omega)) ?_; refine ⟨hU, fun hU => ?_⟩) | (refine fw_act 3 (by kernel_rfl) rfl rfl rfl ?_; refine act_pv (pv_ia (tS rfl) rfl rfl (by omega)) ?_; refine ⟨hU, fun hU => ?_⟩)
      first | (refine fw_take 4 rfl (by kernel_rfl) rfl rfl (by kernel_rfl) (by kernel_rfl) (by kernel_rfl) hNP hU rfl (fun w' hq => pv_fa (tF rfl) rfl) ?_)
      refine fw_last (by kernel_rfl) rfl rfl rfl rfl (by kernel_rfl) ?_
      obtain ⟨hw, -⟩ := hU; clear hNP
      refine act_storeF (i := 0) (f := 4) (a := ⟨auc1, some ⟨g1, 0, none⟩, 1, 1⟩) (u := ⟨⟨2, 1, 1, false, 9, 7, 1, 20⟩, some ⟨g1, 0, none⟩, 1, 1⟩) encC_len (tZ rfl) rfl (by omega) rfl rfl (oX.mono hw) rfl rfl (by omega) ?_; intro wz oZ hg hz
      have hO2 := (hO.mo hw).toX (us := [⟨⟨2, 1, 1, false, 9, 7, 1, 20⟩, [⟨2, 7⟩]⟩, ⟨auc2, [⟨1, 5⟩]⟩]) oZ hg rfl (bX (hO.mo hw))
      have H22 := pt_keptO (oX.mono hw) (H2.mono hw) (by decide) hg
      have hw2 := st_hw (grow_trans hWk hw) hg (Own.lt oX _ rfl).1
      repeat' (first | (refine is_qw ?_; first | (with_reducible refine qw_in ?_)))
      exact qw_join ⟨_, T31, wHeld⟩ (by repeat' (first | exact trivial | refine ⟨rfl, ?_⟩)) ⟨hw2, hO2.stR, H22, stOk_of k31.2, k31.1⟩
    refine cw_sw (x := 30) rfl rfl rfl rfl rfl (fun e => ?_) (fun e => ?_)
    · obtain rfl : k = 32 := by omega
      skip
      skip
      refine cw_drawnF 8 (fun w' => Below w2.heap.size w2 w' ∧ True) (by kernel_rfl) (by repeat (first | exact NoPanic.body | with_reducible refine NoPanic.then ?_ | with_reducible refine NoPanic.inBlock ?_)) (fun hNP => ?_)
      have hU := And.intro hw.drew trivial
      first | (refine fw_take 0 rfl (by kernel_rfl) rfl rfl (by kernel_rfl) (by kernel_rfl) (by kernel_rfl) hNP hU rfl (fun w' hq => pv_fa (tF rfl) rfl) ?_)
      first | (refine fw_take 1 rfl (by kernel_rfl) rfl rfl (by kernel_rfl) (by kernel_rfl) (by kernel_rfl) hNP hU rfl (fun w' hq => pv_load (t1 rfl) rfl (by first | exact PT.ld0 hq.2 rfl | exact PT.ld hq.2 rfl)) ?_) | (refine fw_take 1 rfl (by kernel_rfl) rfl rfl (by kernel_rfl) (by kernel_rfl) (by kernel_rfl) hNP hU rfl (fun w' hq => pv_loada (tA rfl) rfl (by first | exact PT.lda hq.2) (by rfl)) ?_) | (refine fw_take 1 rfl (by kernel_rfl) rfl rfl (by kernel_rfl) (by kernel_rfl) (by kernel_rfl) hNP hU rfl (fun w' hq => pv_load (t1 rfl) rfl (by first | exact PT.ld0 (H2.mono hq.1) rfl | exact PT.ld (H2.mono hq.1) rfl | exact SlR.ld (SX.mono hq.1) hx0 rfl | exact SlR.ld1 (SX.mono hq.1) hx0 rfl)) ?_) | (refine fw_take 1 rfl (by kernel_rfl) rfl rfl (by kernel_rfl) (by kernel_rfl) (by kernel_rfl) hNP hU rfl (fun w' hq => pv_loada (tA rfl) rfl (by first | exact PT.lda (H2.mono hq.1) | exact SlR.lda (SX.mono hq.1) hx0) (by rfl)) ?_)
      first | (refine fw_take 2 rfl (by kernel_rfl) rfl rfl (by kernel_rfl) (by kernel_rfl) (by kernel_rfl) hNP hU rfl (fun w' hq => pv_ia (tS rfl) rfl rfl hb0) ?_) | (refine fw_take 2 rfl (by kernel_rfl) rfl rfl (by kernel_rfl) (by kernel_rfl) (by kernel_rfl) hNP hU rfl (fun w' hq => pv_ian (tS rfl) rfl rfl (by omega)) ?_) | (refine fw_take 2 rfl (by kernel_rfl) rfl rfl (by kernel_rfl) (by kernel_rfl) (by kernel_rfl) hNP hU rfl (fun w' hq => pv_ia (tS rfl) rfl rfl (by omega)) ?_)
      first | (refine fw_take 3 rfl (by kernel_rfl) rfl rfl (by kernel_rfl) (by kernel_rfl) (by kernel_rfl) hNP hU rfl (fun w' hq => pv_fa (tF rfl) rfl) ?_)
      first | (refine fw_take 4 rfl (by kernel_rfl) rfl rfl (by kernel_rfl) (by kernel_rfl) (by kernel_rfl) hNP hU rfl (fun w' hq => pv_load (t1 rfl) rfl (by first | exact PT.ld0 hq.2 rfl | exact PT.ld hq.2 rfl)) ?_) | (refine fw_take 4 rfl (by kernel_rfl) rfl rfl (by kernel_rfl) (by kernel_rfl) (by kernel_rfl) hNP hU rfl (fun w' hq => pv_loada (tA rfl) rfl (by first | exact PT.lda hq.2) (by rfl)) ?_) | (refine fw_take 4 rfl (by kernel_rfl) rfl rfl (by kernel_rfl) (by kernel_rfl) (by kernel_rfl) hNP hU rfl (fun w' hq => pv_load (t1 rfl) rfl (by first | exact PT.ld0 (H2.mono hq.1) rfl | exact PT.ld (H2.mono hq.1) rfl | exact SlR.ld (SX.mono hq.1) hx0 rfl | exact SlR.ld1 (SX.mono hq.1) hx0 rfl)) ?_) | (refine fw_take 4 rfl (by kernel_rfl) rfl rfl (by kernel_rfl) (by kernel_rfl) (by kernel_rfl) hNP hU rfl (fun w' hq => pv_loada (tA rfl) rfl (by first | exact PT.lda (H2.mono hq.1) | exact SlR.lda (SX.mono hq.1) hx0) (by rfl)) ?_)
      first | (refine fw_take 5 rfl (by kernel_rfl) rfl rfl (by kernel_rfl) (by kernel_rfl) (by kernel_rfl) hNP hU rfl (fun w' hq => pv_assign rfl) ?_)
      first | (refine fw_act 6 (by kernel_rfl) rfl rfl rfl ?_; refine act_pv (pv_ia (tS rfl) rfl rfl hb0) ?_; refine ⟨hU, fun hU => ?_⟩) | (refine fw_act 6 (by kernel_rfl) rfl rfl rfl ?_; refine act_pv (pv_ian (tS rfl) rfl rfl (by omega)) ?_; refine ⟨hU, fun hU => ?_⟩) | (refine fw_act 6 (by kernel_rfl) rfl rfl rfl ?_; refine act_pv (pv_ia (tS rfl) rfl rfl (by omega)) ?_; refine ⟨hU, fun hU => ?_⟩)
      first | (refine fw_take 7 rfl (by kernel_rfl) rfl rfl (by kernel_rfl) (by kernel_rfl) (by kernel_rfl) hNP hU rfl (fun w' hq => pv_fa (tF rfl) rfl) ?_)
      refine fw_last (by kernel_rfl) rfl rfl rfl rfl (by kernel_rfl) ?_
      obtain ⟨hw, -⟩ := hU; clear hNP
      refine act_storeF (i := 0) (f := 1) (a := ⟨2, 7⟩) (u := ⟨2, 8⟩) encD_len (tZ rfl) rfl (by omega) rfl rfl (oD.mono hw) rfl rfl (by omega) ?_; intro wz oZ hg hz
      have hO2 := (hO.mo hw).toD hne oZ hg
      have H22 := pt_keptO (oD.mono hw) (H2.mono hw) (by decide) hg
      have hw2 := st_hw (grow_trans hWk hw) hg (Own.lt oD _ rfl).1
      repeat' (first | (refine is_qw ?_; first | (with_reducible refine qw_in ?_)))
      exact qw_join ⟨_, T32, wHeld⟩ (by repeat' (first | exact trivial | refine ⟨rfl, ?_⟩)) ⟨hw2, hO2.stR, H22, stOk_of k32.2, k32.1⟩
    refine cw_sw (x := 30) rfl rfl rfl rfl rfl (fun e => ?_) (fun e => ?_)
    · obtain rfl : k = 33 := by omega
      skip
      repeat' (first | (refine lw_pure rfl (pv_assign rfl) ?_) | (refine is_cw ?_; first | (refine cw_region ?_)) | ((refine is_fa ?_; first | (refine lw_pure rfl (pv_fa (tF rfl) rfl) ?_))))
      refine lw_store H2 (tZ rfl) rfl rfl rfl (by simp) ?_; intro wz0 H25 hg0 hz0
      have hO2 := (hO.nO (Own.nil _)).st H2 hg0
      have hw2 := st_hw hWk hg0 hN2
      repeat' (first | (refine is_qw ?_; first | (with_reducible refine qw_in ?_)) | (refine lw_nil ?_))
      exact qw_join ⟨_, T33, wHeld⟩ (by repeat' (first | exact trivial | refine ⟨rfl, ?_⟩)) ⟨hw2, hO2.stR, H25, stOk_of k33.2, k33.1⟩
    refine cw_sw (x := 30) rfl rfl rfl rfl rfl (fun e => ?_) (fun e => ?_)
    · obtain rfl : k = 34 := by omega
      skip
      repeat' (first | (refine lw_pure rfl (pv_assign rfl) ?_) | (refine is_cw ?_; first | (refine cw_region ?_)) | ((refine is_fa ?_; first | (refine lw_pure rfl (pv_fa (tF rfl) rfl) ?_))))
      refine lw_store H2 (tZ rfl) rfl rfl rfl (by simp) ?_; intro wz0 H25 hg0 hz0
      have hO2 := (hO.nX (us := []) (Own.nil _) rfl (fun j x a hx _ => by simp at hx)).st H2 hg0
      have hw2 := st_hw hWk hg0 hN2
      repeat' (first | (refine is_qw ?_; first | (with_reducible refine qw_in ?_)) | (refine lw_nil ?_))
      exact qw_join ⟨_, T34, wHeld⟩ (by repeat' (first | exact trivial | refine ⟨rfl, ?_⟩)) ⟨hw2, hO2.stR, H25, stOk_of k34.2, k34.1⟩
    refine cw_sw (x := 30) rfl rfl rfl rfl rfl (fun e => ?_) (fun e => ?_)
    · obtain rfl : k = 35 := by omega
      skip
      repeat' (first | (refine is_cw ?_; first | (refine cw_seq ?_) | (refine cw_region ?_)) | ((refine is_load ?_; first | (refine lw_pure rfl (pv_load (t1 rfl) rfl (by first | exact PT.ld0 (H2.mono hw) rfl | exact PT.ld (H2.mono hw) rfl)) ?_))) | ((refine is_fa ?_; first | (refine lw_pure rfl (pv_fa (tF rfl) rfl) ?_))) | ((refine is_ia ?_; first | (refine lw_pure rfl (pv_ia (tS rfl) rfl rfl (by omega)) ?_))))
      refine lw_storeF (i := 0) (f := 2) (a := insG) (u := ⟨⟨#[103, 111, 108, 100]⟩, 2, true⟩) encN_len (tZ rfl) rfl (by omega) rfl rfl (oI.mono hw) rfl rfl (by omega) ?_; intro wz oZ hg hz
      replace hO := (hO.mo hw).toI oZ hg
      replace H2 := pt_keptO (oI.mono hw) (H2.mono hw) (by decide) hg
      replace oO := own_keptO (oO.mono hw) (oI.mono hw) (by decide) hg
      replace hWk := st_hw (grow_trans hWk hw) hg (Own.lt oI _ rfl).1
      clear hg hz hw oZ
      have hw := Below.refl wz.heap.size wz
      repeat' (first | (refine is_cw ?_; first | (refine cw_seq ?_) | (refine cw_region ?_)) | (refine is_qw ?_; first | (with_reducible refine qw_then ?_)) | (refine lw_nil ?_) | ((refine is_fa ?_; first | (refine lw_pure rfl (pv_fa (tF rfl) rfl) ?_))))
      refine lw_store H2 (tZ rfl) rfl rfl rfl (by simp) ?_; intro wy H23 hg hz
      replace oO := oO.kept hg (Or.inr (own_ne_ptN oO H2 (by decide)))
      replace hO := (hO.num 30 100 4 8).st H2 hg
      replace hWk := st_hw hWk hg hN2
      replace H2 : PT wy N2 30 [.int .i64 30, .int .i64 100, .int .i64 4, .int .i64 8, .slice (some ⟨gA, 0, none⟩) 3 cA, .slice (some ⟨gI, 0, none⟩) 1 1, .slice (some ⟨gR, 0, none⟩) 6 6, .slice (some ⟨gO, 0, none⟩) 2 2, .slice (some ⟨gX, 0, none⟩) 2 cX] := H23
      clear hg hz hw H23
      have hw := Below.refl wy.heap.size wy
      repeat' (first | (refine is_qw ?_; first | (with_reducible refine qw_then ?_)) | (refine lw_nil ?_))
      refine cw_drawn (fun w' => PT w' N2 30 [.int .i64 30, .int .i64 100, .int .i64 4, .int .i64 8, .slice (some ⟨gA, 0, none⟩) 3 cA, .slice (some ⟨gI, 0, none⟩) 1 1, .slice (some ⟨gR, 0, none⟩) 6 6, .slice (some ⟨gO, 0, none⟩) 2 2, .slice (some ⟨gX, 0, none⟩) 2 cX]) (by kernel_rfl) (by repeat (first | exact NoPanic.body | with_reducible refine NoPanic.then ?_ | with_reducible refine NoPanic.inBlock ?_)) (fun hNP => ?_)
      have hS := H2.mono (below_drew _)
      (refine at0 0 rfl (fun w' hq => pv_fa (tF rfl) rfl) ?_)
      (refine at0 1 rfl (fun w' hq => pv_load (t1 rfl) rfl (PT.ld hq rfl)) ?_)
      (refine at0 2 rfl (fun w' hq => pv_fa (tF rfl) rfl) ?_)
      (refine at0 3 rfl (fun w' hq => pv_load (t1 rfl) rfl (PT.ld hq rfl)) ?_)
      (refine at0 4 rfl (fun w' hq => pv_ia (tS rfl) rfl rfl (by omega)) ?_)
      (refine at0 5 rfl (fun w' hq => pv_fa (tF rfl) rfl) ?_)
      refine aw_act 6 (by kernel_rfl) rfl rfl rfl ?_
      refine act_storeF (i := 0) (f := 4) (a := ord1) (u := ⟨1, 1, 1, 1, 20, 4⟩) encO_len (tZ rfl) rfl (by omega) rfl rfl (oO.mono (below_drew _)) rfl rfl (by omega) ?_; intro w6 oP hg6 hz6; refine ⟨pt_keptO (oO.mono (below_drew _)) hS (by decide) hg6, fun hS => ?_⟩
      (refine at0 7 rfl (fun w' hq => pv_ia (tS rfl) rfl rfl (by omega)) ?_)
      (refine at0 8 rfl (fun w' hq => pv_fa (tF rfl) rfl) ?_)
      refine aw_act 9 (by kernel_rfl) rfl rfl rfl ?_
      refine act_storeF (i := 0) (f := 5) (a := ⟨1, 1, 1, 1, 20, 4⟩) (u := ⟨1, 1, 1, 1, 20, 2⟩) (xs := [⟨1, 1, 1, 1, 20, 4⟩, ord2]) encO_len (tZ rfl) rfl (by omega) rfl rfl oP rfl rfl (by omega) ?_; intro w7 oQ hg7 hz7; refine ⟨pt_keptO oP hS (by decide) hg7, fun hS => ?_⟩
      refine aw_done (by kernel_rfl) ?_
      replace H22 := hS; clear hS hNP
      have hO2 := ((hO.mo (below_drew _)).toO oP hg6).toO oQ hg7
      have hw2 := st_hw (st_hw (grow_trans hWk (below_drew _)) hg6 (Own.lt oO _ rfl).1) hg7 (Own.lt oO _ rfl).1
      repeat' (first | (refine is_qw ?_; first | (with_reducible refine qw_in ?_)))
      exact qw_join ⟨_, T35, wNone⟩ (by repeat' (first | exact trivial | refine ⟨rfl, ?_⟩)) ⟨hw2, hO2.stR, H22, stOk_of k35.2, k35.1⟩
    refine cw_sw (x := 30) rfl rfl rfl rfl rfl (fun e => ?_) (fun e => ?_)
    · obtain rfl : k = 36 := by omega
      skip
      repeat' (first | (refine is_cw ?_; first | (refine cw_region ?_)) | ((refine is_load ?_; first | (refine lw_pure rfl (pv_load (t1 rfl) rfl (by first | exact PT.ld0 (H2.mono hw) rfl | exact PT.ld (H2.mono hw) rfl)) ?_))) | ((refine is_fa ?_; first | (refine lw_pure rfl (pv_fa (tF rfl) rfl) ?_))) | ((refine is_ia ?_; first | (refine lw_pure rfl (pv_ia (tS rfl) rfl rfl (by omega)) ?_))))
      refine lw_storeF (i := 2) (f := 0) (a := accC) (u := ⟨⟨#[97, 98, 99, 100, 101, 102, 103, 104, 105, 106, 107, 108, 109, 110, 111, 112, 113, 114, 115, 116, 117, 118, 119, 120]⟩, false⟩) encA_len (tZ rfl) rfl (by omega) rfl rfl (oA.mono hw) rfl rfl (by omega) ?_; intro wz oZ hg hz
      have hO2 := (hO.mo hw).toA oZ hg
      have H22 := pt_keptO (oA.mono hw) (H2.mono hw) (by decide) hg
      have hw2 := st_hw (grow_trans hWk hw) hg (Own.lt oA _ rfl).1
      repeat' (first | (refine is_qw ?_; first | (with_reducible refine qw_in ?_)) | (refine lw_nil ?_))
      exact qw_join ⟨_, T36, wNone⟩ (by repeat' (first | exact trivial | refine ⟨rfl, ?_⟩)) ⟨hw2, hO2.stR, H22, stOk_of k36.2, k36.1⟩
    refine cw_sw (x := 30) rfl rfl rfl rfl rfl (fun e => ?_) (fun e => ?_)
    · obtain rfl : k = 37 := by omega
      skip
      repeat' (first | (refine is_cw ?_; first | (refine cw_region ?_)) | ((refine is_fa ?_; first | (refine lw_pure rfl (pv_fa (tF rfl) rfl) ?_))))
      refine lw_store H2 (tZ rfl) rfl rfl rfl (by simp) ?_; intro wz0 H25 hg0 hz0
      repeat' (first | ((refine is_fa ?_; first | (refine lw_pure rfl (pv_fa (tF rfl) rfl) ?_))))
      refine lw_store H25 (tZ rfl) rfl rfl rfl (by simp) ?_; intro wz1 H26 hg1 hz1
      have hO2 := ((hO.num 9 100 1099511627777 1099511627777).st H2 hg0).st H25 hg1
      have hw2 := st_hw (st_hw hWk hg0 hN2) hg1 hN2
      repeat' (first | (refine is_qw ?_; first | (with_reducible refine qw_in ?_)) | (refine lw_nil ?_))
      exact qw_join ⟨_, T37, wNone⟩ (by repeat' (first | exact trivial | refine ⟨rfl, ?_⟩)) ⟨hw2, hO2.stR, H26, stOk_of k37.2, k37.1⟩
    refine cw_sw (x := 30) rfl rfl rfl rfl rfl (fun e => ?_) (fun e => ?_)
    · obtain rfl : k = 38 := by omega
      skip
      repeat' (first | (refine lw_pure rfl (pv_assign rfl) ?_) | (refine is_cw ?_; first | (refine cw_seq ?_) | (refine cw_region ?_)) | (refine is_qw ?_; first | (with_reducible refine qw_then ?_)) | (refine lw_nil ?_))
      refine cw_drawn (fun w' => PT w' N2 30 [.int .i64 9, .int .i64 100, .int .i64 4, .int .i64 8, .slice (some ⟨gA, 0, none⟩) 3 cA, .slice (some ⟨gI, 0, none⟩) 1 1, .slice (some ⟨gR, 0, none⟩) 6 6, .slice (some ⟨gO, 0, none⟩) 2 2, .slice (some ⟨gX, 0, none⟩) 2 cX]) (by kernel_rfl) (by repeat (first | exact NoPanic.body | with_reducible refine NoPanic.then ?_ | with_reducible refine NoPanic.inBlock ?_)) (fun hNP => ?_)
      have hS := H2.mono (below_drew _)
      (refine at0 0 rfl (fun w' hq => pv_fa (tF rfl) rfl) ?_)
      (refine at0 1 rfl (fun w' hq => pv_load (t1 rfl) rfl (PT.ld hq rfl)) ?_)
      (refine at0 2 rfl (fun w' hq => pv_fa (tF rfl) rfl) ?_)
      (refine at0 3 rfl (fun w' hq => pv_load (t1 rfl) rfl (PT.ld hq rfl)) ?_)
      (refine at0 4 rfl (fun w' hq => pv_fa (tF rfl) rfl) ?_)
      (refine at0 5 rfl (fun w' hq => pv_load (t1 rfl) rfl (PT.ld hq rfl)) ?_)
      (refine at0 6 rfl (fun w' hq => pv_ia (tS rfl) rfl rfl (by omega)) ?_)
      (refine at0 8 rfl (fun w' hq => pv_fa (tF rfl) rfl) ?_)
      (refine at0 9 rfl (fun w' hq => pv_load (t1 rfl) rfl (PT.ld hq rfl)) ?_)
      (refine at0 10 rfl (fun w' hq => pv_ia (tS rfl) rfl rfl (by omega)) ?_)
      refine aw_act2 7 11 (by kernel_rfl) rfl rfl rfl rfl rfl rfl ?_ ?_
      · refine act_pv (pv_loada (tA rfl) rfl (SlR.lda (SR.mono (below_drew _)) hr3) (by rfl)) ?_; refine ⟨hS, fun hS => ?_⟩
        refine aw_act 11 (by kernel_rfl) rfl rfl rfl ?_
        refine act_pv (pv_loada (tA rfl) rfl (SlR.lda (SR.mono (below_drew _)) hr2) (by rfl)) ?_; refine ⟨hS, fun hS => ?_⟩
        (refine at0 12 rfl (fun w' hq => pv_ia (tS rfl) rfl rfl (by omega)) ?_)
        refine aw_act 13 (by kernel_rfl) rfl rfl rfl ?_
        refine act_storeP (i := 2) (u := ⟨1, 1, 0, 10⟩) (tZ rfl) encR_len encR_one rfl (by omega) rfl rfl (oR.mono (below_drew _)) (by simp) ?_; intro w6 oP hg6 hz6; refine ⟨pt_keptO (oR.mono (below_drew _)) hS (by decide) hg6, fun hS => ?_⟩
        (refine at0 14 rfl (fun w' hq => pv_ia (tS rfl) rfl rfl (by omega)) ?_)
        refine aw_act 15 (by kernel_rfl) rfl rfl rfl ?_
        refine act_storeP (i := 3) (u := ⟨1, 0, 5, 45⟩) (xs := [⟨0, 0, -100, 0⟩, ⟨0, 1, -30, 0⟩, ⟨1, 1, 0, 10⟩, ⟨1, 1, 0, 10⟩, ⟨2, 0, 43, 7⟩, ⟨2, 1, 12, 8⟩]) (tZ rfl) encR_len encR_one rfl (by omega) rfl rfl oP (by simp) ?_; intro w7 oQ hg7 hz7; refine ⟨pt_keptO oP hS (by decide) hg7, fun hS => ?_⟩
        refine aw_done (by kernel_rfl) ?_
        replace H22 := hS; clear hS hNP
        have hO2 := ((hO.mo (below_drew _)).toR oP hg6).toR oQ hg7; have hw2 := st_hw (st_hw (grow_trans hWk (below_drew _)) hg6 (Own.lt oR _ rfl).1) hg7 (Own.lt oR _ rfl).1; with_reducible refine qw_in ?_; exact qw_join ⟨_, T38, wRows⟩ (sub3 rfl rfl rfl) ⟨hw2, hO2.stR, H22, stOk_of k38.2, k38.1⟩
      · refine act_pv (pv_loada (tA rfl) rfl (SlR.lda (SR.mono (below_drew _)) hr2) (by rfl)) ?_; refine ⟨hS, fun hS => ?_⟩
        refine aw_act 7 (by kernel_rfl) rfl rfl rfl ?_
        refine act_pv (pv_loada (tA rfl) rfl (SlR.lda (SR.mono (below_drew _)) hr3) (by rfl)) ?_; refine ⟨hS, fun hS => ?_⟩
        (refine at0 12 rfl (fun w' hq => pv_ia (tS rfl) rfl rfl (by omega)) ?_)
        refine aw_act 13 (by kernel_rfl) rfl rfl rfl ?_
        refine act_storeP (i := 2) (u := ⟨1, 1, 0, 10⟩) (tZ rfl) encR_len encR_one rfl (by omega) rfl rfl (oR.mono (below_drew _)) (by simp) ?_; intro w6 oP hg6 hz6; refine ⟨pt_keptO (oR.mono (below_drew _)) hS (by decide) hg6, fun hS => ?_⟩
        (refine at0 14 rfl (fun w' hq => pv_ia (tS rfl) rfl rfl (by omega)) ?_)
        refine aw_act 15 (by kernel_rfl) rfl rfl rfl ?_
        refine act_storeP (i := 3) (u := ⟨1, 0, 5, 45⟩) (xs := [⟨0, 0, -100, 0⟩, ⟨0, 1, -30, 0⟩, ⟨1, 1, 0, 10⟩, ⟨1, 1, 0, 10⟩, ⟨2, 0, 43, 7⟩, ⟨2, 1, 12, 8⟩]) (tZ rfl) encR_len encR_one rfl (by omega) rfl rfl oP (by simp) ?_; intro w7 oQ hg7 hz7; refine ⟨pt_keptO oP hS (by decide) hg7, fun hS => ?_⟩
        refine aw_done (by kernel_rfl) ?_
        replace H22 := hS; clear hS hNP
        have hO2 := ((hO.mo (below_drew _)).toR oP hg6).toR oQ hg7; have hw2 := st_hw (st_hw (grow_trans hWk (below_drew _)) hg6 (Own.lt oR _ rfl).1) hg7 (Own.lt oR _ rfl).1; with_reducible refine qw_in ?_; exact qw_join ⟨_, T38, wRows⟩ (sub3 rfl rfl rfl) ⟨hw2, hO2.stR, H22, stOk_of k38.2, k38.1⟩
    repeat' (first | (refine lw_pure rfl (pv_assign rfl) ?_) | (refine is_cw ?_; first | (refine cw_seq ?_) | (refine cw_region ?_)) | (refine is_qw ?_; first | (with_reducible refine qw_then ?_)) | (refine lw_nil ?_) | ((refine is_load ?_; first | (refine lw_pure rfl (pv_load (t1 rfl) rfl (by first | exact PT.ld0 (H2.mono hw) rfl | exact PT.ld (H2.mono hw) rfl)) ?_))) | ((refine is_fa ?_; first | (refine lw_pure rfl (pv_fa (tF rfl) rfl) ?_))) | ((refine is_bd ?_; first | (refine lw_pure rfl (tyB_39 rfl rfl rfl) ?_))))
    refine lw_bsN (vs := [.agg (encR ⟨3, 0, 0, 0⟩).toArray]) (cs := encR ⟨3, 0, 0, 0⟩) elemR rfl rfl rfl (by omega) (by omega) rfl (by simp [Value.cells, encR]) ?_; intro NQ w3 hNQ HQ hb
    replace hO := hO.mo hb
    replace oR := oR.mono hb
    replace H2 := H2.mono hb
    replace hWk := grow_trans hWk hb
    clear hb hw
    have hw := Below.refl w3.heap.size w3
    skip
    refine lw_app elemR encR_len encR_one rfl rfl rfl oR (HQ.slR (xs := [⟨3, 0, 0, 0⟩]) encR_len rfl (by omega)) rfl hWk.size (by simp) (by simp [maxLen]) ?_; intro vm w4 oM hg hb
    obtain ⟨aR, cR, rfl⟩ := own_shapeM (m := 7) encR_len oM rfl
    replace H2 := pt_keptO oR H2 (by decide) hg
    replace hO := hO.toR oM hg
    replace hWk := hWk.trans hb
    clear hg hb hw
    have hw := Below.refl w4.heap.size w4
    repeat' (first | ((refine is_fa ?_; first | (refine lw_pure rfl (pv_fa (tF rfl) rfl) ?_))))
    refine lw_store H2 (tZ rfl) rfl rfl rfl (by simp) ?_; intro w5 H22 hg hz
    have hO2 := hO.st H2 hg
    have hw2 := st_hw hWk hg hN2
    repeat' (first | (refine is_qw ?_; first | (with_reducible refine qw_in ?_)) | (refine lw_nil ?_))
    exact qw_join ⟨_, T39, wRows⟩ (by repeat' (first | exact trivial | refine ⟨rfl, ?_⟩)) ⟨hw2, hO2.stR, H22, stOk_of k39.2, k39.1⟩
  have hke : k = 40 := by omega
  subst hke
  have hE2 := hE.mono hw
  clear hw
  have hw := Below.refl wk.heap.size wk
  repeat' (first | (refine lw_pure rfl (pv_move rfl) ?_) | (refine is_cw ?_; first | (refine cw_seq ?_) | (refine cw_region ?_) | (refine cw_false rfl rfl ?_) | (refine cw_exit ?_)) | (refine is_qw ?_; first | (with_reducible refine qw_then ?_) | (with_reducible refine qw_in_hit ?_) | (with_reducible refine qw_then_exit ?_)) | (refine lw_nil ?_) | ((refine is_bin ?_; first | (refine lw_pure rfl (pv_lss rfl rfl) ?_))))
  refine lw_call (f := 10) (by kernel_rfl) rfl rfl (full_c _) ?_; rintro e w1 ⟨⟨gA, cA, gI, gR, gO, gX, cX, g1, g2, hne, rfl, hO⟩, hb⟩; refine ⟨_, rfl, ?_⟩; replace hw := grow_trans hw hb; clear hb
  have hS := hO.stR
  clear hO hne
  skip
  refine lw_varN rfl (by first | exact tyv_29 | exact tyv_30 | exact tyv_33 | exact tyv_34 | exact tyv_36 | exact tyv_37 | exact tyv_38 | exact tyv_39 | exact tyv_40 | exact tyv_41 | exact tyv_43 | exact tyv_44 | exact tyv_45 | exact tyv_46 | exact tyv_73 | exact tyv_74 | exact tyv_80 | exact tyv_81 | exact tyv_107 | exact tyv_108 | exact tyv_123 | exact tyv_146 | exact tyv_147 | exact tyv_148 | exact tyv_149) rfl (tZ rfl) (fun _ => rfl) rfl rfl ?_; intro N5 w5 hN5 H5 hb
  replace H5 : PT w5 N5 30 (encS (fullC gA cA gI gR gO gX cX)) := H5
  replace hS := hS.mono hb
  replace hw := grow_trans hw hb
  clear hb
  replace hE2 := hE2.mono hw
  clear hw
  have hw := Below.refl w5.heap.size w5
  repeat' (first | (refine is_cw ?_; first | (refine cw_seq ?_) | (refine cw_region ?_)) | (refine is_qw ?_; first | (with_reducible refine qw_then ?_)) | (refine lw_nil ?_) | ((refine is_load ?_; first | (refine lw_pure rfl (pv_loada (tA rfl) rfl (by first | exact PT.lda (H5.mono hw)) (by rfl)) ?_))))
  refine lw_call (f := 12) (by kernel_rfl) rfl rfl (acct_v (a := 2) (x := accB) (b := true) kA2 (hS.mono hw)) ?_; rintro e w1 ⟨rfl, hb⟩; refine ⟨_, rfl, ?_⟩; replace hw := grow_trans hw hb; clear hb
  repeat' (first | (refine lw_pure rfl (pv_move rfl) ?_) | (refine lw_pure rfl (pv_extract rfl rfl) ?_))
  refine lw_varN rfl (by first | exact tyv_29 | exact tyv_30 | exact tyv_33 | exact tyv_34 | exact tyv_36 | exact tyv_37 | exact tyv_38 | exact tyv_39 | exact tyv_40 | exact tyv_41 | exact tyv_43 | exact tyv_44 | exact tyv_45 | exact tyv_46 | exact tyv_73 | exact tyv_74 | exact tyv_80 | exact tyv_81 | exact tyv_107 | exact tyv_108 | exact tyv_123 | exact tyv_146 | exact tyv_147 | exact tyv_148 | exact tyv_149) rfl (tZ rfl) (fun _ => rfl) rfl rfl ?_; intro N6 w6 hN6 H6 hb
  replace H6 : PT w6 N6 34 (encA accB) := H6
  replace hw := grow_trans hw hb
  clear hb
  replace hE2 := hE2.mono hw
  replace hS := hS.mono hw
  replace H5 := H5.mono hw
  clear hw
  have hw := Below.refl w6.heap.size w6
  repeat' (first | (refine lw_pure rfl (pv_assign rfl) ?_) | (refine is_cw ?_; first | (refine cw_seq ?_) | (refine cw_region ?_)) | (refine is_qw ?_; first | (with_reducible refine qw_then ?_)) | (refine lw_nil ?_) | ((refine is_load ?_; first | (refine lw_pure rfl (pv_loada (tA rfl) rfl (by first | exact PT.lda (H5.mono hw)) (by rfl)) ?_))))
  refine lw_call (f := 12) (by kernel_rfl) rfl rfl (acct_v (a := 3) (x := ⟨ByteArray.empty, false⟩) (b := false) kA3 (hS.mono hw)) ?_; rintro e w1 ⟨rfl, hb⟩; refine ⟨_, rfl, ?_⟩; replace hw := grow_trans hw hb; clear hb
  repeat' (first | (refine lw_pure rfl (pv_move rfl) ?_) | (refine lw_pure rfl (pv_extract rfl rfl) ?_))
  refine lw_varN rfl (by first | exact tyv_29 | exact tyv_30 | exact tyv_33 | exact tyv_34 | exact tyv_36 | exact tyv_37 | exact tyv_38 | exact tyv_39 | exact tyv_40 | exact tyv_41 | exact tyv_43 | exact tyv_44 | exact tyv_45 | exact tyv_46 | exact tyv_73 | exact tyv_74 | exact tyv_80 | exact tyv_81 | exact tyv_107 | exact tyv_108 | exact tyv_123 | exact tyv_146 | exact tyv_147 | exact tyv_148 | exact tyv_149) rfl (tZ rfl) (fun _ => rfl) rfl rfl ?_; intro N8 w8 hN8 H8 hb
  clear H8
  replace hw := grow_trans hw hb
  clear hb
  replace hE2 := hE2.mono hw
  replace hS := hS.mono hw
  replace H5 := H5.mono hw
  replace H6 := H6.mono hw
  clear hw
  have hw := Below.refl w8.heap.size w8
  repeat' (first | (refine lw_pure rfl (pv_assign rfl) ?_) | (refine is_cw ?_; first | (refine cw_seq ?_) | (refine cw_region ?_)) | (refine is_qw ?_; first | (with_reducible refine qw_then ?_)) | (refine lw_nil ?_) | ((refine is_load ?_; first | (refine lw_pure rfl (pv_loada (tA rfl) rfl (by first | exact PT.lda (H5.mono hw)) (by rfl)) ?_))))
  refine lw_call (f := 12) (by kernel_rfl) rfl rfl (acct_v (a := 0) (x := ⟨ByteArray.empty, false⟩) (b := false) kA0 (hS.mono hw)) ?_; rintro e w1 ⟨rfl, hb⟩; refine ⟨_, rfl, ?_⟩; replace hw := grow_trans hw hb; clear hb
  repeat' (first | (refine lw_pure rfl (pv_move rfl) ?_) | (refine lw_pure rfl (pv_extract rfl rfl) ?_))
  refine lw_varN rfl (by first | exact tyv_29 | exact tyv_30 | exact tyv_33 | exact tyv_34 | exact tyv_36 | exact tyv_37 | exact tyv_38 | exact tyv_39 | exact tyv_40 | exact tyv_41 | exact tyv_43 | exact tyv_44 | exact tyv_45 | exact tyv_46 | exact tyv_73 | exact tyv_74 | exact tyv_80 | exact tyv_81 | exact tyv_107 | exact tyv_108 | exact tyv_123 | exact tyv_146 | exact tyv_147 | exact tyv_148 | exact tyv_149) rfl (tZ rfl) (fun _ => rfl) rfl rfl ?_; intro N10 w10 hN10 H10 hb
  clear H10
  replace hw := grow_trans hw hb
  clear hb
  replace hE2 := hE2.mono hw
  replace hS := hS.mono hw
  replace H5 := H5.mono hw
  replace H6 := H6.mono hw
  clear hw
  have hw := Below.refl w10.heap.size w10
  repeat' (first | (refine lw_pure rfl (pv_assign rfl) ?_) | (refine is_cw ?_; first | (refine cw_seq ?_) | (refine cw_region ?_)) | (refine is_qw ?_; first | (with_reducible refine qw_then ?_)) | (refine lw_nil ?_) | ((refine is_load ?_; first | (refine lw_pure rfl (pv_loada (tA rfl) rfl (by first | exact PT.lda (H5.mono hw)) (by rfl)) ?_))))
  refine lw_call (f := 12) (by kernel_rfl) rfl rfl (acct_v (a := 4) (x := ⟨ByteArray.empty, false⟩) (b := false) kA4 (hS.mono hw)) ?_; rintro e w1 ⟨rfl, hb⟩; refine ⟨_, rfl, ?_⟩; replace hw := grow_trans hw hb; clear hb
  repeat' (first | (refine lw_pure rfl (pv_move rfl) ?_) | (refine lw_pure rfl (pv_extract rfl rfl) ?_))
  refine lw_varN rfl (by first | exact tyv_29 | exact tyv_30 | exact tyv_33 | exact tyv_34 | exact tyv_36 | exact tyv_37 | exact tyv_38 | exact tyv_39 | exact tyv_40 | exact tyv_41 | exact tyv_43 | exact tyv_44 | exact tyv_45 | exact tyv_46 | exact tyv_73 | exact tyv_74 | exact tyv_80 | exact tyv_81 | exact tyv_107 | exact tyv_108 | exact tyv_123 | exact tyv_146 | exact tyv_147 | exact tyv_148 | exact tyv_149) rfl (tZ rfl) (fun _ => rfl) rfl rfl ?_; intro N12 w12 hN12 H12 hb
  clear H12
  replace hw := grow_trans hw hb
  clear hb
  replace hE2 := hE2.mono hw
  replace hS := hS.mono hw
  replace H5 := H5.mono hw
  replace H6 := H6.mono hw
  clear hw
  have hw := Below.refl w12.heap.size w12
  repeat' (first | (refine lw_pure rfl (pv_assign rfl) ?_) | (refine is_cw ?_; first | (refine cw_seq ?_) | (refine cw_region ?_)) | (refine is_qw ?_; first | (with_reducible refine qw_then ?_)) | (refine lw_nil ?_) | ((refine is_load ?_; first | (refine lw_pure rfl (pv_loada (tA rfl) rfl (by first | exact PT.lda (H5.mono hw)) (by rfl)) ?_))))
  refine lw_call (f := 13) (by kernel_rfl) rfl rfl (inst_e (a := 1) (x := insG) (b := true) kI1 (hS.mono hw)) ?_; rintro e w1 ⟨rfl, hb⟩; refine ⟨_, rfl, ?_⟩; replace hw := grow_trans hw hb; clear hb
  repeat' (first | (refine lw_pure rfl (pv_move rfl) ?_) | (refine lw_pure rfl (pv_extract rfl rfl) ?_))
  refine lw_varN rfl (by first | exact tyv_29 | exact tyv_30 | exact tyv_33 | exact tyv_34 | exact tyv_36 | exact tyv_37 | exact tyv_38 | exact tyv_39 | exact tyv_40 | exact tyv_41 | exact tyv_43 | exact tyv_44 | exact tyv_45 | exact tyv_46 | exact tyv_73 | exact tyv_74 | exact tyv_80 | exact tyv_81 | exact tyv_107 | exact tyv_108 | exact tyv_123 | exact tyv_146 | exact tyv_147 | exact tyv_148 | exact tyv_149) rfl (tZ rfl) (fun _ => rfl) rfl rfl ?_; intro N14 w14 hN14 H14 hb
  replace H14 : PT w14 N14 37 [.string ⟨#[103, 111, 108, 100]⟩, .int .i64 2, .bool false] := H14
  replace hw := grow_trans hw hb
  clear hb
  replace hE2 := hE2.mono hw
  replace hS := hS.mono hw
  replace H5 := H5.mono hw
  replace H6 := H6.mono hw
  clear hw
  have hw := Below.refl w14.heap.size w14
  repeat' (first | (refine lw_pure rfl (pv_assign rfl) ?_) | (refine is_cw ?_; first | (refine cw_seq ?_) | (refine cw_region ?_)) | (refine is_qw ?_; first | (with_reducible refine qw_then ?_)) | (refine lw_nil ?_) | ((refine is_load ?_; first | (refine lw_pure rfl (pv_loada (tA rfl) rfl (by first | exact PT.lda (H5.mono hw)) (by rfl)) ?_))))
  refine lw_call (f := 13) (by kernel_rfl) rfl rfl (inst_e (a := 2) (x := ⟨ByteArray.empty, 0, false⟩) (b := false) kI2 (hS.mono hw)) ?_; rintro e w1 ⟨rfl, hb⟩; refine ⟨_, rfl, ?_⟩; replace hw := grow_trans hw hb; clear hb
  repeat' (first | (refine lw_pure rfl (pv_move rfl) ?_) | (refine lw_pure rfl (pv_extract rfl rfl) ?_))
  refine lw_varN rfl (by first | exact tyv_29 | exact tyv_30 | exact tyv_33 | exact tyv_34 | exact tyv_36 | exact tyv_37 | exact tyv_38 | exact tyv_39 | exact tyv_40 | exact tyv_41 | exact tyv_43 | exact tyv_44 | exact tyv_45 | exact tyv_46 | exact tyv_73 | exact tyv_74 | exact tyv_80 | exact tyv_81 | exact tyv_107 | exact tyv_108 | exact tyv_123 | exact tyv_146 | exact tyv_147 | exact tyv_148 | exact tyv_149) rfl (tZ rfl) (fun _ => rfl) rfl rfl ?_; intro N16 w16 hN16 H16 hb
  clear H16
  replace hw := grow_trans hw hb
  clear hb
  replace hE2 := hE2.mono hw
  replace hS := hS.mono hw
  replace H5 := H5.mono hw
  replace H6 := H6.mono hw
  replace H14 := H14.mono hw
  clear hw
  have hw := Below.refl w16.heap.size w16
  repeat' (first | (refine lw_pure rfl (pv_move rfl) ?_) | (refine lw_pure rfl (pv_assign rfl) ?_) | (refine is_cw ?_; first | (refine cw_seq ?_) | (refine cw_region ?_)) | (refine is_qw ?_; first | (with_reducible refine qw_then ?_)) | (refine lw_nil ?_) | (refine is_guarded ?_; first | (refine lw_on rfl rfl rfl ?_)) | ((refine is_bin ?_; first | (refine lw_pure rfl (pv_eqlSs rfl rfl) ?_) | (refine lw_pure rfl (pv_eql rfl rfl) ?_))) | ((refine is_load ?_; first | (refine lw_pure rfl (pv_load (t1 rfl) rfl (by first | exact PT.ld0 (H5.mono hw) rfl | exact PT.ld (H5.mono hw) rfl | exact PT.ld0 (H6.mono hw) rfl | exact PT.ld (H6.mono hw) rfl | exact PT.ld0 (H14.mono hw) rfl | exact PT.ld (H14.mono hw) rfl)) ?_) | (refine lw_pure rfl (pv_loada (tA rfl) rfl (by first | exact PT.lda (H5.mono hw) | exact PT.lda (H6.mono hw) | exact PT.lda (H14.mono hw)) (by rfl)) ?_))) | ((refine is_fa ?_; first | (refine lw_pure rfl (pv_fa (tF rfl) rfl) ?_))) | ((refine is_un ?_; first | (refine lw_pure rfl (pv_not rfl) ?_))) | (refine is_pk ?_; refine lw_pure rfl (pv_pick_t rfl rfl rfl) ?_))
  refine lw_call (f := 14) (by kernel_rfl) rfl rfl (named_v kN3 (hS.mono hw)) ?_; rintro e w1 ⟨rfl, hb⟩; refine ⟨_, rfl, ?_⟩; replace hw := grow_trans hw hb; clear hb
  repeat' (first | (refine lw_pure rfl (pv_move rfl) ?_) | (refine is_guarded ?_; first | (refine lw_on rfl rfl rfl ?_)) | ((refine is_bin ?_; first | (refine lw_pure rfl (pv_eqls rfl rfl) ?_))) | ((refine is_load ?_; first | (refine lw_pure rfl (pv_loada (tA rfl) rfl (by first | exact PT.lda (H5.mono hw)) (by rfl)) ?_))) | (refine is_pk ?_; refine lw_pure rfl (pv_pick_t rfl rfl rfl) ?_))
  refine lw_call (f := 14) (by kernel_rfl) rfl rfl (named_v kN4 (hS.mono hw)) ?_; rintro e w1 ⟨rfl, hb⟩; refine ⟨_, rfl, ?_⟩; replace hw := grow_trans hw hb; clear hb
  repeat' (first | (refine lw_pure rfl (pv_move rfl) ?_) | (refine is_guarded ?_; first | (refine lw_on rfl rfl rfl ?_)) | ((refine is_bin ?_; first | (refine lw_pure rfl (pv_eqls rfl rfl) ?_))) | ((refine is_load ?_; first | (refine lw_pure rfl (pv_loada (tA rfl) rfl (by first | exact PT.lda (H5.mono hw)) (by rfl)) ?_))) | (refine is_pk ?_; refine lw_pure rfl (pv_pick_t rfl rfl rfl) ?_))
  refine lw_call (f := 15) (by kernel_rfl) rfl rfl (held_v kH1 (hS.mono hw) (by decide)) ?_; rintro e w1 ⟨rfl, hb⟩; refine ⟨_, rfl, ?_⟩; replace hw := grow_trans hw hb; clear hb
  repeat' (first | (refine lw_pure rfl (pv_move rfl) ?_) | (refine is_guarded ?_; first | (refine lw_on rfl rfl rfl ?_)) | ((refine is_bin ?_; first | (refine lw_pure rfl (pv_eqls rfl rfl) ?_))) | ((refine is_load ?_; first | (refine lw_pure rfl (pv_loada (tA rfl) rfl (by first | exact PT.lda (H5.mono hw)) (by rfl)) ?_))) | (refine is_pk ?_; refine lw_pure rfl (pv_pick_t rfl rfl rfl) ?_))
  refine lw_call (f := 15) (by kernel_rfl) rfl rfl (held_v kH2 (hS.mono hw) (by decide)) ?_; rintro e w1 ⟨rfl, hb⟩; refine ⟨_, rfl, ?_⟩; replace hw := grow_trans hw hb; clear hb
  repeat' (first | (refine lw_pure rfl (pv_move rfl) ?_) | (refine is_guarded ?_; first | (refine lw_on rfl rfl rfl ?_)) | ((refine is_bin ?_; first | (refine lw_pure rfl (pv_eqls rfl rfl) ?_))) | ((refine is_load ?_; first | (refine lw_pure rfl (pv_loada (tA rfl) rfl (by first | exact PT.lda (H5.mono hw)) (by rfl)) ?_))) | (refine is_pk ?_; refine lw_pure rfl (pv_pick_t rfl rfl rfl) ?_))
  refine lw_call (f := 15) (by kernel_rfl) rfl rfl (held_v kH3 (hS.mono hw) (by decide)) ?_; rintro e w1 ⟨rfl, hb⟩; refine ⟨_, rfl, ?_⟩; replace hw := grow_trans hw hb; clear hb
  repeat' (first | (refine lw_pure rfl (pv_assign rfl) ?_) | (refine is_cw ?_; first | (refine cw_ret ?_)) | (refine is_qw ?_; first | (with_reducible refine qw_then ?_)) | (refine lw_nil ?_) | (refine is_guarded ?_; first | (refine lw_on rfl rfl rfl ?_)) | ((refine is_bin ?_; first | (refine lw_pure rfl (pv_eqls rfl rfl) ?_))) | (refine is_pk ?_; refine lw_pure rfl (pv_pick_t rfl rfl rfl) ?_))
  exact qw_ret1 rfl rfl ⟨rfl, (hE2.mono hw).b⟩
end Go.Proofs.YtekomjnjddhfmaaGreat
namespace Go.Proofs.YtekomjnjddhfmaaGreat
open Go.ChangeShapes Go.WideShapes Go.ChangeAt Go.RowKit

set_option maxRecDepth 100000 in
theorem stateNames_lifted (os : Os) (started : os.Started) (H : Type) (enc : TypeId × Value → H) :
    ReturnsInHanded {} Tryz.checked os 3 .any (Rows.stateNamesSpec.pre6 enc Tryz.prog Tryz.f3 Rows.stateNamesRow.domain false) (Rows.stateNamesSpec.post enc Tryz.prog Tryz.f3 false true false false) := by
  refine returnsInHanded_of_change_sized (C := Tryz.checked) seatOwn started (by kernel_rfl) Tryz.func3
    (ChangeSpec.witness6 (enc := enc) (C := Tryz.checked) false ⟨#[], #[], []⟩ 8 (by kernel_rfl) (by kernel_rfl) (by kernel_rfl) (by kernel_rfl)) ?_
  intro W base args ds gs before hval0 hW _ hZ _
  have hval : ∀ (j : Nat) t v, Tryz.f3.params[j]? = some t → args[j]? = some v → Value.okWide Tryz.prog W .any base t v := hval0
  have hW' := hW
  obtain ⟨p, q, hA0, hV, hpq, hfz, hnd⟩ := hW
  have hA : DataW.TrodAll enc Tryz.prog W 0 (fun _ => true) true Tryz.f3.params.toList args.toList ds p := hA0
  rw [Tryz.params3] at hA hval
  obtain ⟨args⟩ := args
  have hA1 : DataW.TrodAll enc Tryz.prog W 0 (fun _ => true) true _ args ds p := hA
  clear hA
  obtain ⟨hvn, hdn, hpn⟩ := trodAll_nil hA1
  subst hvn hdn hpn
  obtain ⟨rfl, rfl⟩ := trodVars_none hV
  subst hpq
  refine (names18_c _).mono fun e W' ⟨he, hw⟩ => ?_
  subst he
  have hB := below_trodAll hw (by decide +kernel) hA1
  rw [← Tryz.params3] at hB
  exact ⟨_, rfl, _, _, _, [], _, [], hW', trodAll_mk1 (shut_bool Tryz.underlying4 true), hB, rfl, hw.frame _, fun h => by cases h⟩
theorem stateNames_holds : Rows.StateNamesSaid :=
  OpenClaim.holds_of_wide 3 Tryz.f3 rfl rfl rfl rfl rfl rfl rfl ⟨rfl, rfl, rfl, rfl, rfl⟩ rfl rfl rfl rfl rfl (by kernel_rfl) Tryz.func3 (by kernel_rfl)
    (of_decide_eq_true (by kernel_rfl)) (by unfold Func.isWrapper; first | (rw [if_pos (by decide +kernel)]; kernel_rfl) | (rw [if_neg (by decide +kernel)]; exact ⟨rfl, rfl⟩))
    (fun os started H enc _ => stateNames_lifted os started H enc)
#print axioms stateNames_holds
end Go.Proofs.YtekomjnjddhfmaaGreat
