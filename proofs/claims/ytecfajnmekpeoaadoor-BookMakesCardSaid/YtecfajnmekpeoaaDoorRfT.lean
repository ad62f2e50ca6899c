/-
  Contracts of the document's own layer 16 (soukref16): Take, Drop, at every list. Conditions: that the slice reads as a list.
-/
import Derived.Test.YtecfajnmekpeoaaDoorLTe
import Derived.Test.YtecfajnmekpeoaaDoorLBa
namespace Go.Proofs.YtecfajnmekpeoaaDoor
open Go.RowKit

theorem fm_step {xs : List Ord} {k : Nat} {x : Ord} (f : Ord → Option Ord) (hx : xs[k]? = some x) : (xs.take (k + 1)).filterMap f = (xs.take k).filterMap f ++ (f x).toList := by
  obtain ⟨h1, rfl⟩ := List.getElem?_eq_some_iff.1 hx
  rw [List.take_succ_eq_append_getElem h1, List.filterMap_append]
  congr 1
theorem rTake_1 (a : Option Addr) (cap n : Nat) (id q : Int) (w : World)
    (HM : Hid (∀ w1, Below w.heap.size w w1 → Calls Tryd.prog 20 #[.slice a n cap] w1 fun e w' => e = .returned (.bool false) ∧ Below w1.heap.size w1 w')) :
    Calls Tryd.prog 33 #[.slice a n cap, .int .i64 id, .int .i64 q] w fun e w' => e = .returned (.tuple #[.slice none 0 0, .int .i64 4]) ∧ Below w.heap.size w w' := by
  have HG := Lib.hid (GrS.refl w)
  go_enter Tryd.func33, Tryd.ntmps33
  go_wp2_with (go_at_call 20; (with_reducible refine (HM.out _ HG.out.1).mono ?_); rintro e w1 ⟨rfl, hb1⟩; replace HG := Lib.hid (GrS.call HG.out hb1); clear hb1; (try clear hG); have hG := HG.out)
  go_ret2
  exact ⟨rfl, HG.out.1⟩
theorem rTake_2 (a : Option Addr) (cap n : Nat) (id q : Int) (w : World)
    (HM : Hid (∀ w1, Below w.heap.size w w1 → Calls Tryd.prog 20 #[.slice a n cap] w1 fun e w' => e = .returned (.bool true) ∧ Below w1.heap.size w1 w'))
    (HFD : Hid (∀ w1, Below w.heap.size w w1 → Calls Tryd.prog 29 #[.slice a n cap, .int .i64 id] w1 fun e w' => e = .returned (.tuple #[(.agg #[.int .i64 nilO.id, .int .i64 nilO.acct, .int .i64 nilO.inst, .int .u8 nilO.side, .int .i64 nilO.price, .int .i64 nilO.left]), .bool false]) ∧ Below w1.heap.size w1 w')) :
    Calls Tryd.prog 33 #[.slice a n cap, .int .i64 id, .int .i64 q] w fun e w' => e = .returned (.tuple #[.slice none 0 0, .int .i64 5]) ∧ Below w.heap.size w w' := by
  have HG := Lib.hid (GrS.refl w)
  go_enter Tryd.func33, Tryd.ntmps33
  go_wp2_with (first | (go_at_call 20; (with_reducible refine (HM.out _ HG.out.1).mono ?_); rintro e w1 ⟨rfl, hb1⟩; replace HG := Lib.hid (GrS.call HG.out hb1); clear hb1; (try clear hG); have hG := HG.out) | (go_at_call 29; (with_reducible refine (HFD.out _ HG.out.1).mono ?_); rintro e w2 ⟨rfl, hb1⟩; replace HG := Lib.hid (GrS.call HG.out hb1); clear hb1; (try clear hG); have hG := HG.out))
  go_ret2
  exact ⟨rfl, (GrS.alloc HG.out _).1⟩
set_option maxHeartbeats 2000000 in
theorem rTake_3 (a : Option Addr) (cap n : Nat) (id q : Int) (o : Ord) (w : World) (hq : q < 1 ∨ o.left < q)
    (HM : Hid (∀ w1, Below w.heap.size w w1 → Calls Tryd.prog 20 #[.slice a n cap] w1 fun e w' => e = .returned (.bool true) ∧ Below w1.heap.size w1 w'))
    (HFD : Hid (∀ w1, Below w.heap.size w w1 → Calls Tryd.prog 29 #[.slice a n cap, .int .i64 id] w1 fun e w' => e = .returned (.tuple #[(.agg #[.int .i64 o.id, .int .i64 o.acct, .int .i64 o.inst, .int .u8 o.side, .int .i64 o.price, .int .i64 o.left]), .bool true]) ∧ Below w1.heap.size w1 w')) :
    Calls Tryd.prog 33 #[.slice a n cap, .int .i64 id, .int .i64 q] w fun e w' => e = .returned (.tuple #[.slice none 0 0, .int .i64 1]) ∧ Below w.heap.size w w' := by
  have HG := Lib.hid (GrS.refl w)
  have hc : q < 1 ∨ (¬ q < 1 ∧ o.left < q) := by omega
  clear hq
  rcases hc with hq | ⟨hq1, hq2⟩
  all_goals
    go_enter Tryd.func33, Tryd.ntmps33
    go_wp2_with (first | (go_at_call 20; (with_reducible refine (HM.out _ HG.out.1).mono ?_); rintro e w1 ⟨rfl, hb1⟩; replace HG := Lib.hid (GrS.call HG.out hb1); clear hb1; (try clear hG); have hG := HG.out) | (go_at_call 29; (with_reducible refine (HFD.out _ HG.out.1).mono ?_); rintro e w2 ⟨rfl, hb1⟩; replace HG := Lib.hid (GrS.call HG.out hb1); clear hb1; (try clear hG); have hG := HG.out))
    go_ret2
    exact ⟨rfl, (GrS.alloc HG.out _).1⟩
set_option maxHeartbeats 4000000 in
theorem rTake_4 (a : Option Addr) (cap n : Nat) (xs : List Ord) (id q : Int) (o : Ord) (w : World) (HS : Hid (SlO w a cap xs)) (HN : Hid (n = xs.length)) (hn : n ≤ 128) (hq1 : 1 ≤ q) (hq2 : q ≤ o.left) (HX0 : Hid (∀ x ∈ xs, mayOne x = true ∧ (x.id = id → x = o)))
    (HM : Hid (∀ w1, Below w.heap.size w w1 → Calls Tryd.prog 20 #[.slice a n cap] w1 fun e w' => e = .returned (.bool true) ∧ Below w1.heap.size w1 w'))
    (HFD : Hid (∀ w1, Below w.heap.size w w1 → Calls Tryd.prog 29 #[.slice a n cap, .int .i64 id] w1 fun e w' => e = .returned (.tuple #[(.agg #[.int .i64 o.id, .int .i64 o.acct, .int .i64 o.inst, .int .u8 o.side, .int .i64 o.price, .int .i64 o.left]), .bool true]) ∧ Below w1.heap.size w1 w')) :
    Calls Tryd.prog 33 #[.slice a n cap, .int .i64 id, .int .i64 q] w fun e w' => ∃ r, e = .returned (.tuple #[r, .int .i64 0]) ∧ Below w.heap.size w w' ∧ OwnO w.heap.size w' r (xs.filterMap (lessLeft id q)) := by
  have HG := Lib.hid (GrS.refl w)
  have t1 : decide (q < 1) = false := by simp; omega
  have t2 : decide (o.left < q) = false := by simp; omega
  go_enter Tryd.func33, Tryd.ntmps33
  go_wp2_with (first | (go_at_call 20; (with_reducible refine (HM.out _ HG.out.1).mono ?_); rintro e w1 ⟨rfl, hb1⟩; replace HG := Lib.hid (GrS.call HG.out hb1); clear hb1; (try clear hG); have hG := HG.out) | (go_at_call 29; (with_reducible refine (HFD.out _ HG.out.1).mono ?_); rintro e w2 ⟨rfl, hb1⟩; replace HG := Lib.hid (GrS.call HG.out hb1); clear hb1; (try clear hG); have hG := HG.out))
  have HB2 : Hid (Below w.heap.size w (w2.alloc (.cells #[.int .i64 o.id, .int .i64 o.acct, .int .i64 o.inst, .int .u8 o.side, .int .i64 o.price, .int .i64 o.left] 23))) := Lib.hid (GrS.alloc HG.out _).1
  clear hG
  go_loopw [10, 11] (fun v i wr => (∃ k : Nat, k ≤ n ∧ i = .int .i64 k ∧ Hid (OwnO w.heap.size wr v ((xs.take k).filterMap (lessLeft id q)))) ∧ Hid (Below w.heap.size w wr)) (fun _ i _ => n - (intOf i).toNat)
  case atStart => exact ⟨⟨0, Nat.zero_le _, rfl, Lib.hid (by simpa using Own.nil _)⟩, HB2⟩
  case round =>
    obtain ⟨⟨k, hk, rfl, HO⟩, HB⟩ := hrel
    by_cases hlt : k < n
    · obtain ⟨x, HX⟩ : ∃ x, Hid (xs[k]? = some x) := ⟨_, Lib.hid (List.getElem?_eq_getElem (by have := HN.out; omega))⟩
      obtain ⟨b9, off, hla, hb9, h6⟩ := SlR.cells6 HS.out (by intro h; have := HX.out; rw [h] at this; simp at this)
      subst hla
      have H6 := Lib.hid (h6 k x HX.out); clear h6
      obtain ⟨x0, x1, x2, x3, x4, x5⟩ := H6.out.mono HB.out
      have hx9 : b9 < wr.heap.size := by have := HB.out.size; omega
      have i0 : (0 : Int) ≤ (k : Int) := Int.natCast_nonneg _
      have i1 : (k : Int) < (n : Int) := by omega
      have HST := Lib.hid (fm_step (lessLeft id q) HX.out)
      have hsz : w.heap.size ≤ wr.heap.size := HB.out.size
      have HLE : Hid (((xs.take k).filterMap (lessLeft id q)).length ≤ 1000) := Lib.hid (by
        have h1 := List.length_filterMap_le (lessLeft id q) (xs.take k)
        rw [List.length_take] at h1; omega)
      obtain ⟨hmx, hxo⟩ := HX0.out x (List.mem_of_getElem? HX.out)
      have hlft := (mayOne_iff.1 hmx).2.2.2.2.2
      clear hmx
      rcases Bool.eq_false_or_eq_true (x.id == id) with e1 | e1
      · have hid : x.id = id := by simpa using e1
        have hxeq := hxo hid
        have hql : q ≤ x.left := by rw [hxeq]; exact hq2
        have hw1 : IntKind.i64.wrap (x.left - q) = x.left - q := IntWalk.i64_in _ (by omega)
        have HID := Lib.hid hid
        clear hxo hxeq hid
        by_cases hz : x.left - q = 0
        · have hz2 : decide (0 < x.left - q) = false := by simp; omega
          have hz3 : ¬ (0 < x.left - q) := by omega
          have HF : Hid (lessLeft id q x = none) := Lib.hid (by unfold lessLeft; rw [if_pos HID.out, if_pos hz])
          have HZ := Lib.hid hz; clear hz
          go_wp2
          go_roundw
          case rel => exact ⟨⟨k + 1, by omega, by go_num, Lib.hid (by rw [HST.out, HF.out]; simpa using own_alloc _ HO.out)⟩, Lib.hid (HB.out.alloc hsz _)⟩
          case measure => simp [intOf]; omega
        · have hz2 : decide (0 < x.left - q) = true := by simp; omega
          have hz3 : 0 < x.left - q := by omega
          have HF : Hid (lessLeft id q x = some ⟨x.id, x.acct, x.inst, x.side, x.price, x.left - q⟩) := Lib.hid (by unfold lessLeft; rw [if_pos HID.out, if_neg hz])
          clear hz
          go_wp2_with (at_builtin; refine wpList_app (v := u10) (u := .slice (some ⟨_, 0, none⟩) 1 1) rfl (.tmp 54) (.tmp 56) 31 rfl rfl rfl (app1m (base := w.heap.size) (o := ⟨x.id, x.acct, x.inst, x.side, x.price, x.left - q⟩) _ (own_alloc _ (own_alloc _ HO.out)) (slO_one _ ⟨x.id, x.acct, x.inst, x.side, x.price, x.left - q⟩ _ (by simp)) (Nat.le_trans hsz (by simp; try omega)) HLE.out) ?_; rintro v9 w9 ⟨ho9, hg9⟩; have HO9 := Lib.hid ho9; have HB9 : Hid (Below w.heap.size w w9) := Lib.hid (Below.grown ((HB.out.alloc hsz _).alloc (Nat.le_trans hsz (by simp)) _) hg9 (Nat.le_trans hsz (by simp; try omega)) (fun q hq => (Own.lt HO.out q hq).1)); clear ho9 hg9)
          go_roundw
          case rel => exact ⟨⟨k + 1, by omega, by go_num, Lib.hid (by rw [HST.out, HF.out]; exact HO9.out)⟩, HB9⟩
          case measure => simp [intOf]; omega
      · have hz3 : 0 < x.left := by omega
        have hz2 : decide (0 < x.left) = true := by simp; omega
        have HF : Hid (lessLeft id q x = some x) := Lib.hid (by unfold lessLeft; rw [if_neg (by simpa using e1)])
        clear hxo
        go_wp2_with (at_builtin; refine wpList_app (v := u10) (u := .slice (some ⟨_, 0, none⟩) 1 1) rfl (.tmp 54) (.tmp 56) 31 rfl rfl rfl (app1m (base := w.heap.size) (o := x) _ (own_alloc _ (own_alloc _ HO.out)) (slO_one _ x _ (by simp)) (Nat.le_trans hsz (by simp; try omega)) HLE.out) ?_; rintro v9 w9 ⟨ho9, hg9⟩; have HO9 := Lib.hid ho9; have HB9 : Hid (Below w.heap.size w w9) := Lib.hid (Below.grown ((HB.out.alloc hsz _).alloc (Nat.le_trans hsz (by simp)) _) hg9 (Nat.le_trans hsz (by simp; try omega)) (fun q hq => (Own.lt HO.out q hq).1)); clear ho9 hg9)
        go_roundw
        case rel => exact ⟨⟨k + 1, by omega, by go_num, Lib.hid (by rw [HST.out, HF.out]; exact HO9.out)⟩, HB9⟩
        case measure => simp [intOf]; omega
    · have HE : Hid ((xs.take k).filterMap (lessLeft id q) = xs.filterMap (lessLeft id q)) := Lib.hid (by rw [List.take_of_length_le (by have := HN.out; omega)])
      go_wp2
      go_ret2
      exact ⟨_, rfl, HB.out, by rw [← HE.out]; exact HO.out⟩

theorem rTake_c (a : Option Addr) (cap : Nat) (xs : List Ord) (id q : Int) (w : World) (hs : SlO w a cap xs) :
    Calls Tryd.prog 33 #[.slice a xs.length cap, .int .i64 id, .int .i64 q] w fun e w' => ∃ r, e = .returned (.tuple #[r, .int .i64 (takeO xs id q).2]) ∧ Below w.heap.size w w' ∧ OwnO w.heap.size w' r (takeO xs id q).1 := by
  have HM := fun w1 (hb : Below w.heap.size w w1) => rMay_c a cap xs w1 (hs.mono hb)
  have HF := fun w1 (hb : Below w.heap.size w w1) => rFind_c a cap xs id w1 (hs.mono hb)
  cases hm : mayL xs with
  | false =>
    rw [hm] at HM
    rw [takeO_may hm]
    exact (rTake_1 a cap _ id q w (Lib.hid HM)).mono fun _ _ ⟨he, hb⟩ => ⟨_, he, hb, Own.nil _⟩
  | true =>
    rw [hm] at HM
    cases hf : findO xs id with
    | none =>
      rw [hf] at HF
      have e : takeO xs id q = ([], 5) := by simp [takeO, hm, hf]
      rw [e]
      exact (rTake_2 a cap _ id q w (Lib.hid HM) (Lib.hid HF)).mono fun _ _ ⟨he, hb⟩ => ⟨_, he, hb, Own.nil _⟩
    | some o =>
      rw [hf] at HF
      obtain ⟨_, ho, hid⟩ := findO_id hf
      obtain ⟨h1, h2, h3⟩ := mayL_iff.1 hm
      by_cases hq : q < 1 ∨ o.left < q
      · have e : takeO xs id q = ([], 1) := by simp [takeO, hm, hf, hq]
        rw [e]
        exact (rTake_3 a cap _ id q o w hq (Lib.hid HM) (Lib.hid HF)).mono fun _ _ ⟨he, hb⟩ => ⟨_, he, hb, Own.nil _⟩
      · rw [takeO_some hm hf (by omega) (by omega)]
        exact rTake_4 a cap _ xs id q o w (Lib.hid hs) (Lib.hid rfl) h1 (by omega) (by omega) (Lib.hid (fun x hx => ⟨h2 x hx, fun hxi => id_inj h3 hx ho (by omega)⟩)) (Lib.hid HM) (Lib.hid HF)
theorem rDrop_1 (a : Option Addr) (cap n : Nat) (id : Int) (w : World)
    (HM : Hid (∀ w1, Below w.heap.size w w1 → Calls Tryd.prog 20 #[.slice a n cap] w1 fun e w' => e = .returned (.bool true) ∧ Below w1.heap.size w1 w'))
    (HFD : Hid (∀ w1, Below w.heap.size w w1 → Calls Tryd.prog 29 #[.slice a n cap, .int .i64 id] w1 fun e w' => e = .returned (.tuple #[(.agg #[.int .i64 nilO.id, .int .i64 nilO.acct, .int .i64 nilO.inst, .int .u8 nilO.side, .int .i64 nilO.price, .int .i64 nilO.left]), .bool false]) ∧ Below w1.heap.size w1 w')) :
    Calls Tryd.prog 35 #[.slice a n cap, .int .i64 id] w fun e w' => e = .returned (.tuple #[.slice none 0 0, .int .i64 5]) ∧ Below w.heap.size w w' := by
  go_enter Tryd.func35, Tryd.ntmps35
  go_wp2_with fail
  refine (HFD.out _ (Below.refl _ _)).mono ?_
  rintro e w2 ⟨rfl, hb1⟩
  go_wp2_with fail
  refine (HM.out _ (hb1.alloc hb1.size _)).mono ?_
  rintro e w3 ⟨rfl, hb2⟩
  go_wp2
  go_ret2
  exact ⟨rfl, grow_trans (hb1.alloc hb1.size _) hb2⟩
set_option maxHeartbeats 2000000 in
theorem rDrop_2 (a : Option Addr) (cap n : Nat) (id k : Int) (o : Ord) (m is : Bool) (R : List Ord) (w : World) (hmi : is = true ∨ m = false)
    (HM : Hid (∀ w1, Below w.heap.size w w1 → Calls Tryd.prog 20 #[.slice a n cap] w1 fun e w' => e = .returned (.bool m) ∧ Below w1.heap.size w1 w'))
    (HFD : Hid (∀ w1, Below w.heap.size w w1 → Calls Tryd.prog 29 #[.slice a n cap, .int .i64 id] w1 fun e w' => e = .returned (.tuple #[(.agg #[.int .i64 o.id, .int .i64 o.acct, .int .i64 o.inst, .int .u8 o.side, .int .i64 o.price, .int .i64 o.left]), .bool is]) ∧ Below w1.heap.size w1 w'))
    (HT : Hid (∀ w1, Below w.heap.size w w1 → Calls Tryd.prog 33 #[.slice a n cap, .int .i64 id, .int .i64 o.left] w1 fun e w' => ∃ r, e = .returned (.tuple #[r, .int .i64 k]) ∧ Below w1.heap.size w1 w' ∧ OwnO w1.heap.size w' r R)) :
    Calls Tryd.prog 35 #[.slice a n cap, .int .i64 id] w fun e w' => ∃ r, e = .returned (.tuple #[r, .int .i64 k]) ∧ Below w.heap.size w w' ∧ OwnO w.heap.size w' r R := by
  have hcs : (m = true ∧ is = true) ∨ m = false := by cases m <;> cases is <;> simp at hmi ⊢
  clear hmi
  rcases hcs with ⟨rfl, rfl⟩ | rfl
  all_goals
    go_enter Tryd.func35, Tryd.ntmps35
    go_wp2_with fail
    refine (HFD.out _ (Below.refl _ _)).mono ?_
    rintro e w2 ⟨rfl, hb1⟩
    go_wp2_with fail
    refine (HM.out _ (hb1.alloc hb1.size _)).mono ?_
    rintro e w3 ⟨rfl, hb2⟩
    have hb3 := grow_trans (hb1.alloc hb1.size _) hb2
    have HC := Lib.hid (fun i : Nat => hb2.cell (p := ⟨w2.heap.size, i, none⟩) (by simp))
    have c5 : w3.cell? ⟨w2.heap.size, 5, none⟩ = some (.int .i64 o.left) := by rw [HC.out]; simp
    have hn : w2.heap.size < w3.heap.size := by have := hb2.size; simp at this; omega
    go_wp2_with fail
    refine (HT.out _ hb3).mono ?_
    rintro e w4 ⟨r, rfl, hb4, ho4⟩
    have HB : Hid (Below w.heap.size w w4) := Lib.hid (grow_trans hb3 hb4)
    have HO : Hid (OwnO w.heap.size w4 r R) := Lib.hid (Own.weaken ho4 hb3.size)
    clear hb1 hb2 hb3 hb4 ho4 c5 hn HC
    go_wp2
    go_ret2
    exact ⟨r, rfl, HB.out, HO.out⟩
theorem rDrop_c (a : Option Addr) (cap : Nat) (xs : List Ord) (id : Int) (w : World) (hs : SlO w a cap xs) :
    Calls Tryd.prog 35 #[.slice a xs.length cap, .int .i64 id] w fun e w' => ∃ r, e = .returned (.tuple #[r, .int .i64 (dropO xs id).2]) ∧ Below w.heap.size w w' ∧ OwnO w.heap.size w' r (dropO xs id).1 := by
  have HM := fun w1 (hb : Below w.heap.size w w1) => rMay_c a cap xs w1 (hs.mono hb)
  have HF := fun w1 (hb : Below w.heap.size w w1) => rFind_c a cap xs id w1 (hs.mono hb)
  have HT := fun q w1 (hb : Below w.heap.size w w1) => rTake_c a cap xs id q w1 (hs.mono hb)
  cases hf : findO xs id with
  | some o =>
    rw [hf] at HF
    rw [dropO_some hf]
    exact rDrop_2 a cap _ id _ o _ true _ w (Or.inl rfl) (Lib.hid HM) (Lib.hid HF) (Lib.hid (HT o.left))
  | none =>
    rw [hf] at HF
    cases hm : mayL xs with
    | true =>
      rw [hm] at HM
      rw [dropO_none hf hm]
      exact (rDrop_1 a cap _ id w (Lib.hid HM) (Lib.hid HF)).mono fun _ _ ⟨he, hb⟩ => ⟨_, he, hb, Own.nil _⟩
    | false =>
      rw [hm] at HM
      have e : dropO xs id = takeO xs id nilO.left := by rw [dropO_may hm, takeO_may hm]
      rw [e]
      exact rDrop_2 a cap _ id _ nilO false false _ w (Or.inr rfl) (Lib.hid HM) (Lib.hid HF) (Lib.hid (HT nilO.left))
end Go.Proofs.YtecfajnmekpeoaaDoor
