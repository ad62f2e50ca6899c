/-
  Contract of the document's own List of layer 16 (soukref16.List), at every list. Conditions: that the slice reads as a list.
-/
import Derived.Test.YtecfajnmekpeoaaDoorRfS
import Derived.Test.YtecfajnmekpeoaaDoorHy
import Derived.Test.YtecfajnmekpeoaaDoorBkA
namespace Go.Proofs.YtecfajnmekpeoaaDoor
open Go.RowKit

theorem Own.empty {α : Type} (enc : α → List Value) (k : Nat) (T : TypeId) (w : World) (base : Nat) (hb : base ≤ w.heap.size) : Own enc k T base (w.alloc (.cells #[] T)) (.slice (some ⟨w.heap.size, 0, none⟩) 0 0) ([] : List α) :=
  ⟨by simp, Or.inr ⟨w.heap.size, 0, #[], rfl, hb, heap_alloc_new w _, Nat.le_refl _, by simp, by simp, by simp⟩⟩
theorem Own.emptyAt {α : Type} (enc : α → List Value) (k : Nat) (T : TypeId) (w : World) (base B : Nat) (hb : base ≤ w.heap.size) (hB : B = w.heap.size) : Own enc k T base (w.alloc (.cells #[] T)) (.slice (some ⟨B, 0, none⟩) 0 0) ([] : List α) := by
  subst hB; exact Own.empty enc k T w base hb
/-- the parts of a list that is cut at m -/
theorem cut_lo {W : World} {b c m n : Nat} {L : List Ord} (h : SlO W (some ⟨b, 0, none⟩) c L) (hn : n = L.length) (hm : m ≤ n) : SlO W (some ⟨b, 0, none⟩) c (L.take m) :=
  h.head m c (by omega) ⟨by have := h.le; omega, Nat.le_refl _⟩
theorem cut_hi {W : World} {b c m n : Nat} {L : List Ord} (h : SlO W (some ⟨b, 0, none⟩) c L) (hn : n = L.length) (hm : m ≤ n) : SlO W (some ⟨b, m * 6, none⟩) (c - m) (L.drop m) := by
  have := SlR.tail h m (by omega)
  rwa [Nat.zero_add] at this
theorem app0 {W : World} {base B m : Nat} {a : Option Addr} {c : Nat} {ys : List Ord} (ty : TypeId) (hv : OwnO base W (.slice (some ⟨B, 0, none⟩) 0 0) []) (hs : SlO W a c ys) (hm : ys.length = m) (hb : base ≤ W.heap.size) (hl : m ≤ 1000) :
    ∃ v' w', (Builtin.append_ #[31, 31] ty #[.slice (some ⟨B, 0, none⟩) 0 0, .slice a m c]).run Tryd.prog W = .ok v' w' ∧ OwnO base w' v' ys ∧ W.grownBy w' (some B) := by
  subst hm
  exact app_own (xs := []) elemO encO_len encO_one ty hv hs hb (by simp; omega) (by simp [maxLen]; omega)
theorem app1m {W : World} {base B : Nat} {v : Value} {xs : List Ord} {o : Ord} (ty : TypeId) (ho : OwnO base W v xs) (hs : SlO W (some ⟨B, 0, none⟩) 1 [o]) (hb : base ≤ W.heap.size) (hl : xs.length ≤ 1000) :
    ∃ v' w', (Builtin.append_ #[31, 31] ty #[v, .slice (some ⟨B, 0, none⟩) 1 1]).run Tryd.prog W = .ok v' w' ∧ OwnO base w' v' (xs ++ [o]) ∧ W.grownBy w' v.ownBlock :=
  app_own (ys := [o]) elemO encO_len encO_one ty ho hs hb (by simp; omega) (by simp [maxLen]; omega)
theorem app2m {W : World} {a : Option Addr} {c m : Nat} {base : Nat} {v : Value} {xs ys : List Ord} (ty : TypeId) (hv : OwnO base W v xs) (hs : SlO W a c ys) (hm : ys.length = m) (hb : base ≤ W.heap.size) (hlen : xs.length ≤ 1001) (hlen2 : m ≤ 1000) :
    ∃ v' w', (Builtin.append_ #[31, 31] ty #[v, .slice a m c]).run Tryd.prog W = .ok v' w' ∧ OwnO base w' v' (xs ++ ys) ∧ W.grownBy w' v.ownBlock := by
  subst hm
  exact app_own elemO encO_len encO_one ty hv hs hb (by omega) (by simp [maxLen]; omega)
theorem rLess_v (a b : Ord) (r : Bool) (h : less a b = r) (w : World) :
    Calls Tryd.prog 21 #[(.agg #[.int .i64 a.id, .int .i64 a.acct, .int .i64 a.inst, .int .u8 a.side, .int .i64 a.price, .int .i64 a.left]), (.agg #[.int .i64 b.id, .int .i64 b.acct, .int .i64 b.inst, .int .u8 b.side, .int .i64 b.price, .int .i64 b.left])] w fun e w' => e = .returned (.bool r) ∧ Below w.heap.size w w' := by
  rw [← h]; exact rLess_c a b w
theorem slo_form {W : World} {a : Option Addr} {c : Nat} {L : List Ord} {B : Nat} (h : SlO W a c L) (hb : ∀ ad, a = some ad → B ≤ ad.block ∧ ad.off = 0) : (a = none ∧ L = [] ∧ c = 0) ∨ ∃ b, a = some ⟨b, 0, none⟩ := by
  cases a with
  | none => exact Or.inl ⟨rfl, h.ofNone rfl⟩
  | some ad =>
    obtain ⟨b, off, sp⟩ := ad
    obtain ⟨h1, _, _⟩ := h.ofSome _ rfl
    obtain ⟨_, h2⟩ := hb _ rfl
    simp only at h1 h2
    subst h1; subst h2
    exact Or.inr ⟨b, rfl⟩
theorem own_drew {base : Nat} {W : World} {v : Value} {xs : List Ord} (h : OwnO base W v xs) : OwnO base W.drew v xs := h.mono (Below.refl _ _).drew
theorem own_alloc {base : Nat} {W : World} {v : Value} {xs : List Ord} (o : Obj) (h : OwnO base W v xs) : OwnO base (W.alloc o) v xs := h.mono (below_alloc _ _)
theorem one_grown {W W' : World} {B C : Nat} {o : Ord} (h : SlO W (some ⟨B, 0, none⟩) 1 [o]) (hg : W.grownBy W' (some C)) (hne : B ≠ C) : SlO W' (some ⟨B, 0, none⟩) 1 [o] :=
  h.grown hg (fun ad had h => by cases had; injection h with h; exact hne h)
theorem nil_take {W : World} {L : List Ord} (h : L = []) (m : Nat) : SlO W none 0 (L.take m) := by subst h; simpa using SlR.nil W
theorem nil_drop {W : World} {L : List Ord} (h : L = []) (m : Nat) : SlO W none 0 (L.drop m) := by subst h; simpa using SlR.nil W
theorem cut_hi0 {W : World} {b c : Nat} {L : List Ord} (h : SlO W (some ⟨b, 0, none⟩) c L) : SlO W (some ⟨b, 0, none⟩) c (L.drop 0) := by rw [List.drop_zero]; exact h
theorem cut_full {W : World} {b c m : Nat} {L : List Ord} (h : SlO W (some ⟨b, 0, none⟩) c L) (hm : c = m) : SlO W (some ⟨b, 0, none⟩) 0 (L.drop m) := by
  have e : L.drop m = [] := List.drop_eq_nil_of_le (by have := h.le; omega)
  rw [e]
  obtain ⟨_, h2, _⟩ := h.ofSome _ rfl
  exact ⟨Nat.le_refl _, by omega, (fun h => by cases h), fun ad had => by cases had; exact ⟨rfl, h2, fun j x hx => by simp at hx⟩⟩
set_option maxHeartbeats 8000000 in
theorem rList_yes (a : Option Addr) (cap n : Nat) (xs : List Ord) (inst side : Int) (w : World) (HS : Hid (SlO w a cap xs)) (HN : Hid (n = xs.length)) (hn : n ≤ 128) (hm : mayL xs = true)
    (HM : Hid (∀ w1, Below w.heap.size w w1 → Calls Tryd.prog 20 #[.slice a n cap] w1 fun e w' => e = .returned (.bool true) ∧ Below w1.heap.size w1 w')) :
    Calls Tryd.prog 25 #[.slice a n cap, .int .i64 inst, .int .u8 side] w fun e w' => ∃ r, e = .returned r ∧ Below w.heap.size w w' ∧ OwnO w.heap.size w' r (listOf xs inst side) := by
  have HMy := Lib.hid hm; clear hm
  go_enter Tryd.func25, Tryd.ntmps25
  go_wp2_with (go_at_call 20; (with_reducible refine (HM.out _ (Below.refl _ _)).mono ?_); rintro e w1 ⟨rfl, hb1⟩; have HB1 := Lib.hid hb1; clear hb1)
  go_loopw [7, 8] (fun v i wr => (∃ k : Nat, k ≤ n ∧ i = .int .i64 k ∧ ∃ L : List Ord, Hid (OwnO w.heap.size wr v L ∧ L.Perm ((xs.take k).filter (isOf inst side)) ∧ Row side L)) ∧ Hid (Below w.heap.size w wr)) (fun _ i _ => n - (intOf i).toNat)
  case atStart => exact ⟨⟨0, Nat.zero_le _, rfl, [], Lib.hid ⟨Own.nil _, by simp, List.Pairwise.nil⟩⟩, HB1⟩
  case round =>
    obtain ⟨⟨k, hk, rfl, L, HL⟩, HB⟩ := hrel
    by_cases hlt : k < n
    · obtain ⟨x, HX⟩ : ∃ x, Hid (xs[k]? = some x) := ⟨_, Lib.hid (List.getElem?_eq_getElem (by have := HN.out; omega))⟩
      obtain ⟨b9, off, hla, hb9, h6⟩ := SlR.cells6 HS.out (by intro h; have := HX.out; rw [h] at this; simp at this)
      subst hla
      have H6 := Lib.hid (h6 k x HX.out); clear h6
      obtain ⟨x0, x1, x2, x3, x4, x5⟩ := H6.out.mono HB.out
      have i0 : (0 : Int) ≤ (k : Int) := Int.natCast_nonneg _
      have i1 : (k : Int) < (n : Int) := by omega
      have HST := Lib.hid (filter_step (inst := inst) (side := side) HX.out)
      have HOF : Hid (isOf inst side x = (x.inst == inst && x.side == side)) := Lib.hid rfl
      rcases eqne (x.inst) (inst) with ⟨e1, e1'⟩ | ⟨e1, e1'⟩
      · rcases eqne (x.side) (side) with ⟨e2, e2'⟩ | ⟨e2, e2'⟩
        · have HO : Hid (isOf inst side x = true) := Lib.hid (by rw [HOF.out, e1, e2]; rfl)
          have hLk : L.length ≤ k := by
            have h1 := HL.out.2.1.length_eq
            have h2 := List.length_filter_le (isOf inst side) (xs.take k)
            rw [List.length_take] at h2; omega
          have HAll : Hid (∀ y ∈ L, mayOne y = true ∧ y.inst = inst ∧ y.side = side) := Lib.hid (fun y hy => by
            have h1 := HL.out.2.1.mem_iff.1 hy
            obtain ⟨h2, h3⟩ := List.mem_filter.1 h1
            simp [isOf] at h3
            exact ⟨(mayL_iff.1 HMy.out).2.1 y (List.mem_of_mem_take h2), h3⟩)
          have HXx : Hid (mayOne x = true ∧ x.inst = inst ∧ x.side = side) := Lib.hid ⟨(mayL_iff.1 HMy.out).2.1 x (List.mem_of_getElem? HX.out), by simpa using e1, by simpa using e2⟩
          obtain ⟨ao, co, hvo, hso, hbo⟩ := Own.slR encO_len HL.out.1
          subst hvo
          have HSO := Lib.hid hso; clear hso
          have hco := HSO.out.le
          have hco2 := HSO.out.max
          obtain ⟨ln, hln⟩ : ∃ ln, ln = L.length := ⟨_, rfl⟩
          rw [← hln] at hLk hco ⊢
          have HLN := Lib.hid hln; clear hln
          go_wp2_with fail
          clear x0 x1 x2 x3 x4 x5
          obtain ⟨wo, hwo⟩ : ∃ wo : World, wo = wr := ⟨_, rfl⟩
          subst hwo
          go_loopw [9] (fun kv wi => (∃ m : Nat, m ≤ ln ∧ kv = .int .i64 m ∧ Hid (∀ j y, m ≤ j → L[j]? = some y → less x y = true)) ∧ Hid (GrS wo wi)) (fun kv _ => (intOf kv).toNat)
          case atStart => exact ⟨⟨ln, Nat.le_refl _, rfl, Lib.hid (fun j y h1 h2 => by have := (List.getElem?_eq_some_iff.1 h2).1; have := HLN.out; omega)⟩, Lib.hid (GrS.refl _)⟩
          case round =>
            obtain ⟨⟨m, hm, rfl, HA⟩, HW⟩ := hrel
            by_cases hm0 : m = 0
            · subst hm0
              go_wp2_with fail
              refine wp_region_held_drew (S := fun w' => GrS wo w') (by kernel_rfl) ?_ (fun hHeld => ?_)
              · exact GrS.start HW.out.1
              refine hx_take 0 (some 37) ?_ (by kernel_rfl) (by kernel_rfl) (by kernel_rfl) (by kernel_rfl) (by kernel_rfl) (fun _ _ _ h => h) (by assumption) (fun o ho w hSw => ?_) ?_
              rotate_left
              · replace ho := Option.some.inj ho
                conv at ho => lhs; whnf
                subst ho
                (try dsimp only at hSw)
                go_simp
                (try rfl)
              (try simp only [Act.put, List.setIfInBounds_toArray, List.set_cons_zero, List.set_cons_succ])
              refine hx_take 1 (some 38) ?_ (by kernel_rfl) (by kernel_rfl) (by kernel_rfl) (by kernel_rfl) (by kernel_rfl) (fun _ _ _ h => h) (by assumption) (fun o ho w hSw => ?_) ?_
              rotate_left
              · replace ho := Option.some.inj ho
                conv at ho => lhs; whnf
                subst ho
                (try dsimp only at hSw)
                go_simp
                (try rfl)
              (try simp only [Act.put, List.setIfInBounds_toArray, List.set_cons_zero, List.set_cons_succ])
              refine hx_take 2 (some 39) ?_ (by kernel_rfl) (by kernel_rfl) (by kernel_rfl) (by kernel_rfl) (by kernel_rfl) (fun _ _ _ h => h) (by assumption) (fun o ho w hSw => ?_) ?_
              rotate_left
              · replace ho := Option.some.inj ho
                conv at ho => lhs; whnf
                subst ho
                (try dsimp only at hSw)
                go_simp
                (try rfl)
              (try simp only [Act.put, List.setIfInBounds_toArray, List.set_cons_zero, List.set_cons_succ])
              (refine hx_skip 3 (some 40) (by kernel_rfl) (by kernel_rfl) (by kernel_rfl) (by kernel_rfl) (by kernel_rfl) (fun _ _ _ h => h) (by assumption) ?_; (try simp only [Act.put, List.setIfInBounds_toArray, List.set_cons_zero, List.set_cons_succ]))
              (refine hx_skip 4 (some 41) (by kernel_rfl) (by kernel_rfl) (by kernel_rfl) (by kernel_rfl) (by kernel_rfl) (fun _ _ _ h => h) (by assumption) ?_; (try simp only [Act.put, List.setIfInBounds_toArray, List.set_cons_zero, List.set_cons_succ]))
              (refine hx_skip 5 (some 42) (by kernel_rfl) (by kernel_rfl) (by kernel_rfl) (by kernel_rfl) (by kernel_rfl) (fun _ _ _ h => h) (by assumption) ?_; (try simp only [Act.put, List.setIfInBounds_toArray, List.set_cons_zero, List.set_cons_succ]))
              (refine hx_skip 6 (some 43) (by kernel_rfl) (by kernel_rfl) (by kernel_rfl) (by kernel_rfl) (by kernel_rfl) (fun _ _ _ h => h) (by assumption) ?_; (try simp only [Act.put, List.setIfInBounds_toArray, List.set_cons_zero, List.set_cons_succ]))
              (refine hx_skip 7 (some 44) (by kernel_rfl) (by kernel_rfl) (by kernel_rfl) (by kernel_rfl) (by kernel_rfl) (fun _ _ _ h => h) (by assumption) ?_; (try simp only [Act.put, List.setIfInBounds_toArray, List.set_cons_zero, List.set_cons_succ]))
              (refine hx_skip 8 (some 45) (by kernel_rfl) (by kernel_rfl) (by kernel_rfl) (by kernel_rfl) (by kernel_rfl) (fun _ _ _ h => h) (by assumption) ?_; (try simp only [Act.put, List.setIfInBounds_toArray, List.set_cons_zero, List.set_cons_succ]))
              (refine hx_skip 9 (some 46) (by kernel_rfl) (by kernel_rfl) (by kernel_rfl) (by kernel_rfl) (by kernel_rfl) (fun _ _ _ h => h) (by assumption) ?_; (try simp only [Act.put, List.setIfInBounds_toArray, List.set_cons_zero, List.set_cons_succ]))
              (refine hx_skip 10 (some 47) (by kernel_rfl) (by kernel_rfl) (by kernel_rfl) (by kernel_rfl) (by kernel_rfl) (fun _ _ _ h => h) (by assumption) ?_; (try simp only [Act.put, List.setIfInBounds_toArray, List.set_cons_zero, List.set_cons_succ]))
              (refine hx_skip 11 (some 48) (by kernel_rfl) (by kernel_rfl) (by kernel_rfl) (by kernel_rfl) (by kernel_rfl) (fun _ _ _ h => h) (by assumption) ?_; (try simp only [Act.put, List.setIfInBounds_toArray, List.set_cons_zero, List.set_cons_succ]))
              (refine hx_skip 12 (some 49) (by kernel_rfl) (by kernel_rfl) (by kernel_rfl) (by kernel_rfl) (by kernel_rfl) (fun _ _ _ h => h) (by assumption) ?_; (try simp only [Act.put, List.setIfInBounds_toArray, List.set_cons_zero, List.set_cons_succ]))
              refine hx_take 13 (some 50) ?_ (by kernel_rfl) (by kernel_rfl) (by kernel_rfl) (by kernel_rfl) (by kernel_rfl) (fun _ _ _ h => h) (by assumption) (fun o ho w hSw => ?_) ?_
              rotate_left
              · replace ho := Option.some.inj ho
                conv at ho => lhs; whnf
                subst ho
                (try dsimp only at hSw)
                go_simp
                (try rfl)
              (try simp only [Act.put, List.setIfInBounds_toArray, List.set_cons_zero, List.set_cons_succ])
              refine wpAnyH_done (by kernel_rfl) ?_ _
              have HGZ := Lib.hid (show GrS wo _ from by assumption)
              have HROW : Hid (Row side (L.take 0 ++ x :: L.drop 0)) := Lib.hid (put_row HL.out.2.2 HAll.out HXx.out (Nat.zero_le _) HA.out (fun _ h => by omega))
              generalize wr.drew = Z at *
              have HBZ : Hid (Below w.heap.size w Z) := Lib.hid (grow_trans HB.out HGZ.out.1)
              have HSZ := Lib.hid (HSO.out.mono HGZ.out.1)
              obtain ⟨x0, x1, x2, x3, x4, x5⟩ := H6.out.mono HBZ.out
              have hx9 : b9 < Z.heap.size := by have := HBZ.out.size; omega
              clear HW
              rcases slo_form HSZ.out hbo with ⟨hao, hL0, hc0⟩ | ⟨ob', hao⟩
              · subst hao; subst hc0
                have HL0 := Lib.hid hL0; clear hL0
                obtain rfl : ln = 0 := by have h1 := HLN.out; rw [HL0.out] at h1; simpa using h1
                go_wp2_with fail
                refine wp_region_held_drew (S := fun w' => GrS Z w') (by kernel_rfl) ?_ (fun hHeld => ?_)
                · exact GrS.start (Below.refl _ _)
                refine hx_take 1 (some 54) ?_ (by kernel_rfl) (by kernel_rfl) (by kernel_rfl) (by kernel_rfl) (by kernel_rfl) (fun _ _ _ h => h) (by assumption) (fun o ho w hSw => ?_) ?_
                rotate_left
                · replace ho := Option.some.inj ho
                  conv at ho => lhs; whnf
                  subst ho
                  (try dsimp only at hSw)
                  go_simp
                  (try rfl)
                (try simp only [Act.put, List.setIfInBounds_toArray, List.set_cons_zero, List.set_cons_succ])
                refine hx_take 2 (some 55) ?_ (by kernel_rfl) (by kernel_rfl) (by kernel_rfl) (by kernel_rfl) (by kernel_rfl) (fun _ _ _ h => h) (by assumption) (fun o ho w hSw => ?_) ?_
                rotate_left
                · replace ho := Option.some.inj ho
                  conv at ho => lhs; whnf
                  subst ho
                  (try dsimp only at hSw)
                  go_simp
                  (try rfl)
                (try simp only [Act.put, List.setIfInBounds_toArray, List.set_cons_zero, List.set_cons_succ])
                refine hx_take 3 (some 56) ?_ (by kernel_rfl) (by kernel_rfl) (by kernel_rfl) (by kernel_rfl) (by kernel_rfl) (fun _ _ _ h => h) (by assumption) (fun o ho w hSw => ?_) ?_
                rotate_left
                · replace ho := Option.some.inj ho
                  conv at ho => lhs; whnf
                  subst ho
                  (try dsimp only at hSw)
                  go_simp
                  (try rfl)
                (try simp only [Act.put, List.setIfInBounds_toArray, List.set_cons_zero, List.set_cons_succ])
                refine hx_take 5 (some 58) ?_ (by kernel_rfl) (by kernel_rfl) (by kernel_rfl) (by kernel_rfl) (by kernel_rfl) (fun _ _ _ h => h) (by assumption) (fun o ho w hSw => ?_) ?_
                rotate_left
                · replace ho := Option.some.inj ho
                  conv at ho => lhs; whnf
                  subst ho
                  (try dsimp only at hSw)
                  go_simp
                  (try rfl)
                (try simp only [Act.put, List.setIfInBounds_toArray, List.set_cons_zero, List.set_cons_succ])
                refine hx_take 6 (some 59) ?_ (by kernel_rfl) (by kernel_rfl) (by kernel_rfl) (by kernel_rfl) (by kernel_rfl) (fun _ _ _ h => h) (by assumption) (fun o ho w hSw => ?_) ?_
                rotate_left
                · replace ho := Option.some.inj ho
                  conv at ho => lhs; whnf
                  subst ho
                  (try dsimp only at hSw)
                  go_simp
                  (try rfl)
                (try simp only [Act.put, List.setIfInBounds_toArray, List.set_cons_zero, List.set_cons_succ])
                refine hx_take 7 (some 60) ?_ (by kernel_rfl) (by kernel_rfl) (by kernel_rfl) (by kernel_rfl) (by kernel_rfl) (fun _ _ _ h => h) (by assumption) (fun o ho w hSw => ?_) ?_
                rotate_left
                · replace ho := Option.some.inj ho
                  conv at ho => lhs; whnf
                  subst ho
                  (try dsimp only at hSw)
                  go_simp
                  (try rfl)
                (try simp only [Act.put, List.setIfInBounds_toArray, List.set_cons_zero, List.set_cons_succ])
                refine hx_take 8 (some 61) ?_ (by kernel_rfl) (by kernel_rfl) (by kernel_rfl) (by kernel_rfl) (by kernel_rfl) (fun _ _ _ h => h) (by assumption) (fun o ho w hSw => ?_) ?_
                rotate_left
                · replace ho := Option.some.inj ho
                  conv at ho => lhs; whnf
                  subst ho
                  (try dsimp only at hSw)
                  go_simp
                  (try rfl)
                (try simp only [Act.put, List.setIfInBounds_toArray, List.set_cons_zero, List.set_cons_succ])
                refine hx_take 11 (some 64) ?_ (by kernel_rfl) (by kernel_rfl) (by kernel_rfl) (by kernel_rfl) (by kernel_rfl) (fun _ _ _ h => h) (by assumption) (fun o ho w hSw => ?_) ?_
                rotate_left
                · replace ho := Option.some.inj ho
                  conv at ho => lhs; whnf
                  subst ho
                  (try dsimp only at hSw)
                  go_simp
                  (try rfl)
                (try simp only [Act.put, List.setIfInBounds_toArray, List.set_cons_zero, List.set_cons_succ])
                refine hx_take 12 (some 65) ?_ (by kernel_rfl) (by kernel_rfl) (by kernel_rfl) (by kernel_rfl) (by kernel_rfl) (fun _ _ _ h => h) (by assumption) (fun o ho w hSw => ?_) ?_
                rotate_left
                · replace ho := Option.some.inj ho
                  conv at ho => lhs; whnf
                  subst ho
                  (try dsimp only at hSw)
                  go_simp
                  (try rfl)
                (try simp only [Act.put, List.setIfInBounds_toArray, List.set_cons_zero, List.set_cons_succ])
                refine hx_take 13 (some 66) ?_ (by kernel_rfl) (by kernel_rfl) (by kernel_rfl) (by kernel_rfl) (by kernel_rfl) (fun _ _ _ h => h) (by assumption) (fun o ho w hSw => ?_) ?_
                rotate_left
                · replace ho := Option.some.inj ho
                  conv at ho => lhs; whnf
                  subst ho
                  (try dsimp only at hSw)
                  go_simp
                  (try rfl)
                (try simp only [Act.put, List.setIfInBounds_toArray, List.set_cons_zero, List.set_cons_succ])
                refine hx_act2 0 9 (some 53) (some 62) (by kernel_rfl) (by kernel_rfl) (by kernel_rfl) (by kernel_rfl) (by kernel_rfl) (fun K hK o ho => ?_) (fun K hK o ho => ?_)
                replace ho := Option.some.inj ho
                conv at ho => lhs; whnf
                subst ho
                go_simp
                first | (refine hK _ _ ?_ (fun hHeld => ?_)) | (go_wp2_with fail; refine hK _ _ ?_ (fun hHeld => ?_))
                · first | exact GrS.alloc (by assumption) _ | exact GrS.of hb1
                clear hK K
                (try simp only [Act.put, List.setIfInBounds_toArray, List.set_cons_zero, List.set_cons_succ])
                refine hx_act2 4 9 (some 57) (some 62) (by kernel_rfl) (by kernel_rfl) (by kernel_rfl) (by kernel_rfl) (by kernel_rfl) (fun K hK o ho => ?_) (fun K hK o ho => ?_)
                replace ho := Option.some.inj ho
                conv at ho => lhs; whnf
                subst ho
                (first
                  | (refine hx_app (.tmp 53) (.tmp 56) 31 rfl (v := .slice (some ⟨_, 0, none⟩) 0 0) (u := .slice none 0 0) rfl rfl (app0 (base := Z.heap.size) (ys := L.take 0) _ ?_ ?_ ?_ ?_ ?_) ?_
                     · (first | exact own_drew (Own.empty encO 6 23 Z _ (Nat.le_refl _)) | exact own_drew (own_alloc _ (Own.empty encO 6 23 Z _ (Nat.le_refl _))) | exact own_drew (Own.emptyAt encO 6 23 (Z.alloc _) _ (Z.heap.size + 1) (by simp) (by simp)))
                     · (repeat (first | with_reducible exact (nil_take HL0.out 0) | with_reducible refine sl_drew' ?_ | with_reducible refine sl_alloc' _ ?_))
                     · have := HLN.out; rw [List.length_take]; omega
                     · (first | (simp; done) | (simp; omega))
                     · omega
                     rintro v7 w7 ⟨ho7, hg7⟩
                     have HO7 := Lib.hid ho7
                     have HB7 : Hid (Below Z.heap.size Z w7) := Lib.hid (Below.grown (by (repeat (first | exact Below.refl _ _ | refine Below.drew ?_ | refine Below.alloc ?_ (by first | (simp; done) | (simp; omega)) _))) hg7 (by first | (simp; done) | (simp; omega)) (by intro q hq; injection hq with hq; subst hq; (first | (simp; done) | omega | (simp; omega))))
                     first
                     | (have HX1 := Lib.hid (one_grown (sl_drew' (slO_one (Z.alloc _) x (Z.heap.size + 1) (by simp))) hg7 (by simp)))
                     | (have HX1 := Lib.hid (one_grown (sl_drew' (sl_alloc' _ (slO_one Z x _ rfl))) hg7 (by simp)))
                     | skip
                     clear ho7 hg7
                     have hb1 := HB7.out)
                  | (refine hx_app (.tmp 57) (.tmp 62) 31 rfl (v := v7) (u := .slice (some ⟨_, 0, none⟩) 1 1) rfl rfl (app1m (base := Z.heap.size) (xs := L.take 0) (o := x) _ ?_ ?_ ?_ ?_) ?_
                     · first | exact HO7.out | exact own_alloc _ HO7.out
                     · first | exact slO_one w7 x _ rfl | exact HX1.out
                     · first | exact HB7.out.size | exact Nat.le_trans HB7.out.size (by simp)
                     · have := HLN.out; rw [List.length_take]; omega
                     rintro v8 w8 ⟨ho8, hg8⟩
                     have HO8 := Lib.hid ho8
                     have HB8 : Hid (Below Z.heap.size Z w8) := Lib.hid (by first | exact Below.grown HB7.out hg8 HB7.out.size (fun q hq => (Own.lt HO7.out q hq).1) | exact Below.grown (HB7.out.alloc HB7.out.size _) hg8 (Nat.le_trans HB7.out.size (by first | (simp; done) | (simp; omega))) (fun q hq => (Own.lt HO7.out q hq).1))
                     clear ho8 hg8
                     have hb1 := HB8.out)
                  | (refine hx_app (.tmp 63) (.tmp 66) 31 rfl (v := v8) (u := .slice none 0 0) rfl rfl (app2m (base := Z.heap.size) (xs := L.take 0 ++ [x]) (ys := L.drop 0) _ HO8.out ?_ ?_ HB8.out.size ?_ ?_) ?_
                     · exact SlR.mono (nil_drop HL0.out 0) HB8.out
                     · have := HLN.out; rw [List.length_drop]; omega
                     · have := HLN.out; (first | (simp; done) | (simp; omega))
                     · omega
                     rintro v9 w9 ⟨ho9, hg9⟩
                     have HO9 := Lib.hid ho9
                     have HB9 : Hid (Below Z.heap.size Z w9) := Lib.hid (Below.grown HB8.out hg9 HB8.out.size (fun q hq => (Own.lt HO8.out q hq).1))
                     clear ho9 hg9
                     have hb1 := HB9.out))
                first | (refine hK _ _ ?_ (fun hHeld => ?_)) | (go_wp2_with fail; refine hK _ _ ?_ (fun hHeld => ?_))
                · first | exact GrS.alloc (by assumption) _ | exact GrS.of hb1
                clear hK K
                (try simp only [Act.put, List.setIfInBounds_toArray, List.set_cons_zero, List.set_cons_succ])
                refine hx_act 9 (some 62) (by kernel_rfl) (by kernel_rfl) (by kernel_rfl) (fun K hK o ho => ?_)
                replace ho := Option.some.inj ho
                conv at ho => lhs; whnf
                subst ho
                go_simp
                first | (refine hK _ _ ?_ (fun hHeld => ?_)) | (go_wp2_with fail; refine hK _ _ ?_ (fun hHeld => ?_))
                · first | exact GrS.alloc (by assumption) _ | exact GrS.of hb1
                clear hK K
                (try simp only [Act.put, List.setIfInBounds_toArray, List.set_cons_zero, List.set_cons_succ])
                refine hx_act 10 (some 63) (by kernel_rfl) (by kernel_rfl) (by kernel_rfl) (fun K hK o ho => ?_)
                replace ho := Option.some.inj ho
                conv at ho => lhs; whnf
                subst ho
                (first
                  | (refine hx_app (.tmp 53) (.tmp 56) 31 rfl (v := .slice (some ⟨_, 0, none⟩) 0 0) (u := .slice none 0 0) rfl rfl (app0 (base := Z.heap.size) (ys := L.take 0) _ ?_ ?_ ?_ ?_ ?_) ?_
                     · (first | exact own_drew (Own.empty encO 6 23 Z _ (Nat.le_refl _)) | exact own_drew (own_alloc _ (Own.empty encO 6 23 Z _ (Nat.le_refl _))) | exact own_drew (Own.emptyAt encO 6 23 (Z.alloc _) _ (Z.heap.size + 1) (by simp) (by simp)))
                     · (repeat (first | with_reducible exact (nil_take HL0.out 0) | with_reducible refine sl_drew' ?_ | with_reducible refine sl_alloc' _ ?_))
                     · have := HLN.out; rw [List.length_take]; omega
                     · (first | (simp; done) | (simp; omega))
                     · omega
                     rintro v7 w7 ⟨ho7, hg7⟩
                     have HO7 := Lib.hid ho7
                     have HB7 : Hid (Below Z.heap.size Z w7) := Lib.hid (Below.grown (by (repeat (first | exact Below.refl _ _ | refine Below.drew ?_ | refine Below.alloc ?_ (by first | (simp; done) | (simp; omega)) _))) hg7 (by first | (simp; done) | (simp; omega)) (by intro q hq; injection hq with hq; subst hq; (first | (simp; done) | omega | (simp; omega))))
                     first
                     | (have HX1 := Lib.hid (one_grown (sl_drew' (slO_one (Z.alloc _) x (Z.heap.size + 1) (by simp))) hg7 (by simp)))
                     | (have HX1 := Lib.hid (one_grown (sl_drew' (sl_alloc' _ (slO_one Z x _ rfl))) hg7 (by simp)))
                     | skip
                     clear ho7 hg7
                     have hb1 := HB7.out)
                  | (refine hx_app (.tmp 57) (.tmp 62) 31 rfl (v := v7) (u := .slice (some ⟨_, 0, none⟩) 1 1) rfl rfl (app1m (base := Z.heap.size) (xs := L.take 0) (o := x) _ ?_ ?_ ?_ ?_) ?_
                     · first | exact HO7.out | exact own_alloc _ HO7.out
                     · first | exact slO_one w7 x _ rfl | exact HX1.out
                     · first | exact HB7.out.size | exact Nat.le_trans HB7.out.size (by simp)
                     · have := HLN.out; rw [List.length_take]; omega
                     rintro v8 w8 ⟨ho8, hg8⟩
                     have HO8 := Lib.hid ho8
                     have HB8 : Hid (Below Z.heap.size Z w8) := Lib.hid (by first | exact Below.grown HB7.out hg8 HB7.out.size (fun q hq => (Own.lt HO7.out q hq).1) | exact Below.grown (HB7.out.alloc HB7.out.size _) hg8 (Nat.le_trans HB7.out.size (by first | (simp; done) | (simp; omega))) (fun q hq => (Own.lt HO7.out q hq).1))
                     clear ho8 hg8
                     have hb1 := HB8.out)
                  | (refine hx_app (.tmp 63) (.tmp 66) 31 rfl (v := v8) (u := .slice none 0 0) rfl rfl (app2m (base := Z.heap.size) (xs := L.take 0 ++ [x]) (ys := L.drop 0) _ HO8.out ?_ ?_ HB8.out.size ?_ ?_) ?_
                     · exact SlR.mono (nil_drop HL0.out 0) HB8.out
                     · have := HLN.out; rw [List.length_drop]; omega
                     · have := HLN.out; (first | (simp; done) | (simp; omega))
                     · omega
                     rintro v9 w9 ⟨ho9, hg9⟩
                     have HO9 := Lib.hid ho9
                     have HB9 : Hid (Below Z.heap.size Z w9) := Lib.hid (Below.grown HB8.out hg9 HB8.out.size (fun q hq => (Own.lt HO8.out q hq).1))
                     clear ho9 hg9
                     have hb1 := HB9.out))
                first | (refine hK _ _ ?_ (fun hHeld => ?_)) | (go_wp2_with fail; refine hK _ _ ?_ (fun hHeld => ?_))
                · first | exact GrS.alloc (by assumption) _ | exact GrS.of hb1
                clear hK K
                (try simp only [Act.put, List.setIfInBounds_toArray, List.set_cons_zero, List.set_cons_succ])
                refine hx_act 14 (some 67) (by kernel_rfl) (by kernel_rfl) (by kernel_rfl) (fun K hK o ho => ?_)
                replace ho := Option.some.inj ho
                conv at ho => lhs; whnf
                subst ho
                (first
                  | (refine hx_app (.tmp 53) (.tmp 56) 31 rfl (v := .slice (some ⟨_, 0, none⟩) 0 0) (u := .slice none 0 0) rfl rfl (app0 (base := Z.heap.size) (ys := L.take 0) _ ?_ ?_ ?_ ?_ ?_) ?_
                     · (first | exact own_drew (Own.empty encO 6 23 Z _ (Nat.le_refl _)) | exact own_drew (own_alloc _ (Own.empty encO 6 23 Z _ (Nat.le_refl _))) | exact own_drew (Own.emptyAt encO 6 23 (Z.alloc _) _ (Z.heap.size + 1) (by simp) (by simp)))
                     · (repeat (first | with_reducible exact (nil_take HL0.out 0) | with_reducible refine sl_drew' ?_ | with_reducible refine sl_alloc' _ ?_))
                     · have := HLN.out; rw [List.length_take]; omega
                     · (first | (simp; done) | (simp; omega))
                     · omega
                     rintro v7 w7 ⟨ho7, hg7⟩
                     have HO7 := Lib.hid ho7
                     have HB7 : Hid (Below Z.heap.size Z w7) := Lib.hid (Below.grown (by (repeat (first | exact Below.refl _ _ | refine Below.drew ?_ | refine Below.alloc ?_ (by first | (simp; done) | (simp; omega)) _))) hg7 (by first | (simp; done) | (simp; omega)) (by intro q hq; injection hq with hq; subst hq; (first | (simp; done) | omega | (simp; omega))))
                     first
                     | (have HX1 := Lib.hid (one_grown (sl_drew' (slO_one (Z.alloc _) x (Z.heap.size + 1) (by simp))) hg7 (by simp)))
                     | (have HX1 := Lib.hid (one_grown (sl_drew' (sl_alloc' _ (slO_one Z x _ rfl))) hg7 (by simp)))
                     | skip
                     clear ho7 hg7
                     have hb1 := HB7.out)
                  | (refine hx_app (.tmp 57) (.tmp 62) 31 rfl (v := v7) (u := .slice (some ⟨_, 0, none⟩) 1 1) rfl rfl (app1m (base := Z.heap.size) (xs := L.take 0) (o := x) _ ?_ ?_ ?_ ?_) ?_
                     · first | exact HO7.out | exact own_alloc _ HO7.out
                     · first | exact slO_one w7 x _ rfl | exact HX1.out
                     · first | exact HB7.out.size | exact Nat.le_trans HB7.out.size (by simp)
                     · have := HLN.out; rw [List.length_take]; omega
                     rintro v8 w8 ⟨ho8, hg8⟩
                     have HO8 := Lib.hid ho8
                     have HB8 : Hid (Below Z.heap.size Z w8) := Lib.hid (by first | exact Below.grown HB7.out hg8 HB7.out.size (fun q hq => (Own.lt HO7.out q hq).1) | exact Below.grown (HB7.out.alloc HB7.out.size _) hg8 (Nat.le_trans HB7.out.size (by first | (simp; done) | (simp; omega))) (fun q hq => (Own.lt HO7.out q hq).1))
                     clear ho8 hg8
                     have hb1 := HB8.out)
                  | (refine hx_app (.tmp 63) (.tmp 66) 31 rfl (v := v8) (u := .slice none 0 0) rfl rfl (app2m (base := Z.heap.size) (xs := L.take 0 ++ [x]) (ys := L.drop 0) _ HO8.out ?_ ?_ HB8.out.size ?_ ?_) ?_
                     · exact SlR.mono (nil_drop HL0.out 0) HB8.out
                     · have := HLN.out; rw [List.length_drop]; omega
                     · have := HLN.out; (first | (simp; done) | (simp; omega))
                     · omega
                     rintro v9 w9 ⟨ho9, hg9⟩
                     have HO9 := Lib.hid ho9
                     have HB9 : Hid (Below Z.heap.size Z w9) := Lib.hid (Below.grown HB8.out hg9 HB8.out.size (fun q hq => (Own.lt HO8.out q hq).1))
                     clear ho9 hg9
                     have hb1 := HB9.out))
                first | (refine hK _ _ ?_ (fun hHeld => ?_)) | (go_wp2_with fail; refine hK _ _ ?_ (fun hHeld => ?_))
                · first | exact GrS.alloc (by assumption) _ | exact GrS.of hb1
                clear hK K
                (try simp only [Act.put, List.setIfInBounds_toArray, List.set_cons_zero, List.set_cons_succ])
                refine hx_take 15 (some 7) ?_ (by kernel_rfl) (by kernel_rfl) (by kernel_rfl) (by kernel_rfl) (by kernel_rfl) (fun _ _ _ h => h) (by assumption) (fun o ho w hSw => ?_) ?_
                rotate_left
                · replace ho := Option.some.inj ho
                  conv at ho => lhs; whnf
                  subst ho
                  (try dsimp only at hSw)
                  go_simp
                  (try rfl)
                (try simp only [Act.put, List.setIfInBounds_toArray, List.set_cons_zero, List.set_cons_succ])
                refine wpAnyH_done (by kernel_rfl) ?_ _
                rotate_left 1
                replace ho := Option.some.inj ho
                conv at ho => lhs; whnf
                subst ho
                go_simp
                first | (refine hK _ _ ?_ (fun hHeld => ?_)) | (go_wp2_with fail; refine hK _ _ ?_ (fun hHeld => ?_))
                · first | exact GrS.alloc (by assumption) _ | exact GrS.of hb1
                clear hK K
                (try simp only [Act.put, List.setIfInBounds_toArray, List.set_cons_zero, List.set_cons_succ])
                refine hx_act 4 (some 57) (by kernel_rfl) (by kernel_rfl) (by kernel_rfl) (fun K hK o ho => ?_)
                replace ho := Option.some.inj ho
                conv at ho => lhs; whnf
                subst ho
                (first
                  | (refine hx_app (.tmp 53) (.tmp 56) 31 rfl (v := .slice (some ⟨_, 0, none⟩) 0 0) (u := .slice none 0 0) rfl rfl (app0 (base := Z.heap.size) (ys := L.take 0) _ ?_ ?_ ?_ ?_ ?_) ?_
                     · (first | exact own_drew (Own.empty encO 6 23 Z _ (Nat.le_refl _)) | exact own_drew (own_alloc _ (Own.empty encO 6 23 Z _ (Nat.le_refl _))) | exact own_drew (Own.emptyAt encO 6 23 (Z.alloc _) _ (Z.heap.size + 1) (by simp) (by simp)))
                     · (repeat (first | with_reducible exact (nil_take HL0.out 0) | with_reducible refine sl_drew' ?_ | with_reducible refine sl_alloc' _ ?_))
                     · have := HLN.out; rw [List.length_take]; omega
                     · (first | (simp; done) | (simp; omega))
                     · omega
                     rintro v7 w7 ⟨ho7, hg7⟩
                     have HO7 := Lib.hid ho7
                     have HB7 : Hid (Below Z.heap.size Z w7) := Lib.hid (Below.grown (by (repeat (first | exact Below.refl _ _ | refine Below.drew ?_ | refine Below.alloc ?_ (by first | (simp; done) | (simp; omega)) _))) hg7 (by first | (simp; done) | (simp; omega)) (by intro q hq; injection hq with hq; subst hq; (first | (simp; done) | omega | (simp; omega))))
                     first
                     | (have HX1 := Lib.hid (one_grown (sl_drew' (slO_one (Z.alloc _) x (Z.heap.size + 1) (by simp))) hg7 (by simp)))
                     | (have HX1 := Lib.hid (one_grown (sl_drew' (sl_alloc' _ (slO_one Z x _ rfl))) hg7 (by simp)))
                     | skip
                     clear ho7 hg7
                     have hb1 := HB7.out)
                  | (refine hx_app (.tmp 57) (.tmp 62) 31 rfl (v := v7) (u := .slice (some ⟨_, 0, none⟩) 1 1) rfl rfl (app1m (base := Z.heap.size) (xs := L.take 0) (o := x) _ ?_ ?_ ?_ ?_) ?_
                     · first | exact HO7.out | exact own_alloc _ HO7.out
                     · first | exact slO_one w7 x _ rfl | exact HX1.out
                     · first | exact HB7.out.size | exact Nat.le_trans HB7.out.size (by simp)
                     · have := HLN.out; rw [List.length_take]; omega
                     rintro v8 w8 ⟨ho8, hg8⟩
                     have HO8 := Lib.hid ho8
                     have HB8 : Hid (Below Z.heap.size Z w8) := Lib.hid (by first | exact Below.grown HB7.out hg8 HB7.out.size (fun q hq => (Own.lt HO7.out q hq).1) | exact Below.grown (HB7.out.alloc HB7.out.size _) hg8 (Nat.le_trans HB7.out.size (by first | (simp; done) | (simp; omega))) (fun q hq => (Own.lt HO7.out q hq).1))
                     clear ho8 hg8
                     have hb1 := HB8.out)
                  | (refine hx_app (.tmp 63) (.tmp 66) 31 rfl (v := v8) (u := .slice none 0 0) rfl rfl (app2m (base := Z.heap.size) (xs := L.take 0 ++ [x]) (ys := L.drop 0) _ HO8.out ?_ ?_ HB8.out.size ?_ ?_) ?_
                     · exact SlR.mono (nil_drop HL0.out 0) HB8.out
                     · have := HLN.out; rw [List.length_drop]; omega
                     · have := HLN.out; (first | (simp; done) | (simp; omega))
                     · omega
                     rintro v9 w9 ⟨ho9, hg9⟩
                     have HO9 := Lib.hid ho9
                     have HB9 : Hid (Below Z.heap.size Z w9) := Lib.hid (Below.grown HB8.out hg9 HB8.out.size (fun q hq => (Own.lt HO8.out q hq).1))
                     clear ho9 hg9
                     have hb1 := HB9.out))
                first | (refine hK _ _ ?_ (fun hHeld => ?_)) | (go_wp2_with fail; refine hK _ _ ?_ (fun hHeld => ?_))
                · first | exact GrS.alloc (by assumption) _ | exact GrS.of hb1
                clear hK K
                (try simp only [Act.put, List.setIfInBounds_toArray, List.set_cons_zero, List.set_cons_succ])
                refine hx_act 10 (some 63) (by kernel_rfl) (by kernel_rfl) (by kernel_rfl) (fun K hK o ho => ?_)
                replace ho := Option.some.inj ho
                conv at ho => lhs; whnf
                subst ho
                (first
                  | (refine hx_app (.tmp 53) (.tmp 56) 31 rfl (v := .slice (some ⟨_, 0, none⟩) 0 0) (u := .slice none 0 0) rfl rfl (app0 (base := Z.heap.size) (ys := L.take 0) _ ?_ ?_ ?_ ?_ ?_) ?_
                     · (first | exact own_drew (Own.empty encO 6 23 Z _ (Nat.le_refl _)) | exact own_drew (own_alloc _ (Own.empty encO 6 23 Z _ (Nat.le_refl _))) | exact own_drew (Own.emptyAt encO 6 23 (Z.alloc _) _ (Z.heap.size + 1) (by simp) (by simp)))
                     · (repeat (first | with_reducible exact (nil_take HL0.out 0) | with_reducible refine sl_drew' ?_ | with_reducible refine sl_alloc' _ ?_))
                     · have := HLN.out; rw [List.length_take]; omega
                     · (first | (simp; done) | (simp; omega))
                     · omega
                     rintro v7 w7 ⟨ho7, hg7⟩
                     have HO7 := Lib.hid ho7
                     have HB7 : Hid (Below Z.heap.size Z w7) := Lib.hid (Below.grown (by (repeat (first | exact Below.refl _ _ | refine Below.drew ?_ | refine Below.alloc ?_ (by first | (simp; done) | (simp; omega)) _))) hg7 (by first | (simp; done) | (simp; omega)) (by intro q hq; injection hq with hq; subst hq; (first | (simp; done) | omega | (simp; omega))))
                     first
                     | (have HX1 := Lib.hid (one_grown (sl_drew' (slO_one (Z.alloc _) x (Z.heap.size + 1) (by simp))) hg7 (by simp)))
                     | (have HX1 := Lib.hid (one_grown (sl_drew' (sl_alloc' _ (slO_one Z x _ rfl))) hg7 (by simp)))
                     | skip
                     clear ho7 hg7
                     have hb1 := HB7.out)
                  | (refine hx_app (.tmp 57) (.tmp 62) 31 rfl (v := v7) (u := .slice (some ⟨_, 0, none⟩) 1 1) rfl rfl (app1m (base := Z.heap.size) (xs := L.take 0) (o := x) _ ?_ ?_ ?_ ?_) ?_
                     · first | exact HO7.out | exact own_alloc _ HO7.out
                     · first | exact slO_one w7 x _ rfl | exact HX1.out
                     · first | exact HB7.out.size | exact Nat.le_trans HB7.out.size (by simp)
                     · have := HLN.out; rw [List.length_take]; omega
                     rintro v8 w8 ⟨ho8, hg8⟩
                     have HO8 := Lib.hid ho8
                     have HB8 : Hid (Below Z.heap.size Z w8) := Lib.hid (by first | exact Below.grown HB7.out hg8 HB7.out.size (fun q hq => (Own.lt HO7.out q hq).1) | exact Below.grown (HB7.out.alloc HB7.out.size _) hg8 (Nat.le_trans HB7.out.size (by first | (simp; done) | (simp; omega))) (fun q hq => (Own.lt HO7.out q hq).1))
                     clear ho8 hg8
                     have hb1 := HB8.out)
                  | (refine hx_app (.tmp 63) (.tmp 66) 31 rfl (v := v8) (u := .slice none 0 0) rfl rfl (app2m (base := Z.heap.size) (xs := L.take 0 ++ [x]) (ys := L.drop 0) _ HO8.out ?_ ?_ HB8.out.size ?_ ?_) ?_
                     · exact SlR.mono (nil_drop HL0.out 0) HB8.out
                     · have := HLN.out; rw [List.length_drop]; omega
                     · have := HLN.out; (first | (simp; done) | (simp; omega))
                     · omega
                     rintro v9 w9 ⟨ho9, hg9⟩
                     have HO9 := Lib.hid ho9
                     have HB9 : Hid (Below Z.heap.size Z w9) := Lib.hid (Below.grown HB8.out hg9 HB8.out.size (fun q hq => (Own.lt HO8.out q hq).1))
                     clear ho9 hg9
                     have hb1 := HB9.out))
                first | (refine hK _ _ ?_ (fun hHeld => ?_)) | (go_wp2_with fail; refine hK _ _ ?_ (fun hHeld => ?_))
                · first | exact GrS.alloc (by assumption) _ | exact GrS.of hb1
                clear hK K
                (try simp only [Act.put, List.setIfInBounds_toArray, List.set_cons_zero, List.set_cons_succ])
                refine hx_act 14 (some 67) (by kernel_rfl) (by kernel_rfl) (by kernel_rfl) (fun K hK o ho => ?_)
                replace ho := Option.some.inj ho
                conv at ho => lhs; whnf
                subst ho
                (first
                  | (refine hx_app (.tmp 53) (.tmp 56) 31 rfl (v := .slice (some ⟨_, 0, none⟩) 0 0) (u := .slice none 0 0) rfl rfl (app0 (base := Z.heap.size) (ys := L.take 0) _ ?_ ?_ ?_ ?_ ?_) ?_
                     · (first | exact own_drew (Own.empty encO 6 23 Z _ (Nat.le_refl _)) | exact own_drew (own_alloc _ (Own.empty encO 6 23 Z _ (Nat.le_refl _))) | exact own_drew (Own.emptyAt encO 6 23 (Z.alloc _) _ (Z.heap.size + 1) (by simp) (by simp)))
                     · (repeat (first | with_reducible exact (nil_take HL0.out 0) | with_reducible refine sl_drew' ?_ | with_reducible refine sl_alloc' _ ?_))
                     · have := HLN.out; rw [List.length_take]; omega
                     · (first | (simp; done) | (simp; omega))
                     · omega
                     rintro v7 w7 ⟨ho7, hg7⟩
                     have HO7 := Lib.hid ho7
                     have HB7 : Hid (Below Z.heap.size Z w7) := Lib.hid (Below.grown (by (repeat (first | exact Below.refl _ _ | refine Below.drew ?_ | refine Below.alloc ?_ (by first | (simp; done) | (simp; omega)) _))) hg7 (by first | (simp; done) | (simp; omega)) (by intro q hq; injection hq with hq; subst hq; (first | (simp; done) | omega | (simp; omega))))
                     first
                     | (have HX1 := Lib.hid (one_grown (sl_drew' (slO_one (Z.alloc _) x (Z.heap.size + 1) (by simp))) hg7 (by simp)))
                     | (have HX1 := Lib.hid (one_grown (sl_drew' (sl_alloc' _ (slO_one Z x _ rfl))) hg7 (by simp)))
                     | skip
                     clear ho7 hg7
                     have hb1 := HB7.out)
                  | (refine hx_app (.tmp 57) (.tmp 62) 31 rfl (v := v7) (u := .slice (some ⟨_, 0, none⟩) 1 1) rfl rfl (app1m (base := Z.heap.size) (xs := L.take 0) (o := x) _ ?_ ?_ ?_ ?_) ?_
                     · first | exact HO7.out | exact own_alloc _ HO7.out
                     · first | exact slO_one w7 x _ rfl | exact HX1.out
                     · first | exact HB7.out.size | exact Nat.le_trans HB7.out.size (by simp)
                     · have := HLN.out; rw [List.length_take]; omega
                     rintro v8 w8 ⟨ho8, hg8⟩
                     have HO8 := Lib.hid ho8
                     have HB8 : Hid (Below Z.heap.size Z w8) := Lib.hid (by first | exact Below.grown HB7.out hg8 HB7.out.size (fun q hq => (Own.lt HO7.out q hq).1) | exact Below.grown (HB7.out.alloc HB7.out.size _) hg8 (Nat.le_trans HB7.out.size (by first | (simp; done) | (simp; omega))) (fun q hq => (Own.lt HO7.out q hq).1))
                     clear ho8 hg8
                     have hb1 := HB8.out)
                  | (refine hx_app (.tmp 63) (.tmp 66) 31 rfl (v := v8) (u := .slice none 0 0) rfl rfl (app2m (base := Z.heap.size) (xs := L.take 0 ++ [x]) (ys := L.drop 0) _ HO8.out ?_ ?_ HB8.out.size ?_ ?_) ?_
                     · exact SlR.mono (nil_drop HL0.out 0) HB8.out
                     · have := HLN.out; rw [List.length_drop]; omega
                     · have := HLN.out; (first | (simp; done) | (simp; omega))
                     · omega
                     rintro v9 w9 ⟨ho9, hg9⟩
                     have HO9 := Lib.hid ho9
                     have HB9 : Hid (Below Z.heap.size Z w9) := Lib.hid (Below.grown HB8.out hg9 HB8.out.size (fun q hq => (Own.lt HO8.out q hq).1))
                     clear ho9 hg9
                     have hb1 := HB9.out))
                first | (refine hK _ _ ?_ (fun hHeld => ?_)) | (go_wp2_with fail; refine hK _ _ ?_ (fun hHeld => ?_))
                · first | exact GrS.alloc (by assumption) _ | exact GrS.of hb1
                clear hK K
                (try simp only [Act.put, List.setIfInBounds_toArray, List.set_cons_zero, List.set_cons_succ])
                refine hx_take 15 (some 7) ?_ (by kernel_rfl) (by kernel_rfl) (by kernel_rfl) (by kernel_rfl) (by kernel_rfl) (fun _ _ _ h => h) (by assumption) (fun o ho w hSw => ?_) ?_
                rotate_left
                · replace ho := Option.some.inj ho
                  conv at ho => lhs; whnf
                  subst ho
                  (try dsimp only at hSw)
                  go_simp
                  (try rfl)
                (try simp only [Act.put, List.setIfInBounds_toArray, List.set_cons_zero, List.set_cons_succ])
                refine wpAnyH_done (by kernel_rfl) ?_ _
                rotate_right 1
                rotate_left 2
                replace ho := Option.some.inj ho
                conv at ho => lhs; whnf
                subst ho
                go_simp
                first | (refine hK _ _ ?_ (fun hHeld => ?_)) | (go_wp2_with fail; refine hK _ _ ?_ (fun hHeld => ?_))
                · first | exact GrS.alloc (by assumption) _ | exact GrS.of hb1
                clear hK K
                (try simp only [Act.put, List.setIfInBounds_toArray, List.set_cons_zero, List.set_cons_succ])
                refine hx_act 0 (some 53) (by kernel_rfl) (by kernel_rfl) (by kernel_rfl) (fun K hK o ho => ?_)
                replace ho := Option.some.inj ho
                conv at ho => lhs; whnf
                subst ho
                go_simp
                first | (refine hK _ _ ?_ (fun hHeld => ?_)) | (go_wp2_with fail; refine hK _ _ ?_ (fun hHeld => ?_))
                · first | exact GrS.alloc (by assumption) _ | exact GrS.of hb1
                clear hK K
                (try simp only [Act.put, List.setIfInBounds_toArray, List.set_cons_zero, List.set_cons_succ])
                refine hx_act 4 (some 57) (by kernel_rfl) (by kernel_rfl) (by kernel_rfl) (fun K hK o ho => ?_)
                replace ho := Option.some.inj ho
                conv at ho => lhs; whnf
                subst ho
                (first
                  | (refine hx_app (.tmp 53) (.tmp 56) 31 rfl (v := .slice (some ⟨_, 0, none⟩) 0 0) (u := .slice none 0 0) rfl rfl (app0 (base := Z.heap.size) (ys := L.take 0) _ ?_ ?_ ?_ ?_ ?_) ?_
                     · (first | exact own_drew (Own.empty encO 6 23 Z _ (Nat.le_refl _)) | exact own_drew (own_alloc _ (Own.empty encO 6 23 Z _ (Nat.le_refl _))) | exact own_drew (Own.emptyAt encO 6 23 (Z.alloc _) _ (Z.heap.size + 1) (by simp) (by simp)))
                     · (repeat (first | with_reducible exact (nil_take HL0.out 0) | with_reducible refine sl_drew' ?_ | with_reducible refine sl_alloc' _ ?_))
                     · have := HLN.out; rw [List.length_take]; omega
                     · (first | (simp; done) | (simp; omega))
                     · omega
                     rintro v7 w7 ⟨ho7, hg7⟩
                     have HO7 := Lib.hid ho7
                     have HB7 : Hid (Below Z.heap.size Z w7) := Lib.hid (Below.grown (by (repeat (first | exact Below.refl _ _ | refine Below.drew ?_ | refine Below.alloc ?_ (by first | (simp; done) | (simp; omega)) _))) hg7 (by first | (simp; done) | (simp; omega)) (by intro q hq; injection hq with hq; subst hq; (first | (simp; done) | omega | (simp; omega))))
                     first
                     | (have HX1 := Lib.hid (one_grown (sl_drew' (slO_one (Z.alloc _) x (Z.heap.size + 1) (by simp))) hg7 (by simp)))
                     | (have HX1 := Lib.hid (one_grown (sl_drew' (sl_alloc' _ (slO_one Z x _ rfl))) hg7 (by simp)))
                     | skip
                     clear ho7 hg7
                     have hb1 := HB7.out)
                  | (refine hx_app (.tmp 57) (.tmp 62) 31 rfl (v := v7) (u := .slice (some ⟨_, 0, none⟩) 1 1) rfl rfl (app1m (base := Z.heap.size) (xs := L.take 0) (o := x) _ ?_ ?_ ?_ ?_) ?_
                     · first | exact HO7.out | exact own_alloc _ HO7.out
                     · first | exact slO_one w7 x _ rfl | exact HX1.out
                     · first | exact HB7.out.size | exact Nat.le_trans HB7.out.size (by simp)
                     · have := HLN.out; rw [List.length_take]; omega
                     rintro v8 w8 ⟨ho8, hg8⟩
                     have HO8 := Lib.hid ho8
                     have HB8 : Hid (Below Z.heap.size Z w8) := Lib.hid (by first | exact Below.grown HB7.out hg8 HB7.out.size (fun q hq => (Own.lt HO7.out q hq).1) | exact Below.grown (HB7.out.alloc HB7.out.size _) hg8 (Nat.le_trans HB7.out.size (by first | (simp; done) | (simp; omega))) (fun q hq => (Own.lt HO7.out q hq).1))
                     clear ho8 hg8
                     have hb1 := HB8.out)
                  | (refine hx_app (.tmp 63) (.tmp 66) 31 rfl (v := v8) (u := .slice none 0 0) rfl rfl (app2m (base := Z.heap.size) (xs := L.take 0 ++ [x]) (ys := L.drop 0) _ HO8.out ?_ ?_ HB8.out.size ?_ ?_) ?_
                     · exact SlR.mono (nil_drop HL0.out 0) HB8.out
                     · have := HLN.out; rw [List.length_drop]; omega
                     · have := HLN.out; (first | (simp; done) | (simp; omega))
                     · omega
                     rintro v9 w9 ⟨ho9, hg9⟩
                     have HO9 := Lib.hid ho9
                     have HB9 : Hid (Below Z.heap.size Z w9) := Lib.hid (Below.grown HB8.out hg9 HB8.out.size (fun q hq => (Own.lt HO8.out q hq).1))
                     clear ho9 hg9
                     have hb1 := HB9.out))
                first | (refine hK _ _ ?_ (fun hHeld => ?_)) | (go_wp2_with fail; refine hK _ _ ?_ (fun hHeld => ?_))
                · first | exact GrS.alloc (by assumption) _ | exact GrS.of hb1
                clear hK K
                (try simp only [Act.put, List.setIfInBounds_toArray, List.set_cons_zero, List.set_cons_succ])
                refine hx_act 10 (some 63) (by kernel_rfl) (by kernel_rfl) (by kernel_rfl) (fun K hK o ho => ?_)
                replace ho := Option.some.inj ho
                conv at ho => lhs; whnf
                subst ho
                (first
                  | (refine hx_app (.tmp 53) (.tmp 56) 31 rfl (v := .slice (some ⟨_, 0, none⟩) 0 0) (u := .slice none 0 0) rfl rfl (app0 (base := Z.heap.size) (ys := L.take 0) _ ?_ ?_ ?_ ?_ ?_) ?_
                     · (first | exact own_drew (Own.empty encO 6 23 Z _ (Nat.le_refl _)) | exact own_drew (own_alloc _ (Own.empty encO 6 23 Z _ (Nat.le_refl _))) | exact own_drew (Own.emptyAt encO 6 23 (Z.alloc _) _ (Z.heap.size + 1) (by simp) (by simp)))
                     · (repeat (first | with_reducible exact (nil_take HL0.out 0) | with_reducible refine sl_drew' ?_ | with_reducible refine sl_alloc' _ ?_))
                     · have := HLN.out; rw [List.length_take]; omega
                     · (first | (simp; done) | (simp; omega))
                     · omega
                     rintro v7 w7 ⟨ho7, hg7⟩
                     have HO7 := Lib.hid ho7
                     have HB7 : Hid (Below Z.heap.size Z w7) := Lib.hid (Below.grown (by (repeat (first | exact Below.refl _ _ | refine Below.drew ?_ | refine Below.alloc ?_ (by first | (simp; done) | (simp; omega)) _))) hg7 (by first | (simp; done) | (simp; omega)) (by intro q hq; injection hq with hq; subst hq; (first | (simp; done) | omega | (simp; omega))))
                     first
                     | (have HX1 := Lib.hid (one_grown (sl_drew' (slO_one (Z.alloc _) x (Z.heap.size + 1) (by simp))) hg7 (by simp)))
                     | (have HX1 := Lib.hid (one_grown (sl_drew' (sl_alloc' _ (slO_one Z x _ rfl))) hg7 (by simp)))
                     | skip
                     clear ho7 hg7
                     have hb1 := HB7.out)
                  | (refine hx_app (.tmp 57) (.tmp 62) 31 rfl (v := v7) (u := .slice (some ⟨_, 0, none⟩) 1 1) rfl rfl (app1m (base := Z.heap.size) (xs := L.take 0) (o := x) _ ?_ ?_ ?_ ?_) ?_
                     · first | exact HO7.out | exact own_alloc _ HO7.out
                     · first | exact slO_one w7 x _ rfl | exact HX1.out
                     · first | exact HB7.out.size | exact Nat.le_trans HB7.out.size (by simp)
                     · have := HLN.out; rw [List.length_take]; omega
                     rintro v8 w8 ⟨ho8, hg8⟩
                     have HO8 := Lib.hid ho8
                     have HB8 : Hid (Below Z.heap.size Z w8) := Lib.hid (by first | exact Below.grown HB7.out hg8 HB7.out.size (fun q hq => (Own.lt HO7.out q hq).1) | exact Below.grown (HB7.out.alloc HB7.out.size _) hg8 (Nat.le_trans HB7.out.size (by first | (simp; done) | (simp; omega))) (fun q hq => (Own.lt HO7.out q hq).1))
                     clear ho8 hg8
                     have hb1 := HB8.out)
                  | (refine hx_app (.tmp 63) (.tmp 66) 31 rfl (v := v8) (u := .slice none 0 0) rfl rfl (app2m (base := Z.heap.size) (xs := L.take 0 ++ [x]) (ys := L.drop 0) _ HO8.out ?_ ?_ HB8.out.size ?_ ?_) ?_
                     · exact SlR.mono (nil_drop HL0.out 0) HB8.out
                     · have := HLN.out; rw [List.length_drop]; omega
                     · have := HLN.out; (first | (simp; done) | (simp; omega))
                     · omega
                     rintro v9 w9 ⟨ho9, hg9⟩
                     have HO9 := Lib.hid ho9
                     have HB9 : Hid (Below Z.heap.size Z w9) := Lib.hid (Below.grown HB8.out hg9 HB8.out.size (fun q hq => (Own.lt HO8.out q hq).1))
                     clear ho9 hg9
                     have hb1 := HB9.out))
                first | (refine hK _ _ ?_ (fun hHeld => ?_)) | (go_wp2_with fail; refine hK _ _ ?_ (fun hHeld => ?_))
                · first | exact GrS.alloc (by assumption) _ | exact GrS.of hb1
                clear hK K
                (try simp only [Act.put, List.setIfInBounds_toArray, List.set_cons_zero, List.set_cons_succ])
                refine hx_act 14 (some 67) (by kernel_rfl) (by kernel_rfl) (by kernel_rfl) (fun K hK o ho => ?_)
                replace ho := Option.some.inj ho
                conv at ho => lhs; whnf
                subst ho
                (first
                  | (refine hx_app (.tmp 53) (.tmp 56) 31 rfl (v := .slice (some ⟨_, 0, none⟩) 0 0) (u := .slice none 0 0) rfl rfl (app0 (base := Z.heap.size) (ys := L.take 0) _ ?_ ?_ ?_ ?_ ?_) ?_
                     · (first | exact own_drew (Own.empty encO 6 23 Z _ (Nat.le_refl _)) | exact own_drew (own_alloc _ (Own.empty encO 6 23 Z _ (Nat.le_refl _))) | exact own_drew (Own.emptyAt encO 6 23 (Z.alloc _) _ (Z.heap.size + 1) (by simp) (by simp)))
                     · (repeat (first | with_reducible exact (nil_take HL0.out 0) | with_reducible refine sl_drew' ?_ | with_reducible refine sl_alloc' _ ?_))
                     · have := HLN.out; rw [List.length_take]; omega
                     · (first | (simp; done) | (simp; omega))
                     · omega
                     rintro v7 w7 ⟨ho7, hg7⟩
                     have HO7 := Lib.hid ho7
                     have HB7 : Hid (Below Z.heap.size Z w7) := Lib.hid (Below.grown (by (repeat (first | exact Below.refl _ _ | refine Below.drew ?_ | refine Below.alloc ?_ (by first | (simp; done) | (simp; omega)) _))) hg7 (by first | (simp; done) | (simp; omega)) (by intro q hq; injection hq with hq; subst hq; (first | (simp; done) | omega | (simp; omega))))
                     first
                     | (have HX1 := Lib.hid (one_grown (sl_drew' (slO_one (Z.alloc _) x (Z.heap.size + 1) (by simp))) hg7 (by simp)))
                     | (have HX1 := Lib.hid (one_grown (sl_drew' (sl_alloc' _ (slO_one Z x _ rfl))) hg7 (by simp)))
                     | skip
                     clear ho7 hg7
                     have hb1 := HB7.out)
                  | (refine hx_app (.tmp 57) (.tmp 62) 31 rfl (v := v7) (u := .slice (some ⟨_, 0, none⟩) 1 1) rfl rfl (app1m (base := Z.heap.size) (xs := L.take 0) (o := x) _ ?_ ?_ ?_ ?_) ?_
                     · first | exact HO7.out | exact own_alloc _ HO7.out
                     · first | exact slO_one w7 x _ rfl | exact HX1.out
                     · first | exact HB7.out.size | exact Nat.le_trans HB7.out.size (by simp)
                     · have := HLN.out; rw [List.length_take]; omega
                     rintro v8 w8 ⟨ho8, hg8⟩
                     have HO8 := Lib.hid ho8
                     have HB8 : Hid (Below Z.heap.size Z w8) := Lib.hid (by first | exact Below.grown HB7.out hg8 HB7.out.size (fun q hq => (Own.lt HO7.out q hq).1) | exact Below.grown (HB7.out.alloc HB7.out.size _) hg8 (Nat.le_trans HB7.out.size (by first | (simp; done) | (simp; omega))) (fun q hq => (Own.lt HO7.out q hq).1))
                     clear ho8 hg8
                     have hb1 := HB8.out)
                  | (refine hx_app (.tmp 63) (.tmp 66) 31 rfl (v := v8) (u := .slice none 0 0) rfl rfl (app2m (base := Z.heap.size) (xs := L.take 0 ++ [x]) (ys := L.drop 0) _ HO8.out ?_ ?_ HB8.out.size ?_ ?_) ?_
                     · exact SlR.mono (nil_drop HL0.out 0) HB8.out
                     · have := HLN.out; rw [List.length_drop]; omega
                     · have := HLN.out; (first | (simp; done) | (simp; omega))
                     · omega
                     rintro v9 w9 ⟨ho9, hg9⟩
                     have HO9 := Lib.hid ho9
                     have HB9 : Hid (Below Z.heap.size Z w9) := Lib.hid (Below.grown HB8.out hg9 HB8.out.size (fun q hq => (Own.lt HO8.out q hq).1))
                     clear ho9 hg9
                     have hb1 := HB9.out))
                first | (refine hK _ _ ?_ (fun hHeld => ?_)) | (go_wp2_with fail; refine hK _ _ ?_ (fun hHeld => ?_))
                · first | exact GrS.alloc (by assumption) _ | exact GrS.of hb1
                clear hK K
                (try simp only [Act.put, List.setIfInBounds_toArray, List.set_cons_zero, List.set_cons_succ])
                refine hx_take 15 (some 7) ?_ (by kernel_rfl) (by kernel_rfl) (by kernel_rfl) (by kernel_rfl) (by kernel_rfl) (fun _ _ _ h => h) (by assumption) (fun o ho w hSw => ?_) ?_
                rotate_left
                · replace ho := Option.some.inj ho
                  conv at ho => lhs; whnf
                  subst ho
                  (try dsimp only at hSw)
                  go_simp
                  (try rfl)
                (try simp only [Act.put, List.setIfInBounds_toArray, List.set_cons_zero, List.set_cons_succ])
                refine wpAnyH_done (by kernel_rfl) ?_ _
                rotate_right 2
                all_goals
                  go_wp2
                  go_roundw
                  case rel => exact ⟨⟨k + 1, by omega, by go_num, L.take 0 ++ x :: L.drop 0, Lib.hid ⟨by have := Own.weaken HO9.out (HBZ.out.size); rwa [List.append_assoc] at this, by rw [HST.out, HO.out]; exact put_perm HL.out.2.1, HROW.out⟩⟩, Lib.hid (grow_trans HBZ.out HB9.out)⟩
                  case measure => simp [intOf]; omega
              · subst hao
                go_wp2_with fail
                refine wp_region_held_drew (S := fun w' => GrS Z w') (by kernel_rfl) ?_ (fun hHeld => ?_)
                · exact GrS.start (Below.refl _ _)
                refine hx_take 1 (some 54) ?_ (by kernel_rfl) (by kernel_rfl) (by kernel_rfl) (by kernel_rfl) (by kernel_rfl) (fun _ _ _ h => h) (by assumption) (fun o ho w hSw => ?_) ?_
                rotate_left
                · replace ho := Option.some.inj ho
                  conv at ho => lhs; whnf
                  subst ho
                  (try dsimp only at hSw)
                  go_simp
                  (try rfl)
                (try simp only [Act.put, List.setIfInBounds_toArray, List.set_cons_zero, List.set_cons_succ])
                refine hx_take 2 (some 55) ?_ (by kernel_rfl) (by kernel_rfl) (by kernel_rfl) (by kernel_rfl) (by kernel_rfl) (fun _ _ _ h => h) (by assumption) (fun o ho w hSw => ?_) ?_
                rotate_left
                · replace ho := Option.some.inj ho
                  conv at ho => lhs; whnf
                  subst ho
                  (try dsimp only at hSw)
                  go_simp
                  (try rfl)
                (try simp only [Act.put, List.setIfInBounds_toArray, List.set_cons_zero, List.set_cons_succ])
                refine hx_take 3 (some 56) ?_ (by kernel_rfl) (by kernel_rfl) (by kernel_rfl) (by kernel_rfl) (by kernel_rfl) (fun _ _ _ h => h) (by assumption) (fun o ho w hSw => ?_) ?_
                rotate_left
                · replace ho := Option.some.inj ho
                  conv at ho => lhs; whnf
                  subst ho
                  (try dsimp only at hSw)
                  go_simp
                  (try rfl)
                (try simp only [Act.put, List.setIfInBounds_toArray, List.set_cons_zero, List.set_cons_succ])
                refine hx_take 5 (some 58) ?_ (by kernel_rfl) (by kernel_rfl) (by kernel_rfl) (by kernel_rfl) (by kernel_rfl) (fun _ _ _ h => h) (by assumption) (fun o ho w hSw => ?_) ?_
                rotate_left
                · replace ho := Option.some.inj ho
                  conv at ho => lhs; whnf
                  subst ho
                  (try dsimp only at hSw)
                  go_simp
                  (try rfl)
                (try simp only [Act.put, List.setIfInBounds_toArray, List.set_cons_zero, List.set_cons_succ])
                refine hx_take 6 (some 59) ?_ (by kernel_rfl) (by kernel_rfl) (by kernel_rfl) (by kernel_rfl) (by kernel_rfl) (fun _ _ _ h => h) (by assumption) (fun o ho w hSw => ?_) ?_
                rotate_left
                · replace ho := Option.some.inj ho
                  conv at ho => lhs; whnf
                  subst ho
                  (try dsimp only at hSw)
                  go_simp
                  (try rfl)
                (try simp only [Act.put, List.setIfInBounds_toArray, List.set_cons_zero, List.set_cons_succ])
                refine hx_take 7 (some 60) ?_ (by kernel_rfl) (by kernel_rfl) (by kernel_rfl) (by kernel_rfl) (by kernel_rfl) (fun _ _ _ h => h) (by assumption) (fun o ho w hSw => ?_) ?_
                rotate_left
                · replace ho := Option.some.inj ho
                  conv at ho => lhs; whnf
                  subst ho
                  (try dsimp only at hSw)
                  go_simp
                  (try rfl)
                (try simp only [Act.put, List.setIfInBounds_toArray, List.set_cons_zero, List.set_cons_succ])
                refine hx_take 8 (some 61) ?_ (by kernel_rfl) (by kernel_rfl) (by kernel_rfl) (by kernel_rfl) (by kernel_rfl) (fun _ _ _ h => h) (by assumption) (fun o ho w hSw => ?_) ?_
                rotate_left
                · replace ho := Option.some.inj ho
                  conv at ho => lhs; whnf
                  subst ho
                  (try dsimp only at hSw)
                  go_simp
                  (try rfl)
                (try simp only [Act.put, List.setIfInBounds_toArray, List.set_cons_zero, List.set_cons_succ])
                refine hx_take 11 (some 64) ?_ (by kernel_rfl) (by kernel_rfl) (by kernel_rfl) (by kernel_rfl) (by kernel_rfl) (fun _ _ _ h => h) (by assumption) (fun o ho w hSw => ?_) ?_
                rotate_left
                · replace ho := Option.some.inj ho
                  conv at ho => lhs; whnf
                  subst ho
                  (try dsimp only at hSw)
                  go_simp
                  (try rfl)
                (try simp only [Act.put, List.setIfInBounds_toArray, List.set_cons_zero, List.set_cons_succ])
                refine hx_take 12 (some 65) ?_ (by kernel_rfl) (by kernel_rfl) (by kernel_rfl) (by kernel_rfl) (by kernel_rfl) (fun _ _ _ h => h) (by assumption) (fun o ho w hSw => ?_) ?_
                rotate_left
                · replace ho := Option.some.inj ho
                  conv at ho => lhs; whnf
                  subst ho
                  (try dsimp only at hSw)
                  go_simp
                  (try rfl)
                (try simp only [Act.put, List.setIfInBounds_toArray, List.set_cons_zero, List.set_cons_succ])
                refine hx_take 13 (some 66) ?_ (by kernel_rfl) (by kernel_rfl) (by kernel_rfl) (by kernel_rfl) (by kernel_rfl) (fun _ _ _ h => h) (by assumption) (fun o ho w hSw => ?_) ?_
                rotate_left
                · replace ho := Option.some.inj ho
                  conv at ho => lhs; whnf
                  subst ho
                  (try dsimp only at hSw)
                  go_simp
                  (try rfl)
                (try simp only [Act.put, List.setIfInBounds_toArray, List.set_cons_zero, List.set_cons_succ])
                refine hx_act2 0 9 (some 53) (some 62) (by kernel_rfl) (by kernel_rfl) (by kernel_rfl) (by kernel_rfl) (by kernel_rfl) (fun K hK o ho => ?_) (fun K hK o ho => ?_)
                replace ho := Option.some.inj ho
                conv at ho => lhs; whnf
                subst ho
                go_simp
                first | (refine hK _ _ ?_ (fun hHeld => ?_)) | (go_wp2_with fail; refine hK _ _ ?_ (fun hHeld => ?_))
                · first | exact GrS.alloc (by assumption) _ | exact GrS.of hb1
                clear hK K
                (try simp only [Act.put, List.setIfInBounds_toArray, List.set_cons_zero, List.set_cons_succ])
                refine hx_act2 4 9 (some 57) (some 62) (by kernel_rfl) (by kernel_rfl) (by kernel_rfl) (by kernel_rfl) (by kernel_rfl) (fun K hK o ho => ?_) (fun K hK o ho => ?_)
                replace ho := Option.some.inj ho
                conv at ho => lhs; whnf
                subst ho
                (first
                  | (refine hx_app (.tmp 53) (.tmp 56) 31 rfl (v := .slice (some ⟨_, 0, none⟩) 0 0) (u := .slice (some ⟨_, 0, none⟩) 0 co) rfl rfl (app0 (base := Z.heap.size) (ys := L.take 0) _ ?_ ?_ ?_ ?_ ?_) ?_
                     · (first | exact own_drew (Own.empty encO 6 23 Z _ (Nat.le_refl _)) | exact own_drew (own_alloc _ (Own.empty encO 6 23 Z _ (Nat.le_refl _))) | exact own_drew (Own.emptyAt encO 6 23 (Z.alloc _) _ (Z.heap.size + 1) (by simp) (by simp)))
                     · (repeat (first | with_reducible exact (cut_lo HSZ.out HLN.out (Nat.zero_le _)) | with_reducible refine sl_drew' ?_ | with_reducible refine sl_alloc' _ ?_))
                     · have := HLN.out; rw [List.length_take]; omega
                     · (first | (simp; done) | (simp; omega))
                     · omega
                     rintro v7 w7 ⟨ho7, hg7⟩
                     have HO7 := Lib.hid ho7
                     have HB7 : Hid (Below Z.heap.size Z w7) := Lib.hid (Below.grown (by (repeat (first | exact Below.refl _ _ | refine Below.drew ?_ | refine Below.alloc ?_ (by first | (simp; done) | (simp; omega)) _))) hg7 (by first | (simp; done) | (simp; omega)) (by intro q hq; injection hq with hq; subst hq; (first | (simp; done) | omega | (simp; omega))))
                     first
                     | (have HX1 := Lib.hid (one_grown (sl_drew' (slO_one (Z.alloc _) x (Z.heap.size + 1) (by simp))) hg7 (by simp)))
                     | (have HX1 := Lib.hid (one_grown (sl_drew' (sl_alloc' _ (slO_one Z x _ rfl))) hg7 (by simp)))
                     | skip
                     clear ho7 hg7
                     have hb1 := HB7.out)
                  | (refine hx_app (.tmp 57) (.tmp 62) 31 rfl (v := v7) (u := .slice (some ⟨_, 0, none⟩) 1 1) rfl rfl (app1m (base := Z.heap.size) (xs := L.take 0) (o := x) _ ?_ ?_ ?_ ?_) ?_
                     · first | exact HO7.out | exact own_alloc _ HO7.out
                     · first | exact slO_one w7 x _ rfl | exact HX1.out
                     · first | exact HB7.out.size | exact Nat.le_trans HB7.out.size (by simp)
                     · have := HLN.out; rw [List.length_take]; omega
                     rintro v8 w8 ⟨ho8, hg8⟩
                     have HO8 := Lib.hid ho8
                     have HB8 : Hid (Below Z.heap.size Z w8) := Lib.hid (by first | exact Below.grown HB7.out hg8 HB7.out.size (fun q hq => (Own.lt HO7.out q hq).1) | exact Below.grown (HB7.out.alloc HB7.out.size _) hg8 (Nat.le_trans HB7.out.size (by first | (simp; done) | (simp; omega))) (fun q hq => (Own.lt HO7.out q hq).1))
                     clear ho8 hg8
                     have hb1 := HB8.out)
                  | (refine hx_app (.tmp 63) (.tmp 66) 31 rfl (v := v8) (u := .slice (some ⟨_, 0, none⟩) ln co) rfl rfl (app2m (base := Z.heap.size) (xs := L.take 0 ++ [x]) (ys := L.drop 0) _ HO8.out ?_ ?_ HB8.out.size ?_ ?_) ?_
                     · exact SlR.mono (cut_hi0 HSZ.out) HB8.out
                     · have := HLN.out; rw [List.length_drop]; omega
                     · have := HLN.out; (first | (simp; done) | (simp; omega))
                     · omega
                     rintro v9 w9 ⟨ho9, hg9⟩
                     have HO9 := Lib.hid ho9
                     have HB9 : Hid (Below Z.heap.size Z w9) := Lib.hid (Below.grown HB8.out hg9 HB8.out.size (fun q hq => (Own.lt HO8.out q hq).1))
                     clear ho9 hg9
                     have hb1 := HB9.out))
                first | (refine hK _ _ ?_ (fun hHeld => ?_)) | (go_wp2_with fail; refine hK _ _ ?_ (fun hHeld => ?_))
                · first | exact GrS.alloc (by assumption) _ | exact GrS.of hb1
                clear hK K
                (try simp only [Act.put, List.setIfInBounds_toArray, List.set_cons_zero, List.set_cons_succ])
                refine hx_act 9 (some 62) (by kernel_rfl) (by kernel_rfl) (by kernel_rfl) (fun K hK o ho => ?_)
                replace ho := Option.some.inj ho
                conv at ho => lhs; whnf
                subst ho
                go_simp
                first | (refine hK _ _ ?_ (fun hHeld => ?_)) | (go_wp2_with fail; refine hK _ _ ?_ (fun hHeld => ?_))
                · first | exact GrS.alloc (by assumption) _ | exact GrS.of hb1
                clear hK K
                (try simp only [Act.put, List.setIfInBounds_toArray, List.set_cons_zero, List.set_cons_succ])
                refine hx_act 10 (some 63) (by kernel_rfl) (by kernel_rfl) (by kernel_rfl) (fun K hK o ho => ?_)
                replace ho := Option.some.inj ho
                conv at ho => lhs; whnf
                subst ho
                (first
                  | (refine hx_app (.tmp 53) (.tmp 56) 31 rfl (v := .slice (some ⟨_, 0, none⟩) 0 0) (u := .slice (some ⟨_, 0, none⟩) 0 co) rfl rfl (app0 (base := Z.heap.size) (ys := L.take 0) _ ?_ ?_ ?_ ?_ ?_) ?_
                     · (first | exact own_drew (Own.empty encO 6 23 Z _ (Nat.le_refl _)) | exact own_drew (own_alloc _ (Own.empty encO 6 23 Z _ (Nat.le_refl _))) | exact own_drew (Own.emptyAt encO 6 23 (Z.alloc _) _ (Z.heap.size + 1) (by simp) (by simp)))
                     · (repeat (first | with_reducible exact (cut_lo HSZ.out HLN.out (Nat.zero_le _)) | with_reducible refine sl_drew' ?_ | with_reducible refine sl_alloc' _ ?_))
                     · have := HLN.out; rw [List.length_take]; omega
                     · (first | (simp; done) | (simp; omega))
                     · omega
                     rintro v7 w7 ⟨ho7, hg7⟩
                     have HO7 := Lib.hid ho7
                     have HB7 : Hid (Below Z.heap.size Z w7) := Lib.hid (Below.grown (by (repeat (first | exact Below.refl _ _ | refine Below.drew ?_ | refine Below.alloc ?_ (by first | (simp; done) | (simp; omega)) _))) hg7 (by first | (simp; done) | (simp; omega)) (by intro q hq; injection hq with hq; subst hq; (first | (simp; done) | omega | (simp; omega))))
                     first
                     | (have HX1 := Lib.hid (one_grown (sl_drew' (slO_one (Z.alloc _) x (Z.heap.size + 1) (by simp))) hg7 (by simp)))
                     | (have HX1 := Lib.hid (one_grown (sl_drew' (sl_alloc' _ (slO_one Z x _ rfl))) hg7 (by simp)))
                     | skip
                     clear ho7 hg7
                     have hb1 := HB7.out)
                  | (refine hx_app (.tmp 57) (.tmp 62) 31 rfl (v := v7) (u := .slice (some ⟨_, 0, none⟩) 1 1) rfl rfl (app1m (base := Z.heap.size) (xs := L.take 0) (o := x) _ ?_ ?_ ?_ ?_) ?_
                     · first | exact HO7.out | exact own_alloc _ HO7.out
                     · first | exact slO_one w7 x _ rfl | exact HX1.out
                     · first | exact HB7.out.size | exact Nat.le_trans HB7.out.size (by simp)
                     · have := HLN.out; rw [List.length_take]; omega
                     rintro v8 w8 ⟨ho8, hg8⟩
                     have HO8 := Lib.hid ho8
                     have HB8 : Hid (Below Z.heap.size Z w8) := Lib.hid (by first | exact Below.grown HB7.out hg8 HB7.out.size (fun q hq => (Own.lt HO7.out q hq).1) | exact Below.grown (HB7.out.alloc HB7.out.size _) hg8 (Nat.le_trans HB7.out.size (by first | (simp; done) | (simp; omega))) (fun q hq => (Own.lt HO7.out q hq).1))
                     clear ho8 hg8
                     have hb1 := HB8.out)
                  | (refine hx_app (.tmp 63) (.tmp 66) 31 rfl (v := v8) (u := .slice (some ⟨_, 0, none⟩) ln co) rfl rfl (app2m (base := Z.heap.size) (xs := L.take 0 ++ [x]) (ys := L.drop 0) _ HO8.out ?_ ?_ HB8.out.size ?_ ?_) ?_
                     · exact SlR.mono (cut_hi0 HSZ.out) HB8.out
                     · have := HLN.out; rw [List.length_drop]; omega
                     · have := HLN.out; (first | (simp; done) | (simp; omega))
                     · omega
                     rintro v9 w9 ⟨ho9, hg9⟩
                     have HO9 := Lib.hid ho9
                     have HB9 : Hid (Below Z.heap.size Z w9) := Lib.hid (Below.grown HB8.out hg9 HB8.out.size (fun q hq => (Own.lt HO8.out q hq).1))
                     clear ho9 hg9
                     have hb1 := HB9.out))
                first | (refine hK _ _ ?_ (fun hHeld => ?_)) | (go_wp2_with fail; refine hK _ _ ?_ (fun hHeld => ?_))
                · first | exact GrS.alloc (by assumption) _ | exact GrS.of hb1
                clear hK K
                (try simp only [Act.put, List.setIfInBounds_toArray, List.set_cons_zero, List.set_cons_succ])
                refine hx_act 14 (some 67) (by kernel_rfl) (by kernel_rfl) (by kernel_rfl) (fun K hK o ho => ?_)
                replace ho := Option.some.inj ho
                conv at ho => lhs; whnf
                subst ho
                (first
                  | (refine hx_app (.tmp 53) (.tmp 56) 31 rfl (v := .slice (some ⟨_, 0, none⟩) 0 0) (u := .slice (some ⟨_, 0, none⟩) 0 co) rfl rfl (app0 (base := Z.heap.size) (ys := L.take 0) _ ?_ ?_ ?_ ?_ ?_) ?_
                     · (first | exact own_drew (Own.empty encO 6 23 Z _ (Nat.le_refl _)) | exact own_drew (own_alloc _ (Own.empty encO 6 23 Z _ (Nat.le_refl _))) | exact own_drew (Own.emptyAt encO 6 23 (Z.alloc _) _ (Z.heap.size + 1) (by simp) (by simp)))
                     · (repeat (first | with_reducible exact (cut_lo HSZ.out HLN.out (Nat.zero_le _)) | with_reducible refine sl_drew' ?_ | with_reducible refine sl_alloc' _ ?_))
                     · have := HLN.out; rw [List.length_take]; omega
                     · (first | (simp; done) | (simp; omega))
                     · omega
                     rintro v7 w7 ⟨ho7, hg7⟩
                     have HO7 := Lib.hid ho7
                     have HB7 : Hid (Below Z.heap.size Z w7) := Lib.hid (Below.grown (by (repeat (first | exact Below.refl _ _ | refine Below.drew ?_ | refine Below.alloc ?_ (by first | (simp; done) | (simp; omega)) _))) hg7 (by first | (simp; done) | (simp; omega)) (by intro q hq; injection hq with hq; subst hq; (first | (simp; done) | omega | (simp; omega))))
                     first
                     | (have HX1 := Lib.hid (one_grown (sl_drew' (slO_one (Z.alloc _) x (Z.heap.size + 1) (by simp))) hg7 (by simp)))
                     | (have HX1 := Lib.hid (one_grown (sl_drew' (sl_alloc' _ (slO_one Z x _ rfl))) hg7 (by simp)))
                     | skip
                     clear ho7 hg7
                     have hb1 := HB7.out)
                  | (refine hx_app (.tmp 57) (.tmp 62) 31 rfl (v := v7) (u := .slice (some ⟨_, 0, none⟩) 1 1) rfl rfl (app1m (base := Z.heap.size) (xs := L.take 0) (o := x) _ ?_ ?_ ?_ ?_) ?_
                     · first | exact HO7.out | exact own_alloc _ HO7.out
                     · first | exact slO_one w7 x _ rfl | exact HX1.out
                     · first | exact HB7.out.size | exact Nat.le_trans HB7.out.size (by simp)
                     · have := HLN.out; rw [List.length_take]; omega
                     rintro v8 w8 ⟨ho8, hg8⟩
                     have HO8 := Lib.hid ho8
                     have HB8 : Hid (Below Z.heap.size Z w8) := Lib.hid (by first | exact Below.grown HB7.out hg8 HB7.out.size (fun q hq => (Own.lt HO7.out q hq).1) | exact Below.grown (HB7.out.alloc HB7.out.size _) hg8 (Nat.le_trans HB7.out.size (by first | (simp; done) | (simp; omega))) (fun q hq => (Own.lt HO7.out q hq).1))
                     clear ho8 hg8
                     have hb1 := HB8.out)
                  | (refine hx_app (.tmp 63) (.tmp 66) 31 rfl (v := v8) (u := .slice (some ⟨_, 0, none⟩) ln co) rfl rfl (app2m (base := Z.heap.size) (xs := L.take 0 ++ [x]) (ys := L.drop 0) _ HO8.out ?_ ?_ HB8.out.size ?_ ?_) ?_
                     · exact SlR.mono (cut_hi0 HSZ.out) HB8.out
                     · have := HLN.out; rw [List.length_drop]; omega
                     · have := HLN.out; (first | (simp; done) | (simp; omega))
                     · omega
                     rintro v9 w9 ⟨ho9, hg9⟩
                     have HO9 := Lib.hid ho9
                     have HB9 : Hid (Below Z.heap.size Z w9) := Lib.hid (Below.grown HB8.out hg9 HB8.out.size (fun q hq => (Own.lt HO8.out q hq).1))
                     clear ho9 hg9
                     have hb1 := HB9.out))
                first | (refine hK _ _ ?_ (fun hHeld => ?_)) | (go_wp2_with fail; refine hK _ _ ?_ (fun hHeld => ?_))
                · first | exact GrS.alloc (by assumption) _ | exact GrS.of hb1
                clear hK K
                (try simp only [Act.put, List.setIfInBounds_toArray, List.set_cons_zero, List.set_cons_succ])
                refine hx_take 15 (some 7) ?_ (by kernel_rfl) (by kernel_rfl) (by kernel_rfl) (by kernel_rfl) (by kernel_rfl) (fun _ _ _ h => h) (by assumption) (fun o ho w hSw => ?_) ?_
                rotate_left
                · replace ho := Option.some.inj ho
                  conv at ho => lhs; whnf
                  subst ho
                  (try dsimp only at hSw)
                  go_simp
                  (try rfl)
                (try simp only [Act.put, List.setIfInBounds_toArray, List.set_cons_zero, List.set_cons_succ])
                refine wpAnyH_done (by kernel_rfl) ?_ _
                rotate_left 1
                replace ho := Option.some.inj ho
                conv at ho => lhs; whnf
                subst ho
                go_simp
                first | (refine hK _ _ ?_ (fun hHeld => ?_)) | (go_wp2_with fail; refine hK _ _ ?_ (fun hHeld => ?_))
                · first | exact GrS.alloc (by assumption) _ | exact GrS.of hb1
                clear hK K
                (try simp only [Act.put, List.setIfInBounds_toArray, List.set_cons_zero, List.set_cons_succ])
                refine hx_act 4 (some 57) (by kernel_rfl) (by kernel_rfl) (by kernel_rfl) (fun K hK o ho => ?_)
                replace ho := Option.some.inj ho
                conv at ho => lhs; whnf
                subst ho
                (first
                  | (refine hx_app (.tmp 53) (.tmp 56) 31 rfl (v := .slice (some ⟨_, 0, none⟩) 0 0) (u := .slice (some ⟨_, 0, none⟩) 0 co) rfl rfl (app0 (base := Z.heap.size) (ys := L.take 0) _ ?_ ?_ ?_ ?_ ?_) ?_
                     · (first | exact own_drew (Own.empty encO 6 23 Z _ (Nat.le_refl _)) | exact own_drew (own_alloc _ (Own.empty encO 6 23 Z _ (Nat.le_refl _))) | exact own_drew (Own.emptyAt encO 6 23 (Z.alloc _) _ (Z.heap.size + 1) (by simp) (by simp)))
                     · (repeat (first | with_reducible exact (cut_lo HSZ.out HLN.out (Nat.zero_le _)) | with_reducible refine sl_drew' ?_ | with_reducible refine sl_alloc' _ ?_))
                     · have := HLN.out; rw [List.length_take]; omega
                     · (first | (simp; done) | (simp; omega))
                     · omega
                     rintro v7 w7 ⟨ho7, hg7⟩
                     have HO7 := Lib.hid ho7
                     have HB7 : Hid (Below Z.heap.size Z w7) := Lib.hid (Below.grown (by (repeat (first | exact Below.refl _ _ | refine Below.drew ?_ | refine Below.alloc ?_ (by first | (simp; done) | (simp; omega)) _))) hg7 (by first | (simp; done) | (simp; omega)) (by intro q hq; injection hq with hq; subst hq; (first | (simp; done) | omega | (simp; omega))))
                     first
                     | (have HX1 := Lib.hid (one_grown (sl_drew' (slO_one (Z.alloc _) x (Z.heap.size + 1) (by simp))) hg7 (by simp)))
                     | (have HX1 := Lib.hid (one_grown (sl_drew' (sl_alloc' _ (slO_one Z x _ rfl))) hg7 (by simp)))
                     | skip
                     clear ho7 hg7
                     have hb1 := HB7.out)
                  | (refine hx_app (.tmp 57) (.tmp 62) 31 rfl (v := v7) (u := .slice (some ⟨_, 0, none⟩) 1 1) rfl rfl (app1m (base := Z.heap.size) (xs := L.take 0) (o := x) _ ?_ ?_ ?_ ?_) ?_
                     · first | exact HO7.out | exact own_alloc _ HO7.out
                     · first | exact slO_one w7 x _ rfl | exact HX1.out
                     · first | exact HB7.out.size | exact Nat.le_trans HB7.out.size (by simp)
                     · have := HLN.out; rw [List.length_take]; omega
                     rintro v8 w8 ⟨ho8, hg8⟩
                     have HO8 := Lib.hid ho8
                     have HB8 : Hid (Below Z.heap.size Z w8) := Lib.hid (by first | exact Below.grown HB7.out hg8 HB7.out.size (fun q hq => (Own.lt HO7.out q hq).1) | exact Below.grown (HB7.out.alloc HB7.out.size _) hg8 (Nat.le_trans HB7.out.size (by first | (simp; done) | (simp; omega))) (fun q hq => (Own.lt HO7.out q hq).1))
                     clear ho8 hg8
                     have hb1 := HB8.out)
                  | (refine hx_app (.tmp 63) (.tmp 66) 31 rfl (v := v8) (u := .slice (some ⟨_, 0, none⟩) ln co) rfl rfl (app2m (base := Z.heap.size) (xs := L.take 0 ++ [x]) (ys := L.drop 0) _ HO8.out ?_ ?_ HB8.out.size ?_ ?_) ?_
                     · exact SlR.mono (cut_hi0 HSZ.out) HB8.out
                     · have := HLN.out; rw [List.length_drop]; omega
                     · have := HLN.out; (first | (simp; done) | (simp; omega))
                     · omega
                     rintro v9 w9 ⟨ho9, hg9⟩
                     have HO9 := Lib.hid ho9
                     have HB9 : Hid (Below Z.heap.size Z w9) := Lib.hid (Below.grown HB8.out hg9 HB8.out.size (fun q hq => (Own.lt HO8.out q hq).1))
                     clear ho9 hg9
                     have hb1 := HB9.out))
                first | (refine hK _ _ ?_ (fun hHeld => ?_)) | (go_wp2_with fail; refine hK _ _ ?_ (fun hHeld => ?_))
                · first | exact GrS.alloc (by assumption) _ | exact GrS.of hb1
                clear hK K
                (try simp only [Act.put, List.setIfInBounds_toArray, List.set_cons_zero, List.set_cons_succ])
                refine hx_act 10 (some 63) (by kernel_rfl) (by kernel_rfl) (by kernel_rfl) (fun K hK o ho => ?_)
                replace ho := Option.some.inj ho
                conv at ho => lhs; whnf
                subst ho
                (first
                  | (refine hx_app (.tmp 53) (.tmp 56) 31 rfl (v := .slice (some ⟨_, 0, none⟩) 0 0) (u := .slice (some ⟨_, 0, none⟩) 0 co) rfl rfl (app0 (base := Z.heap.size) (ys := L.take 0) _ ?_ ?_ ?_ ?_ ?_) ?_
                     · (first | exact own_drew (Own.empty encO 6 23 Z _ (Nat.le_refl _)) | exact own_drew (own_alloc _ (Own.empty encO 6 23 Z _ (Nat.le_refl _))) | exact own_drew (Own.emptyAt encO 6 23 (Z.alloc _) _ (Z.heap.size + 1) (by simp) (by simp)))
                     · (repeat (first | with_reducible exact (cut_lo HSZ.out HLN.out (Nat.zero_le _)) | with_reducible refine sl_drew' ?_ | with_reducible refine sl_alloc' _ ?_))
                     · have := HLN.out; rw [List.length_take]; omega
                     · (first | (simp; done) | (simp; omega))
                     · omega
                     rintro v7 w7 ⟨ho7, hg7⟩
                     have HO7 := Lib.hid ho7
                     have HB7 : Hid (Below Z.heap.size Z w7) := Lib.hid (Below.grown (by (repeat (first | exact Below.refl _ _ | refine Below.drew ?_ | refine Below.alloc ?_ (by first | (simp; done) | (simp; omega)) _))) hg7 (by first | (simp; done) | (simp; omega)) (by intro q hq; injection hq with hq; subst hq; (first | (simp; done) | omega | (simp; omega))))
                     first
                     | (have HX1 := Lib.hid (one_grown (sl_drew' (slO_one (Z.alloc _) x (Z.heap.size + 1) (by simp))) hg7 (by simp)))
                     | (have HX1 := Lib.hid (one_grown (sl_drew' (sl_alloc' _ (slO_one Z x _ rfl))) hg7 (by simp)))
                     | skip
                     clear ho7 hg7
                     have hb1 := HB7.out)
                  | (refine hx_app (.tmp 57) (.tmp 62) 31 rfl (v := v7) (u := .slice (some ⟨_, 0, none⟩) 1 1) rfl rfl (app1m (base := Z.heap.size) (xs := L.take 0) (o := x) _ ?_ ?_ ?_ ?_) ?_
                     · first | exact HO7.out | exact own_alloc _ HO7.out
                     · first | exact slO_one w7 x _ rfl | exact HX1.out
                     · first | exact HB7.out.size | exact Nat.le_trans HB7.out.size (by simp)
                     · have := HLN.out; rw [List.length_take]; omega
                     rintro v8 w8 ⟨ho8, hg8⟩
                     have HO8 := Lib.hid ho8
                     have HB8 : Hid (Below Z.heap.size Z w8) := Lib.hid (by first | exact Below.grown HB7.out hg8 HB7.out.size (fun q hq => (Own.lt HO7.out q hq).1) | exact Below.grown (HB7.out.alloc HB7.out.size _) hg8 (Nat.le_trans HB7.out.size (by first | (simp; done) | (simp; omega))) (fun q hq => (Own.lt HO7.out q hq).1))
                     clear ho8 hg8
                     have hb1 := HB8.out)
                  | (refine hx_app (.tmp 63) (.tmp 66) 31 rfl (v := v8) (u := .slice (some ⟨_, 0, none⟩) ln co) rfl rfl (app2m (base := Z.heap.size) (xs := L.take 0 ++ [x]) (ys := L.drop 0) _ HO8.out ?_ ?_ HB8.out.size ?_ ?_) ?_
                     · exact SlR.mono (cut_hi0 HSZ.out) HB8.out
                     · have := HLN.out; rw [List.length_drop]; omega
                     · have := HLN.out; (first | (simp; done) | (simp; omega))
                     · omega
                     rintro v9 w9 ⟨ho9, hg9⟩
                     have HO9 := Lib.hid ho9
                     have HB9 : Hid (Below Z.heap.size Z w9) := Lib.hid (Below.grown HB8.out hg9 HB8.out.size (fun q hq => (Own.lt HO8.out q hq).1))
                     clear ho9 hg9
                     have hb1 := HB9.out))
                first | (refine hK _ _ ?_ (fun hHeld => ?_)) | (go_wp2_with fail; refine hK _ _ ?_ (fun hHeld => ?_))
                · first | exact GrS.alloc (by assumption) _ | exact GrS.of hb1
                clear hK K
                (try simp only [Act.put, List.setIfInBounds_toArray, List.set_cons_zero, List.set_cons_succ])
                refine hx_act 14 (some 67) (by kernel_rfl) (by kernel_rfl) (by kernel_rfl) (fun K hK o ho => ?_)
                replace ho := Option.some.inj ho
                conv at ho => lhs; whnf
                subst ho
                (first
                  | (refine hx_app (.tmp 53) (.tmp 56) 31 rfl (v := .slice (some ⟨_, 0, none⟩) 0 0) (u := .slice (some ⟨_, 0, none⟩) 0 co) rfl rfl (app0 (base := Z.heap.size) (ys := L.take 0) _ ?_ ?_ ?_ ?_ ?_) ?_
                     · (first | exact own_drew (Own.empty encO 6 23 Z _ (Nat.le_refl _)) | exact own_drew (own_alloc _ (Own.empty encO 6 23 Z _ (Nat.le_refl _))) | exact own_drew (Own.emptyAt encO 6 23 (Z.alloc _) _ (Z.heap.size + 1) (by simp) (by simp)))
                     · (repeat (first | with_reducible exact (cut_lo HSZ.out HLN.out (Nat.zero_le _)) | with_reducible refine sl_drew' ?_ | with_reducible refine sl_alloc' _ ?_))
                     · have := HLN.out; rw [List.length_take]; omega
                     · (first | (simp; done) | (simp; omega))
                     · omega
                     rintro v7 w7 ⟨ho7, hg7⟩
                     have HO7 := Lib.hid ho7
                     have HB7 : Hid (Below Z.heap.size Z w7) := Lib.hid (Below.grown (by (repeat (first | exact Below.refl _ _ | refine Below.drew ?_ | refine Below.alloc ?_ (by first | (simp; done) | (simp; omega)) _))) hg7 (by first | (simp; done) | (simp; omega)) (by intro q hq; injection hq with hq; subst hq; (first | (simp; done) | omega | (simp; omega))))
                     first
                     | (have HX1 := Lib.hid (one_grown (sl_drew' (slO_one (Z.alloc _) x (Z.heap.size + 1) (by simp))) hg7 (by simp)))
                     | (have HX1 := Lib.hid (one_grown (sl_drew' (sl_alloc' _ (slO_one Z x _ rfl))) hg7 (by simp)))
                     | skip
                     clear ho7 hg7
                     have hb1 := HB7.out)
                  | (refine hx_app (.tmp 57) (.tmp 62) 31 rfl (v := v7) (u := .slice (some ⟨_, 0, none⟩) 1 1) rfl rfl (app1m (base := Z.heap.size) (xs := L.take 0) (o := x) _ ?_ ?_ ?_ ?_) ?_
                     · first | exact HO7.out | exact own_alloc _ HO7.out
                     · first | exact slO_one w7 x _ rfl | exact HX1.out
                     · first | exact HB7.out.size | exact Nat.le_trans HB7.out.size (by simp)
                     · have := HLN.out; rw [List.length_take]; omega
                     rintro v8 w8 ⟨ho8, hg8⟩
                     have HO8 := Lib.hid ho8
                     have HB8 : Hid (Below Z.heap.size Z w8) := Lib.hid (by first | exact Below.grown HB7.out hg8 HB7.out.size (fun q hq => (Own.lt HO7.out q hq).1) | exact Below.grown (HB7.out.alloc HB7.out.size _) hg8 (Nat.le_trans HB7.out.size (by first | (simp; done) | (simp; omega))) (fun q hq => (Own.lt HO7.out q hq).1))
                     clear ho8 hg8
                     have hb1 := HB8.out)
                  | (refine hx_app (.tmp 63) (.tmp 66) 31 rfl (v := v8) (u := .slice (some ⟨_, 0, none⟩) ln co) rfl rfl (app2m (base := Z.heap.size) (xs := L.take 0 ++ [x]) (ys := L.drop 0) _ HO8.out ?_ ?_ HB8.out.size ?_ ?_) ?_
                     · exact SlR.mono (cut_hi0 HSZ.out) HB8.out
                     · have := HLN.out; rw [List.length_drop]; omega
                     · have := HLN.out; (first | (simp; done) | (simp; omega))
                     · omega
                     rintro v9 w9 ⟨ho9, hg9⟩
                     have HO9 := Lib.hid ho9
                     have HB9 : Hid (Below Z.heap.size Z w9) := Lib.hid (Below.grown HB8.out hg9 HB8.out.size (fun q hq => (Own.lt HO8.out q hq).1))
                     clear ho9 hg9
                     have hb1 := HB9.out))
                first | (refine hK _ _ ?_ (fun hHeld => ?_)) | (go_wp2_with fail; refine hK _ _ ?_ (fun hHeld => ?_))
                · first | exact GrS.alloc (by assumption) _ | exact GrS.of hb1
                clear hK K
                (try simp only [Act.put, List.setIfInBounds_toArray, List.set_cons_zero, List.set_cons_succ])
                refine hx_take 15 (some 7) ?_ (by kernel_rfl) (by kernel_rfl) (by kernel_rfl) (by kernel_rfl) (by kernel_rfl) (fun _ _ _ h => h) (by assumption) (fun o ho w hSw => ?_) ?_
                rotate_left
                · replace ho := Option.some.inj ho
                  conv at ho => lhs; whnf
                  subst ho
                  (try dsimp only at hSw)
                  go_simp
                  (try rfl)
                (try simp only [Act.put, List.setIfInBounds_toArray, List.set_cons_zero, List.set_cons_succ])
                refine wpAnyH_done (by kernel_rfl) ?_ _
                rotate_right 1
                rotate_left 2
                replace ho := Option.some.inj ho
                conv at ho => lhs; whnf
                subst ho
                go_simp
                first | (refine hK _ _ ?_ (fun hHeld => ?_)) | (go_wp2_with fail; refine hK _ _ ?_ (fun hHeld => ?_))
                · first | exact GrS.alloc (by assumption) _ | exact GrS.of hb1
                clear hK K
                (try simp only [Act.put, List.setIfInBounds_toArray, List.set_cons_zero, List.set_cons_succ])
                refine hx_act 0 (some 53) (by kernel_rfl) (by kernel_rfl) (by kernel_rfl) (fun K hK o ho => ?_)
                replace ho := Option.some.inj ho
                conv at ho => lhs; whnf
                subst ho
                go_simp
                first | (refine hK _ _ ?_ (fun hHeld => ?_)) | (go_wp2_with fail; refine hK _ _ ?_ (fun hHeld => ?_))
                · first | exact GrS.alloc (by assumption) _ | exact GrS.of hb1
                clear hK K
                (try simp only [Act.put, List.setIfInBounds_toArray, List.set_cons_zero, List.set_cons_succ])
                refine hx_act 4 (some 57) (by kernel_rfl) (by kernel_rfl) (by kernel_rfl) (fun K hK o ho => ?_)
                replace ho := Option.some.inj ho
                conv at ho => lhs; whnf
                subst ho
                (first
                  | (refine hx_app (.tmp 53) (.tmp 56) 31 rfl (v := .slice (some ⟨_, 0, none⟩) 0 0) (u := .slice (some ⟨_, 0, none⟩) 0 co) rfl rfl (app0 (base := Z.heap.size) (ys := L.take 0) _ ?_ ?_ ?_ ?_ ?_) ?_
                     · (first | exact own_drew (Own.empty encO 6 23 Z _ (Nat.le_refl _)) | exact own_drew (own_alloc _ (Own.empty encO 6 23 Z _ (Nat.le_refl _))) | exact own_drew (Own.emptyAt encO 6 23 (Z.alloc _) _ (Z.heap.size + 1) (by simp) (by simp)))
                     · (repeat (first | with_reducible exact (cut_lo HSZ.out HLN.out (Nat.zero_le _)) | with_reducible refine sl_drew' ?_ | with_reducible refine sl_alloc' _ ?_))
                     · have := HLN.out; rw [List.length_take]; omega
                     · (first | (simp; done) | (simp; omega))
                     · omega
                     rintro v7 w7 ⟨ho7, hg7⟩
                     have HO7 := Lib.hid ho7
                     have HB7 : Hid (Below Z.heap.size Z w7) := Lib.hid (Below.grown (by (repeat (first | exact Below.refl _ _ | refine Below.drew ?_ | refine Below.alloc ?_ (by first | (simp; done) | (simp; omega)) _))) hg7 (by first | (simp; done) | (simp; omega)) (by intro q hq; injection hq with hq; subst hq; (first | (simp; done) | omega | (simp; omega))))
                     first
                     | (have HX1 := Lib.hid (one_grown (sl_drew' (slO_one (Z.alloc _) x (Z.heap.size + 1) (by simp))) hg7 (by simp)))
                     | (have HX1 := Lib.hid (one_grown (sl_drew' (sl_alloc' _ (slO_one Z x _ rfl))) hg7 (by simp)))
                     | skip
                     clear ho7 hg7
                     have hb1 := HB7.out)
                  | (refine hx_app (.tmp 57) (.tmp 62) 31 rfl (v := v7) (u := .slice (some ⟨_, 0, none⟩) 1 1) rfl rfl (app1m (base := Z.heap.size) (xs := L.take 0) (o := x) _ ?_ ?_ ?_ ?_) ?_
                     · first | exact HO7.out | exact own_alloc _ HO7.out
                     · first | exact slO_one w7 x _ rfl | exact HX1.out
                     · first | exact HB7.out.size | exact Nat.le_trans HB7.out.size (by simp)
                     · have := HLN.out; rw [List.length_take]; omega
                     rintro v8 w8 ⟨ho8, hg8⟩
                     have HO8 := Lib.hid ho8
                     have HB8 : Hid (Below Z.heap.size Z w8) := Lib.hid (by first | exact Below.grown HB7.out hg8 HB7.out.size (fun q hq => (Own.lt HO7.out q hq).1) | exact Below.grown (HB7.out.alloc HB7.out.size _) hg8 (Nat.le_trans HB7.out.size (by first | (simp; done) | (simp; omega))) (fun q hq => (Own.lt HO7.out q hq).1))
                     clear ho8 hg8
                     have hb1 := HB8.out)
                  | (refine hx_app (.tmp 63) (.tmp 66) 31 rfl (v := v8) (u := .slice (some ⟨_, 0, none⟩) ln co) rfl rfl (app2m (base := Z.heap.size) (xs := L.take 0 ++ [x]) (ys := L.drop 0) _ HO8.out ?_ ?_ HB8.out.size ?_ ?_) ?_
                     · exact SlR.mono (cut_hi0 HSZ.out) HB8.out
                     · have := HLN.out; rw [List.length_drop]; omega
                     · have := HLN.out; (first | (simp; done) | (simp; omega))
                     · omega
                     rintro v9 w9 ⟨ho9, hg9⟩
                     have HO9 := Lib.hid ho9
                     have HB9 : Hid (Below Z.heap.size Z w9) := Lib.hid (Below.grown HB8.out hg9 HB8.out.size (fun q hq => (Own.lt HO8.out q hq).1))
                     clear ho9 hg9
                     have hb1 := HB9.out))
                first | (refine hK _ _ ?_ (fun hHeld => ?_)) | (go_wp2_with fail; refine hK _ _ ?_ (fun hHeld => ?_))
                · first | exact GrS.alloc (by assumption) _ | exact GrS.of hb1
                clear hK K
                (try simp only [Act.put, List.setIfInBounds_toArray, List.set_cons_zero, List.set_cons_succ])
                refine hx_act 10 (some 63) (by kernel_rfl) (by kernel_rfl) (by kernel_rfl) (fun K hK o ho => ?_)
                replace ho := Option.some.inj ho
                conv at ho => lhs; whnf
                subst ho
                (first
                  | (refine hx_app (.tmp 53) (.tmp 56) 31 rfl (v := .slice (some ⟨_, 0, none⟩) 0 0) (u := .slice (some ⟨_, 0, none⟩) 0 co) rfl rfl (app0 (base := Z.heap.size) (ys := L.take 0) _ ?_ ?_ ?_ ?_ ?_) ?_
                     · (first | exact own_drew (Own.empty encO 6 23 Z _ (Nat.le_refl _)) | exact own_drew (own_alloc _ (Own.empty encO 6 23 Z _ (Nat.le_refl _))) | exact own_drew (Own.emptyAt encO 6 23 (Z.alloc _) _ (Z.heap.size + 1) (by simp) (by simp)))
                     · (repeat (first | with_reducible exact (cut_lo HSZ.out HLN.out (Nat.zero_le _)) | with_reducible refine sl_drew' ?_ | with_reducible refine sl_alloc' _ ?_))
                     · have := HLN.out; rw [List.length_take]; omega
                     · (first | (simp; done) | (simp; omega))
                     · omega
                     rintro v7 w7 ⟨ho7, hg7⟩
                     have HO7 := Lib.hid ho7
                     have HB7 : Hid (Below Z.heap.size Z w7) := Lib.hid (Below.grown (by (repeat (first | exact Below.refl _ _ | refine Below.drew ?_ | refine Below.alloc ?_ (by first | (simp; done) | (simp; omega)) _))) hg7 (by first | (simp; done) | (simp; omega)) (by intro q hq; injection hq with hq; subst hq; (first | (simp; done) | omega | (simp; omega))))
                     first
                     | (have HX1 := Lib.hid (one_grown (sl_drew' (slO_one (Z.alloc _) x (Z.heap.size + 1) (by simp))) hg7 (by simp)))
                     | (have HX1 := Lib.hid (one_grown (sl_drew' (sl_alloc' _ (slO_one Z x _ rfl))) hg7 (by simp)))
                     | skip
                     clear ho7 hg7
                     have hb1 := HB7.out)
                  | (refine hx_app (.tmp 57) (.tmp 62) 31 rfl (v := v7) (u := .slice (some ⟨_, 0, none⟩) 1 1) rfl rfl (app1m (base := Z.heap.size) (xs := L.take 0) (o := x) _ ?_ ?_ ?_ ?_) ?_
                     · first | exact HO7.out | exact own_alloc _ HO7.out
                     · first | exact slO_one w7 x _ rfl | exact HX1.out
                     · first | exact HB7.out.size | exact Nat.le_trans HB7.out.size (by simp)
                     · have := HLN.out; rw [List.length_take]; omega
                     rintro v8 w8 ⟨ho8, hg8⟩
                     have HO8 := Lib.hid ho8
                     have HB8 : Hid (Below Z.heap.size Z w8) := Lib.hid (by first | exact Below.grown HB7.out hg8 HB7.out.size (fun q hq => (Own.lt HO7.out q hq).1) | exact Below.grown (HB7.out.alloc HB7.out.size _) hg8 (Nat.le_trans HB7.out.size (by first | (simp; done) | (simp; omega))) (fun q hq => (Own.lt HO7.out q hq).1))
                     clear ho8 hg8
                     have hb1 := HB8.out)
                  | (refine hx_app (.tmp 63) (.tmp 66) 31 rfl (v := v8) (u := .slice (some ⟨_, 0, none⟩) ln co) rfl rfl (app2m (base := Z.heap.size) (xs := L.take 0 ++ [x]) (ys := L.drop 0) _ HO8.out ?_ ?_ HB8.out.size ?_ ?_) ?_
                     · exact SlR.mono (cut_hi0 HSZ.out) HB8.out
                     · have := HLN.out; rw [List.length_drop]; omega
                     · have := HLN.out; (first | (simp; done) | (simp; omega))
                     · omega
                     rintro v9 w9 ⟨ho9, hg9⟩
                     have HO9 := Lib.hid ho9
                     have HB9 : Hid (Below Z.heap.size Z w9) := Lib.hid (Below.grown HB8.out hg9 HB8.out.size (fun q hq => (Own.lt HO8.out q hq).1))
                     clear ho9 hg9
                     have hb1 := HB9.out))
                first | (refine hK _ _ ?_ (fun hHeld => ?_)) | (go_wp2_with fail; refine hK _ _ ?_ (fun hHeld => ?_))
                · first | exact GrS.alloc (by assumption) _ | exact GrS.of hb1
                clear hK K
                (try simp only [Act.put, List.setIfInBounds_toArray, List.set_cons_zero, List.set_cons_succ])
                refine hx_act 14 (some 67) (by kernel_rfl) (by kernel_rfl) (by kernel_rfl) (fun K hK o ho => ?_)
                replace ho := Option.some.inj ho
                conv at ho => lhs; whnf
                subst ho
                (first
                  | (refine hx_app (.tmp 53) (.tmp 56) 31 rfl (v := .slice (some ⟨_, 0, none⟩) 0 0) (u := .slice (some ⟨_, 0, none⟩) 0 co) rfl rfl (app0 (base := Z.heap.size) (ys := L.take 0) _ ?_ ?_ ?_ ?_ ?_) ?_
                     · (first | exact own_drew (Own.empty encO 6 23 Z _ (Nat.le_refl _)) | exact own_drew (own_alloc _ (Own.empty encO 6 23 Z _ (Nat.le_refl _))) | exact own_drew (Own.emptyAt encO 6 23 (Z.alloc _) _ (Z.heap.size + 1) (by simp) (by simp)))
                     · (repeat (first | with_reducible exact (cut_lo HSZ.out HLN.out (Nat.zero_le _)) | with_reducible refine sl_drew' ?_ | with_reducible refine sl_alloc' _ ?_))
                     · have := HLN.out; rw [List.length_take]; omega
                     · (first | (simp; done) | (simp; omega))
                     · omega
                     rintro v7 w7 ⟨ho7, hg7⟩
                     have HO7 := Lib.hid ho7
                     have HB7 : Hid (Below Z.heap.size Z w7) := Lib.hid (Below.grown (by (repeat (first | exact Below.refl _ _ | refine Below.drew ?_ | refine Below.alloc ?_ (by first | (simp; done) | (simp; omega)) _))) hg7 (by first | (simp; done) | (simp; omega)) (by intro q hq; injection hq with hq; subst hq; (first | (simp; done) | omega | (simp; omega))))
                     first
                     | (have HX1 := Lib.hid (one_grown (sl_drew' (slO_one (Z.alloc _) x (Z.heap.size + 1) (by simp))) hg7 (by simp)))
                     | (have HX1 := Lib.hid (one_grown (sl_drew' (sl_alloc' _ (slO_one Z x _ rfl))) hg7 (by simp)))
                     | skip
                     clear ho7 hg7
                     have hb1 := HB7.out)
                  | (refine hx_app (.tmp 57) (.tmp 62) 31 rfl (v := v7) (u := .slice (some ⟨_, 0, none⟩) 1 1) rfl rfl (app1m (base := Z.heap.size) (xs := L.take 0) (o := x) _ ?_ ?_ ?_ ?_) ?_
                     · first | exact HO7.out | exact own_alloc _ HO7.out
                     · first | exact slO_one w7 x _ rfl | exact HX1.out
                     · first | exact HB7.out.size | exact Nat.le_trans HB7.out.size (by simp)
                     · have := HLN.out; rw [List.length_take]; omega
                     rintro v8 w8 ⟨ho8, hg8⟩
                     have HO8 := Lib.hid ho8
                     have HB8 : Hid (Below Z.heap.size Z w8) := Lib.hid (by first | exact Below.grown HB7.out hg8 HB7.out.size (fun q hq => (Own.lt HO7.out q hq).1) | exact Below.grown (HB7.out.alloc HB7.out.size _) hg8 (Nat.le_trans HB7.out.size (by first | (simp; done) | (simp; omega))) (fun q hq => (Own.lt HO7.out q hq).1))
                     clear ho8 hg8
                     have hb1 := HB8.out)
                  | (refine hx_app (.tmp 63) (.tmp 66) 31 rfl (v := v8) (u := .slice (some ⟨_, 0, none⟩) ln co) rfl rfl (app2m (base := Z.heap.size) (xs := L.take 0 ++ [x]) (ys := L.drop 0) _ HO8.out ?_ ?_ HB8.out.size ?_ ?_) ?_
                     · exact SlR.mono (cut_hi0 HSZ.out) HB8.out
                     · have := HLN.out; rw [List.length_drop]; omega
                     · have := HLN.out; (first | (simp; done) | (simp; omega))
                     · omega
                     rintro v9 w9 ⟨ho9, hg9⟩
                     have HO9 := Lib.hid ho9
                     have HB9 : Hid (Below Z.heap.size Z w9) := Lib.hid (Below.grown HB8.out hg9 HB8.out.size (fun q hq => (Own.lt HO8.out q hq).1))
                     clear ho9 hg9
                     have hb1 := HB9.out))
                first | (refine hK _ _ ?_ (fun hHeld => ?_)) | (go_wp2_with fail; refine hK _ _ ?_ (fun hHeld => ?_))
                · first | exact GrS.alloc (by assumption) _ | exact GrS.of hb1
                clear hK K
                (try simp only [Act.put, List.setIfInBounds_toArray, List.set_cons_zero, List.set_cons_succ])
                refine hx_take 15 (some 7) ?_ (by kernel_rfl) (by kernel_rfl) (by kernel_rfl) (by kernel_rfl) (by kernel_rfl) (fun _ _ _ h => h) (by assumption) (fun o ho w hSw => ?_) ?_
                rotate_left
                · replace ho := Option.some.inj ho
                  conv at ho => lhs; whnf
                  subst ho
                  (try dsimp only at hSw)
                  go_simp
                  (try rfl)
                (try simp only [Act.put, List.setIfInBounds_toArray, List.set_cons_zero, List.set_cons_succ])
                refine wpAnyH_done (by kernel_rfl) ?_ _
                rotate_right 2
                all_goals
                  go_wp2
                  go_roundw
                  case rel => exact ⟨⟨k + 1, by omega, by go_num, L.take 0 ++ x :: L.drop 0, Lib.hid ⟨by have := Own.weaken HO9.out (HBZ.out.size); rwa [List.append_assoc] at this, by rw [HST.out, HO.out]; exact put_perm HL.out.2.1, HROW.out⟩⟩, Lib.hid (grow_trans HBZ.out HB9.out)⟩
                  case measure => simp [intOf]; omega
            · obtain ⟨y, HY⟩ : ∃ y, Hid (L[m-1]? = some y) := ⟨_, Lib.hid (List.getElem?_eq_getElem (by have := HLN.out; omega))⟩
              obtain ⟨ob, oo, hao, hob, h6⟩ := SlR.cells6 HSO.out (by intro h; have := HY.out; rw [h] at this; simp at this)
              obtain rfl : oo = 0 := (hbo _ hao).2
              subst hao
              have h7 := h6 _ y HY.out
              rw [Nat.zero_add] at h7
              obtain ⟨y0, y1, y2, y3, y4, y5⟩ := h7
              clear h6
              obtain ⟨x0, x1, x2, x3, x4, x5⟩ := H6.out.mono HB.out
              have hx9 : b9 < wo.heap.size := by have := HB.out.size; omega
              have hp1 : 0 < m := by omega
              have hp2 : (0 : Int) < (m : Int) := by omega
              have hp3 : (1 : Int) ≤ (m : Int) := by omega
              have q0 : (0 : Int) ≤ (m : Int) - 1 := by omega
              have q1 : (m : Int) - 1 < (ln : Int) := by omega
              have q2 : ((m : Int) - 1).toNat = m - 1 := by omega
              have q3 : IntKind.i64.wrap ((m : Int) - 1) = (m : Int) - 1 := IntWalk.i64_in _ (by omega)
              cases hls : less x y with
              | true =>
                go_wp2_with fail
                refine wp_region_held_drew (S := fun w' => GrS wo w') (by kernel_rfl) ?_ (fun hHeld => ?_)
                · exact GrS.start HW.out.1
                refine hx_take 0 (some 37) ?_ (by kernel_rfl) (by kernel_rfl) (by kernel_rfl) (by kernel_rfl) (by kernel_rfl) (fun _ _ _ h => h) (by assumption) (fun o ho w hSw => ?_) ?_
                rotate_left
                · replace ho := Option.some.inj ho
                  conv at ho => lhs; whnf
                  subst ho
                  (try dsimp only at hSw)
                  go_simp
                  (try rfl)
                (try simp only [Act.put, List.setIfInBounds_toArray, List.set_cons_zero, List.set_cons_succ])
                refine hx_take 1 (some 38) ?_ (by kernel_rfl) (by kernel_rfl) (by kernel_rfl) (by kernel_rfl) (by kernel_rfl) (fun _ _ _ h => h) (by assumption) (fun o ho w hSw => ?_) ?_
                rotate_left
                · replace ho := Option.some.inj ho
                  conv at ho => lhs; whnf
                  subst ho
                  (try dsimp only at hSw)
                  go_simp
                  (try rfl)
                (try simp only [Act.put, List.setIfInBounds_toArray, List.set_cons_zero, List.set_cons_succ])
                refine hx_take 2 (some 39) ?_ (by kernel_rfl) (by kernel_rfl) (by kernel_rfl) (by kernel_rfl) (by kernel_rfl) (fun _ _ _ h => h) (by assumption) (fun o ho w hSw => ?_) ?_
                rotate_left
                · replace ho := Option.some.inj ho
                  conv at ho => lhs; whnf
                  subst ho
                  (try dsimp only at hSw)
                  go_simp
                  (try rfl)
                (try simp only [Act.put, List.setIfInBounds_toArray, List.set_cons_zero, List.set_cons_succ])
                refine hx_take 3 (some 40) ?_ (by kernel_rfl) (by kernel_rfl) (by kernel_rfl) (by kernel_rfl) (by kernel_rfl) (fun _ _ _ h => h) (by assumption) (fun o ho w hSw => ?_) ?_
                rotate_left
                · replace ho := Option.some.inj ho
                  conv at ho => lhs; whnf
                  subst ho
                  (try dsimp only at hSw)
                  go_simp
                  (try rfl)
                (try simp only [Act.put, List.setIfInBounds_toArray, List.set_cons_zero, List.set_cons_succ])
                refine hx_take 4 (some 41) ?_ (by kernel_rfl) (by kernel_rfl) (by kernel_rfl) (by kernel_rfl) (by kernel_rfl) (fun _ _ _ h => h) (by assumption) (fun o ho w hSw => ?_) ?_
                rotate_left
                · replace ho := Option.some.inj ho
                  conv at ho => lhs; whnf
                  subst ho
                  (try dsimp only at hSw)
                  go_simp
                  (try rfl)
                (try simp only [Act.put, List.setIfInBounds_toArray, List.set_cons_zero, List.set_cons_succ])
                refine hx_take 5 (some 42) ?_ (by kernel_rfl) (by kernel_rfl) (by kernel_rfl) (by kernel_rfl) (by kernel_rfl) (fun _ _ _ h => h) (by assumption) (fun o ho w hSw => ?_) ?_
                rotate_left
                · replace ho := Option.some.inj ho
                  conv at ho => lhs; whnf
                  subst ho
                  (try dsimp only at hSw)
                  go_simp
                  (try rfl)
                (try simp only [Act.put, List.setIfInBounds_toArray, List.set_cons_zero, List.set_cons_succ])
                refine hx_take 6 (some 43) ?_ (by kernel_rfl) (by kernel_rfl) (by kernel_rfl) (by kernel_rfl) (by kernel_rfl) (fun _ _ _ h => h) (by assumption) (fun o ho w hSw => ?_) ?_
                rotate_left
                · replace ho := Option.some.inj ho
                  conv at ho => lhs; whnf
                  subst ho
                  (try dsimp only at hSw)
                  go_simp
                  (try rfl)
                (try simp only [Act.put, List.setIfInBounds_toArray, List.set_cons_zero, List.set_cons_succ])
                refine hx_take 7 (some 44) ?_ (by kernel_rfl) (by kernel_rfl) (by kernel_rfl) (by kernel_rfl) (by kernel_rfl) (fun _ _ _ h => h) (by assumption) (fun o ho w hSw => ?_) ?_
                rotate_left
                · replace ho := Option.some.inj ho
                  conv at ho => lhs; whnf
                  subst ho
                  (try dsimp only at hSw)
                  go_simp
                  (try rfl)
                (try simp only [Act.put, List.setIfInBounds_toArray, List.set_cons_zero, List.set_cons_succ])
                refine hx_take 8 (some 45) ?_ (by kernel_rfl) (by kernel_rfl) (by kernel_rfl) (by kernel_rfl) (by kernel_rfl) (fun _ _ _ h => h) (by assumption) (fun o ho w hSw => ?_) ?_
                rotate_left
                · replace ho := Option.some.inj ho
                  conv at ho => lhs; whnf
                  subst ho
                  (try dsimp only at hSw)
                  go_simp
                  (try rfl)
                (try simp only [Act.put, List.setIfInBounds_toArray, List.set_cons_zero, List.set_cons_succ])
                refine hx_take 9 (some 46) ?_ (by kernel_rfl) (by kernel_rfl) (by kernel_rfl) (by kernel_rfl) (by kernel_rfl) (fun _ _ _ h => h) (by assumption) (fun o ho w hSw => ?_) ?_
                rotate_left
                · replace ho := Option.some.inj ho
                  conv at ho => lhs; whnf
                  subst ho
                  (try dsimp only at hSw)
                  go_simp
                  (try rfl)
                (try simp only [Act.put, List.setIfInBounds_toArray, List.set_cons_zero, List.set_cons_succ])
                refine hx_take 10 (some 47) ?_ (by kernel_rfl) (by kernel_rfl) (by kernel_rfl) (by kernel_rfl) (by kernel_rfl) (fun _ _ _ h => h) (by assumption) (fun o ho w hSw => ?_) ?_
                rotate_left
                · replace ho := Option.some.inj ho
                  conv at ho => lhs; whnf
                  subst ho
                  (try dsimp only at hSw)
                  go_simp
                  (try rfl)
                (try simp only [Act.put, List.setIfInBounds_toArray, List.set_cons_zero, List.set_cons_succ])
                refine hx_take 11 (some 48) ?_ (by kernel_rfl) (by kernel_rfl) (by kernel_rfl) (by kernel_rfl) (by kernel_rfl) (fun _ _ _ h => h) (by assumption) (fun o ho w hSw => ?_) ?_
                rotate_left
                · replace ho := Option.some.inj ho
                  conv at ho => lhs; whnf
                  subst ho
                  (try dsimp only at hSw)
                  go_simp
                  (try rfl)
                (try simp only [Act.put, List.setIfInBounds_toArray, List.set_cons_zero, List.set_cons_succ])
                refine hx_act 12 (some 49) (by kernel_rfl) (by kernel_rfl) (by kernel_rfl) (fun K hK o ho => ?_)
                replace ho := Option.some.inj ho
                conv at ho => lhs; whnf
                subst ho
                go_simp
                (go_at_call 21; (with_reducible refine (rLess_v x y _ hls _).mono ?_); rintro e w4 ⟨rfl, hb1⟩)
                first | (refine hK _ _ ?_ (fun hHeld => ?_)) | (go_wp2_with fail; refine hK _ _ ?_ (fun hHeld => ?_))
                · exact GrS.call (by assumption) hb1
                clear hK K
                (try simp only [Act.put, List.setIfInBounds_toArray, List.set_cons_zero, List.set_cons_succ])
                refine hx_take 13 (some 50) ?_ (by kernel_rfl) (by kernel_rfl) (by kernel_rfl) (by kernel_rfl) (by kernel_rfl) (fun _ _ _ h => h) (by assumption) (fun o ho w hSw => ?_) ?_
                rotate_left
                · replace ho := Option.some.inj ho
                  conv at ho => lhs; whnf
                  subst ho
                  (try dsimp only at hSw)
                  go_simp
                  (try rfl)
                (try simp only [Act.put, List.setIfInBounds_toArray, List.set_cons_zero, List.set_cons_succ])
                refine wpAnyH_done (by kernel_rfl) ?_ _
                have HGZ := Lib.hid (show GrS wo _ from by assumption)
                go_wp2
                go_roundw
                case rel =>
                  exact ⟨⟨m - 1, by omega, by rw [show ((m : Int) - 1) = ((m - 1 : Nat) : Int) by omega], Lib.hid (fun j z hj hz => by
                    by_cases e : j = m - 1
                    · subst e; have := HY.out.symm.trans hz; injection this with this; subst this; exact hls
                    · exact HA.out j z (by omega) hz)⟩, HGZ⟩
                case measure => simp [intOf]; omega
              | false =>
                go_wp2_with fail
                refine wp_region_held_drew (S := fun w' => GrS wo w') (by kernel_rfl) ?_ (fun hHeld => ?_)
                · exact GrS.start HW.out.1
                refine hx_take 0 (some 37) ?_ (by kernel_rfl) (by kernel_rfl) (by kernel_rfl) (by kernel_rfl) (by kernel_rfl) (fun _ _ _ h => h) (by assumption) (fun o ho w hSw => ?_) ?_
                rotate_left
                · replace ho := Option.some.inj ho
                  conv at ho => lhs; whnf
                  subst ho
                  (try dsimp only at hSw)
                  go_simp
                  (try rfl)
                (try simp only [Act.put, List.setIfInBounds_toArray, List.set_cons_zero, List.set_cons_succ])
                refine hx_take 1 (some 38) ?_ (by kernel_rfl) (by kernel_rfl) (by kernel_rfl) (by kernel_rfl) (by kernel_rfl) (fun _ _ _ h => h) (by assumption) (fun o ho w hSw => ?_) ?_
                rotate_left
                · replace ho := Option.some.inj ho
                  conv at ho => lhs; whnf
                  subst ho
                  (try dsimp only at hSw)
                  go_simp
                  (try rfl)
                (try simp only [Act.put, List.setIfInBounds_toArray, List.set_cons_zero, List.set_cons_succ])
                refine hx_take 2 (some 39) ?_ (by kernel_rfl) (by kernel_rfl) (by kernel_rfl) (by kernel_rfl) (by kernel_rfl) (fun _ _ _ h => h) (by assumption) (fun o ho w hSw => ?_) ?_
                rotate_left
                · replace ho := Option.some.inj ho
                  conv at ho => lhs; whnf
                  subst ho
                  (try dsimp only at hSw)
                  go_simp
                  (try rfl)
                (try simp only [Act.put, List.setIfInBounds_toArray, List.set_cons_zero, List.set_cons_succ])
                refine hx_take 3 (some 40) ?_ (by kernel_rfl) (by kernel_rfl) (by kernel_rfl) (by kernel_rfl) (by kernel_rfl) (fun _ _ _ h => h) (by assumption) (fun o ho w hSw => ?_) ?_
                rotate_left
                · replace ho := Option.some.inj ho
                  conv at ho => lhs; whnf
                  subst ho
                  (try dsimp only at hSw)
                  go_simp
                  (try rfl)
                (try simp only [Act.put, List.setIfInBounds_toArray, List.set_cons_zero, List.set_cons_succ])
                refine hx_take 4 (some 41) ?_ (by kernel_rfl) (by kernel_rfl) (by kernel_rfl) (by kernel_rfl) (by kernel_rfl) (fun _ _ _ h => h) (by assumption) (fun o ho w hSw => ?_) ?_
                rotate_left
                · replace ho := Option.some.inj ho
                  conv at ho => lhs; whnf
                  subst ho
                  (try dsimp only at hSw)
                  go_simp
                  (try rfl)
                (try simp only [Act.put, List.setIfInBounds_toArray, List.set_cons_zero, List.set_cons_succ])
                refine hx_take 5 (some 42) ?_ (by kernel_rfl) (by kernel_rfl) (by kernel_rfl) (by kernel_rfl) (by kernel_rfl) (fun _ _ _ h => h) (by assumption) (fun o ho w hSw => ?_) ?_
                rotate_left
                · replace ho := Option.some.inj ho
                  conv at ho => lhs; whnf
                  subst ho
                  (try dsimp only at hSw)
                  go_simp
                  (try rfl)
                (try simp only [Act.put, List.setIfInBounds_toArray, List.set_cons_zero, List.set_cons_succ])
                refine hx_take 6 (some 43) ?_ (by kernel_rfl) (by kernel_rfl) (by kernel_rfl) (by kernel_rfl) (by kernel_rfl) (fun _ _ _ h => h) (by assumption) (fun o ho w hSw => ?_) ?_
                rotate_left
                · replace ho := Option.some.inj ho
                  conv at ho => lhs; whnf
                  subst ho
                  (try dsimp only at hSw)
                  go_simp
                  (try rfl)
                (try simp only [Act.put, List.setIfInBounds_toArray, List.set_cons_zero, List.set_cons_succ])
                refine hx_take 7 (some 44) ?_ (by kernel_rfl) (by kernel_rfl) (by kernel_rfl) (by kernel_rfl) (by kernel_rfl) (fun _ _ _ h => h) (by assumption) (fun o ho w hSw => ?_) ?_
                rotate_left
                · replace ho := Option.some.inj ho
                  conv at ho => lhs; whnf
                  subst ho
                  (try dsimp only at hSw)
                  go_simp
                  (try rfl)
                (try simp only [Act.put, List.setIfInBounds_toArray, List.set_cons_zero, List.set_cons_succ])
                refine hx_take 8 (some 45) ?_ (by kernel_rfl) (by kernel_rfl) (by kernel_rfl) (by kernel_rfl) (by kernel_rfl) (fun _ _ _ h => h) (by assumption) (fun o ho w hSw => ?_) ?_
                rotate_left
                · replace ho := Option.some.inj ho
                  conv at ho => lhs; whnf
                  subst ho
                  (try dsimp only at hSw)
                  go_simp
                  (try rfl)
                (try simp only [Act.put, List.setIfInBounds_toArray, List.set_cons_zero, List.set_cons_succ])
                refine hx_take 9 (some 46) ?_ (by kernel_rfl) (by kernel_rfl) (by kernel_rfl) (by kernel_rfl) (by kernel_rfl) (fun _ _ _ h => h) (by assumption) (fun o ho w hSw => ?_) ?_
                rotate_left
                · replace ho := Option.some.inj ho
                  conv at ho => lhs; whnf
                  subst ho
                  (try dsimp only at hSw)
                  go_simp
                  (try rfl)
                (try simp only [Act.put, List.setIfInBounds_toArray, List.set_cons_zero, List.set_cons_succ])
                refine hx_take 10 (some 47) ?_ (by kernel_rfl) (by kernel_rfl) (by kernel_rfl) (by kernel_rfl) (by kernel_rfl) (fun _ _ _ h => h) (by assumption) (fun o ho w hSw => ?_) ?_
                rotate_left
                · replace ho := Option.some.inj ho
                  conv at ho => lhs; whnf
                  subst ho
                  (try dsimp only at hSw)
                  go_simp
                  (try rfl)
                (try simp only [Act.put, List.setIfInBounds_toArray, List.set_cons_zero, List.set_cons_succ])
                refine hx_take 11 (some 48) ?_ (by kernel_rfl) (by kernel_rfl) (by kernel_rfl) (by kernel_rfl) (by kernel_rfl) (fun _ _ _ h => h) (by assumption) (fun o ho w hSw => ?_) ?_
                rotate_left
                · replace ho := Option.some.inj ho
                  conv at ho => lhs; whnf
                  subst ho
                  (try dsimp only at hSw)
                  go_simp
                  (try rfl)
                (try simp only [Act.put, List.setIfInBounds_toArray, List.set_cons_zero, List.set_cons_succ])
                refine hx_act 12 (some 49) (by kernel_rfl) (by kernel_rfl) (by kernel_rfl) (fun K hK o ho => ?_)
                replace ho := Option.some.inj ho
                conv at ho => lhs; whnf
                subst ho
                go_simp
                (go_at_call 21; (with_reducible refine (rLess_v x y _ hls _).mono ?_); rintro e Z ⟨rfl, hb1⟩)
                first | (refine hK _ _ ?_ (fun hHeld => ?_)) | (go_wp2_with fail; refine hK _ _ ?_ (fun hHeld => ?_))
                · exact GrS.call (by assumption) hb1
                clear hK K
                (try simp only [Act.put, List.setIfInBounds_toArray, List.set_cons_zero, List.set_cons_succ])
                refine hx_take 13 (some 50) ?_ (by kernel_rfl) (by kernel_rfl) (by kernel_rfl) (by kernel_rfl) (by kernel_rfl) (fun _ _ _ h => h) (by assumption) (fun o ho w hSw => ?_) ?_
                rotate_left
                · replace ho := Option.some.inj ho
                  conv at ho => lhs; whnf
                  subst ho
                  (try dsimp only at hSw)
                  go_simp
                  (try rfl)
                (try simp only [Act.put, List.setIfInBounds_toArray, List.set_cons_zero, List.set_cons_succ])
                refine wpAnyH_done (by kernel_rfl) ?_ _
                have HGZ := Lib.hid (show GrS wo _ from by assumption)
                have HROW : Hid (Row side (L.take m ++ x :: L.drop m)) := Lib.hid (put_row HL.out.2.2 HAll.out HXx.out (by have := HLN.out; omega) HA.out (fun z _ hz => by have := HY.out.symm.trans hz; injection this with this; subst this; exact hls))
                clear x0 x1 x2 x3 x4 x5 y0 y1 y2 y3 y4 y5 q0 q1 q2 q3 hx9 hp2 hp3
                have HBZ : Hid (Below w.heap.size w Z) := Lib.hid (grow_trans HB.out HGZ.out.1)
                have HSZ := Lib.hid (HSO.out.mono HGZ.out.1)
                obtain ⟨x0, x1, x2, x3, x4, x5⟩ := H6.out.mono HBZ.out
                have hx9 : b9 < Z.heap.size := by have := HBZ.out.size; omega
                have m0 : (0 : Int) ≤ (m : Int) := Int.natCast_nonneg _
                have m1 : (m : Int) ≤ (ln : Int) := by omega
                have m2 : (m : Int) ≤ (co : Int) := by omega
                clear HW
                by_cases hcm : co = m
                · subst hcm
                  obtain rfl : ln = co := by omega
                  go_wp2_with fail
                  refine wp_region_held_drew (S := fun w' => GrS Z w') (by kernel_rfl) ?_ (fun hHeld => ?_)
                  · exact GrS.start (Below.refl _ _)
                  refine hx_take 1 (some 54) ?_ (by kernel_rfl) (by kernel_rfl) (by kernel_rfl) (by kernel_rfl) (by kernel_rfl) (fun _ _ _ h => h) (by assumption) (fun o ho w hSw => ?_) ?_
                  rotate_left
                  · replace ho := Option.some.inj ho
                    conv at ho => lhs; whnf
                    subst ho
                    (try dsimp only at hSw)
                    go_simp
                    (try rfl)
                  (try simp only [Act.put, List.setIfInBounds_toArray, List.set_cons_zero, List.set_cons_succ])
                  refine hx_take 2 (some 55) ?_ (by kernel_rfl) (by kernel_rfl) (by kernel_rfl) (by kernel_rfl) (by kernel_rfl) (fun _ _ _ h => h) (by assumption) (fun o ho w hSw => ?_) ?_
                  rotate_left
                  · replace ho := Option.some.inj ho
                    conv at ho => lhs; whnf
                    subst ho
                    (try dsimp only at hSw)
                    go_simp
                    (try rfl)
                  (try simp only [Act.put, List.setIfInBounds_toArray, List.set_cons_zero, List.set_cons_succ])
                  refine hx_take 3 (some 56) ?_ (by kernel_rfl) (by kernel_rfl) (by kernel_rfl) (by kernel_rfl) (by kernel_rfl) (fun _ _ _ h => h) (by assumption) (fun o ho w hSw => ?_) ?_
                  rotate_left
                  · replace ho := Option.some.inj ho
                    conv at ho => lhs; whnf
                    subst ho
                    (try dsimp only at hSw)
                    go_simp
                    (try rfl)
                  (try simp only [Act.put, List.setIfInBounds_toArray, List.set_cons_zero, List.set_cons_succ])
                  refine hx_take 5 (some 58) ?_ (by kernel_rfl) (by kernel_rfl) (by kernel_rfl) (by kernel_rfl) (by kernel_rfl) (fun _ _ _ h => h) (by assumption) (fun o ho w hSw => ?_) ?_
                  rotate_left
                  · replace ho := Option.some.inj ho
                    conv at ho => lhs; whnf
                    subst ho
                    (try dsimp only at hSw)
                    go_simp
                    (try rfl)
                  (try simp only [Act.put, List.setIfInBounds_toArray, List.set_cons_zero, List.set_cons_succ])
                  refine hx_take 6 (some 59) ?_ (by kernel_rfl) (by kernel_rfl) (by kernel_rfl) (by kernel_rfl) (by kernel_rfl) (fun _ _ _ h => h) (by assumption) (fun o ho w hSw => ?_) ?_
                  rotate_left
                  · replace ho := Option.some.inj ho
                    conv at ho => lhs; whnf
                    subst ho
                    (try dsimp only at hSw)
                    go_simp
                    (try rfl)
                  (try simp only [Act.put, List.setIfInBounds_toArray, List.set_cons_zero, List.set_cons_succ])
                  refine hx_take 7 (some 60) ?_ (by kernel_rfl) (by kernel_rfl) (by kernel_rfl) (by kernel_rfl) (by kernel_rfl) (fun _ _ _ h => h) (by assumption) (fun o ho w hSw => ?_) ?_
                  rotate_left
                  · replace ho := Option.some.inj ho
                    conv at ho => lhs; whnf
                    subst ho
                    (try dsimp only at hSw)
                    go_simp
                    (try rfl)
                  (try simp only [Act.put, List.setIfInBounds_toArray, List.set_cons_zero, List.set_cons_succ])
                  refine hx_take 8 (some 61) ?_ (by kernel_rfl) (by kernel_rfl) (by kernel_rfl) (by kernel_rfl) (by kernel_rfl) (fun _ _ _ h => h) (by assumption) (fun o ho w hSw => ?_) ?_
                  rotate_left
                  · replace ho := Option.some.inj ho
                    conv at ho => lhs; whnf
                    subst ho
                    (try dsimp only at hSw)
                    go_simp
                    (try rfl)
                  (try simp only [Act.put, List.setIfInBounds_toArray, List.set_cons_zero, List.set_cons_succ])
                  refine hx_take 11 (some 64) ?_ (by kernel_rfl) (by kernel_rfl) (by kernel_rfl) (by kernel_rfl) (by kernel_rfl) (fun _ _ _ h => h) (by assumption) (fun o ho w hSw => ?_) ?_
                  rotate_left
                  · replace ho := Option.some.inj ho
                    conv at ho => lhs; whnf
                    subst ho
                    (try dsimp only at hSw)
                    go_simp
                    (try rfl)
                  (try simp only [Act.put, List.setIfInBounds_toArray, List.set_cons_zero, List.set_cons_succ])
                  refine hx_take 12 (some 65) ?_ (by kernel_rfl) (by kernel_rfl) (by kernel_rfl) (by kernel_rfl) (by kernel_rfl) (fun _ _ _ h => h) (by assumption) (fun o ho w hSw => ?_) ?_
                  rotate_left
                  · replace ho := Option.some.inj ho
                    conv at ho => lhs; whnf
                    subst ho
                    (try dsimp only at hSw)
                    go_simp
                    (try rfl)
                  (try simp only [Act.put, List.setIfInBounds_toArray, List.set_cons_zero, List.set_cons_succ])
                  refine hx_take 13 (some 66) ?_ (by kernel_rfl) (by kernel_rfl) (by kernel_rfl) (by kernel_rfl) (by kernel_rfl) (fun _ _ _ h => h) (by assumption) (fun o ho w hSw => ?_) ?_
                  rotate_left
                  · replace ho := Option.some.inj ho
                    conv at ho => lhs; whnf
                    subst ho
                    (try dsimp only at hSw)
                    go_simp
                    (try rfl)
                  (try simp only [Act.put, List.setIfInBounds_toArray, List.set_cons_zero, List.set_cons_succ])
                  refine hx_act2 0 9 (some 53) (some 62) (by kernel_rfl) (by kernel_rfl) (by kernel_rfl) (by kernel_rfl) (by kernel_rfl) (fun K hK o ho => ?_) (fun K hK o ho => ?_)
                  replace ho := Option.some.inj ho
                  conv at ho => lhs; whnf
                  subst ho
                  go_simp
                  first | (refine hK _ _ ?_ (fun hHeld => ?_)) | (go_wp2_with fail; refine hK _ _ ?_ (fun hHeld => ?_))
                  · first | exact GrS.alloc (by assumption) _ | exact GrS.of hb1
                  clear hK K
                  (try simp only [Act.put, List.setIfInBounds_toArray, List.set_cons_zero, List.set_cons_succ])
                  refine hx_act2 4 9 (some 57) (some 62) (by kernel_rfl) (by kernel_rfl) (by kernel_rfl) (by kernel_rfl) (by kernel_rfl) (fun K hK o ho => ?_) (fun K hK o ho => ?_)
                  replace ho := Option.some.inj ho
                  conv at ho => lhs; whnf
                  subst ho
                  (first
                    | (refine hx_app (.tmp 53) (.tmp 56) 31 rfl (v := .slice (some ⟨_, 0, none⟩) 0 0) (u := .slice (some ⟨_, 0, none⟩) ln ln) rfl rfl (app0 (base := Z.heap.size) (ys := L.take ln) _ ?_ ?_ ?_ ?_ ?_) ?_
                       · (first | exact own_drew (Own.empty encO 6 23 Z _ (Nat.le_refl _)) | exact own_drew (own_alloc _ (Own.empty encO 6 23 Z _ (Nat.le_refl _))) | exact own_drew (Own.emptyAt encO 6 23 (Z.alloc _) _ (Z.heap.size + 1) (by simp) (by simp)))
                       · (repeat (first | with_reducible exact (cut_lo HSZ.out HLN.out (Nat.le_refl _)) | with_reducible refine sl_drew' ?_ | with_reducible refine sl_alloc' _ ?_))
                       · have := HLN.out; rw [List.length_take]; omega
                       · (first | (simp; done) | (simp; omega))
                       · omega
                       rintro v7 w7 ⟨ho7, hg7⟩
                       have HO7 := Lib.hid ho7
                       have HB7 : Hid (Below Z.heap.size Z w7) := Lib.hid (Below.grown (by (repeat (first | exact Below.refl _ _ | refine Below.drew ?_ | refine Below.alloc ?_ (by first | (simp; done) | (simp; omega)) _))) hg7 (by first | (simp; done) | (simp; omega)) (by intro q hq; injection hq with hq; subst hq; (first | (simp; done) | omega | (simp; omega))))
                       first
                       | (have HX1 := Lib.hid (one_grown (sl_drew' (slO_one (Z.alloc _) x (Z.heap.size + 1) (by simp))) hg7 (by simp)))
                       | (have HX1 := Lib.hid (one_grown (sl_drew' (sl_alloc' _ (slO_one Z x _ rfl))) hg7 (by simp)))
                       | skip
                       clear ho7 hg7
                       have hb1 := HB7.out)
                    | (refine hx_app (.tmp 57) (.tmp 62) 31 rfl (v := v7) (u := .slice (some ⟨_, 0, none⟩) 1 1) rfl rfl (app1m (base := Z.heap.size) (xs := L.take ln) (o := x) _ ?_ ?_ ?_ ?_) ?_
                       · first | exact HO7.out | exact own_alloc _ HO7.out
                       · first | exact slO_one w7 x _ rfl | exact HX1.out
                       · first | exact HB7.out.size | exact Nat.le_trans HB7.out.size (by simp)
                       · have := HLN.out; rw [List.length_take]; omega
                       rintro v8 w8 ⟨ho8, hg8⟩
                       have HO8 := Lib.hid ho8
                       have HB8 : Hid (Below Z.heap.size Z w8) := Lib.hid (by first | exact Below.grown HB7.out hg8 HB7.out.size (fun q hq => (Own.lt HO7.out q hq).1) | exact Below.grown (HB7.out.alloc HB7.out.size _) hg8 (Nat.le_trans HB7.out.size (by first | (simp; done) | (simp; omega))) (fun q hq => (Own.lt HO7.out q hq).1))
                       clear ho8 hg8
                       have hb1 := HB8.out)
                    | (refine hx_app (.tmp 63) (.tmp 66) 31 rfl (v := v8) (u := .slice (some ⟨_, 0, none⟩) 0 0) rfl rfl (app2m (base := Z.heap.size) (xs := L.take ln ++ [x]) (ys := L.drop ln) _ HO8.out ?_ ?_ HB8.out.size ?_ ?_) ?_
                       · exact SlR.mono (cut_full HSZ.out rfl) HB8.out
                       · have := HLN.out; rw [List.length_drop]; omega
                       · have := HLN.out; (first | (simp; done) | (simp; omega))
                       · omega
                       rintro v9 w9 ⟨ho9, hg9⟩
                       have HO9 := Lib.hid ho9
                       have HB9 : Hid (Below Z.heap.size Z w9) := Lib.hid (Below.grown HB8.out hg9 HB8.out.size (fun q hq => (Own.lt HO8.out q hq).1))
                       clear ho9 hg9
                       have hb1 := HB9.out))
                  first | (refine hK _ _ ?_ (fun hHeld => ?_)) | (go_wp2_with fail; refine hK _ _ ?_ (fun hHeld => ?_))
                  · first | exact GrS.alloc (by assumption) _ | exact GrS.of hb1
                  clear hK K
                  (try simp only [Act.put, List.setIfInBounds_toArray, List.set_cons_zero, List.set_cons_succ])
                  refine hx_act 9 (some 62) (by kernel_rfl) (by kernel_rfl) (by kernel_rfl) (fun K hK o ho => ?_)
                  replace ho := Option.some.inj ho
                  conv at ho => lhs; whnf
                  subst ho
                  go_simp
                  first | (refine hK _ _ ?_ (fun hHeld => ?_)) | (go_wp2_with fail; refine hK _ _ ?_ (fun hHeld => ?_))
                  · first | exact GrS.alloc (by assumption) _ | exact GrS.of hb1
                  clear hK K
                  (try simp only [Act.put, List.setIfInBounds_toArray, List.set_cons_zero, List.set_cons_succ])
                  refine hx_act 10 (some 63) (by kernel_rfl) (by kernel_rfl) (by kernel_rfl) (fun K hK o ho => ?_)
                  replace ho := Option.some.inj ho
                  conv at ho => lhs; whnf
                  subst ho
                  (first
                    | (refine hx_app (.tmp 53) (.tmp 56) 31 rfl (v := .slice (some ⟨_, 0, none⟩) 0 0) (u := .slice (some ⟨_, 0, none⟩) ln ln) rfl rfl (app0 (base := Z.heap.size) (ys := L.take ln) _ ?_ ?_ ?_ ?_ ?_) ?_
                       · (first | exact own_drew (Own.empty encO 6 23 Z _ (Nat.le_refl _)) | exact own_drew (own_alloc _ (Own.empty encO 6 23 Z _ (Nat.le_refl _))) | exact own_drew (Own.emptyAt encO 6 23 (Z.alloc _) _ (Z.heap.size + 1) (by simp) (by simp)))
                       · (repeat (first | with_reducible exact (cut_lo HSZ.out HLN.out (Nat.le_refl _)) | with_reducible refine sl_drew' ?_ | with_reducible refine sl_alloc' _ ?_))
                       · have := HLN.out; rw [List.length_take]; omega
                       · (first | (simp; done) | (simp; omega))
                       · omega
                       rintro v7 w7 ⟨ho7, hg7⟩
                       have HO7 := Lib.hid ho7
                       have HB7 : Hid (Below Z.heap.size Z w7) := Lib.hid (Below.grown (by (repeat (first | exact Below.refl _ _ | refine Below.drew ?_ | refine Below.alloc ?_ (by first | (simp; done) | (simp; omega)) _))) hg7 (by first | (simp; done) | (simp; omega)) (by intro q hq; injection hq with hq; subst hq; (first | (simp; done) | omega | (simp; omega))))
                       first
                       | (have HX1 := Lib.hid (one_grown (sl_drew' (slO_one (Z.alloc _) x (Z.heap.size + 1) (by simp))) hg7 (by simp)))
                       | (have HX1 := Lib.hid (one_grown (sl_drew' (sl_alloc' _ (slO_one Z x _ rfl))) hg7 (by simp)))
                       | skip
                       clear ho7 hg7
                       have hb1 := HB7.out)
                    | (refine hx_app (.tmp 57) (.tmp 62) 31 rfl (v := v7) (u := .slice (some ⟨_, 0, none⟩) 1 1) rfl rfl (app1m (base := Z.heap.size) (xs := L.take ln) (o := x) _ ?_ ?_ ?_ ?_) ?_
                       · first | exact HO7.out | exact own_alloc _ HO7.out
                       · first | exact slO_one w7 x _ rfl | exact HX1.out
                       · first | exact HB7.out.size | exact Nat.le_trans HB7.out.size (by simp)
                       · have := HLN.out; rw [List.length_take]; omega
                       rintro v8 w8 ⟨ho8, hg8⟩
                       have HO8 := Lib.hid ho8
                       have HB8 : Hid (Below Z.heap.size Z w8) := Lib.hid (by first | exact Below.grown HB7.out hg8 HB7.out.size (fun q hq => (Own.lt HO7.out q hq).1) | exact Below.grown (HB7.out.alloc HB7.out.size _) hg8 (Nat.le_trans HB7.out.size (by first | (simp; done) | (simp; omega))) (fun q hq => (Own.lt HO7.out q hq).1))
                       clear ho8 hg8
                       have hb1 := HB8.out)
                    | (refine hx_app (.tmp 63) (.tmp 66) 31 rfl (v := v8) (u := .slice (some ⟨_, 0, none⟩) 0 0) rfl rfl (app2m (base := Z.heap.size) (xs := L.take ln ++ [x]) (ys := L.drop ln) _ HO8.out ?_ ?_ HB8.out.size ?_ ?_) ?_
                       · exact SlR.mono (cut_full HSZ.out rfl) HB8.out
                       · have := HLN.out; rw [List.length_drop]; omega
                       · have := HLN.out; (first | (simp; done) | (simp; omega))
                       · omega
                       rintro v9 w9 ⟨ho9, hg9⟩
                       have HO9 := Lib.hid ho9
                       have HB9 : Hid (Below Z.heap.size Z w9) := Lib.hid (Below.grown HB8.out hg9 HB8.out.size (fun q hq => (Own.lt HO8.out q hq).1))
                       clear ho9 hg9
                       have hb1 := HB9.out))
                  first | (refine hK _ _ ?_ (fun hHeld => ?_)) | (go_wp2_with fail; refine hK _ _ ?_ (fun hHeld => ?_))
                  · first | exact GrS.alloc (by assumption) _ | exact GrS.of hb1
                  clear hK K
                  (try simp only [Act.put, List.setIfInBounds_toArray, List.set_cons_zero, List.set_cons_succ])
                  refine hx_act 14 (some 67) (by kernel_rfl) (by kernel_rfl) (by kernel_rfl) (fun K hK o ho => ?_)
                  replace ho := Option.some.inj ho
                  conv at ho => lhs; whnf
                  subst ho
                  (first
                    | (refine hx_app (.tmp 53) (.tmp 56) 31 rfl (v := .slice (some ⟨_, 0, none⟩) 0 0) (u := .slice (some ⟨_, 0, none⟩) ln ln) rfl rfl (app0 (base := Z.heap.size) (ys := L.take ln) _ ?_ ?_ ?_ ?_ ?_) ?_
                       · (first | exact own_drew (Own.empty encO 6 23 Z _ (Nat.le_refl _)) | exact own_drew (own_alloc _ (Own.empty encO 6 23 Z _ (Nat.le_refl _))) | exact own_drew (Own.emptyAt encO 6 23 (Z.alloc _) _ (Z.heap.size + 1) (by simp) (by simp)))
                       · (repeat (first | with_reducible exact (cut_lo HSZ.out HLN.out (Nat.le_refl _)) | with_reducible refine sl_drew' ?_ | with_reducible refine sl_alloc' _ ?_))
                       · have := HLN.out; rw [List.length_take]; omega
                       · (first | (simp; done) | (simp; omega))
                       · omega
                       rintro v7 w7 ⟨ho7, hg7⟩
                       have HO7 := Lib.hid ho7
                       have HB7 : Hid (Below Z.heap.size Z w7) := Lib.hid (Below.grown (by (repeat (first | exact Below.refl _ _ | refine Below.drew ?_ | refine Below.alloc ?_ (by first | (simp; done) | (simp; omega)) _))) hg7 (by first | (simp; done) | (simp; omega)) (by intro q hq; injection hq with hq; subst hq; (first | (simp; done) | omega | (simp; omega))))
                       first
                       | (have HX1 := Lib.hid (one_grown (sl_drew' (slO_one (Z.alloc _) x (Z.heap.size + 1) (by simp))) hg7 (by simp)))
                       | (have HX1 := Lib.hid (one_grown (sl_drew' (sl_alloc' _ (slO_one Z x _ rfl))) hg7 (by simp)))
                       | skip
                       clear ho7 hg7
                       have hb1 := HB7.out)
                    | (refine hx_app (.tmp 57) (.tmp 62) 31 rfl (v := v7) (u := .slice (some ⟨_, 0, none⟩) 1 1) rfl rfl (app1m (base := Z.heap.size) (xs := L.take ln) (o := x) _ ?_ ?_ ?_ ?_) ?_
                       · first | exact HO7.out | exact own_alloc _ HO7.out
                       · first | exact slO_one w7 x _ rfl | exact HX1.out
                       · first | exact HB7.out.size | exact Nat.le_trans HB7.out.size (by simp)
                       · have := HLN.out; rw [List.length_take]; omega
                       rintro v8 w8 ⟨ho8, hg8⟩
                       have HO8 := Lib.hid ho8
                       have HB8 : Hid (Below Z.heap.size Z w8) := Lib.hid (by first | exact Below.grown HB7.out hg8 HB7.out.size (fun q hq => (Own.lt HO7.out q hq).1) | exact Below.grown (HB7.out.alloc HB7.out.size _) hg8 (Nat.le_trans HB7.out.size (by first | (simp; done) | (simp; omega))) (fun q hq => (Own.lt HO7.out q hq).1))
                       clear ho8 hg8
                       have hb1 := HB8.out)
                    | (refine hx_app (.tmp 63) (.tmp 66) 31 rfl (v := v8) (u := .slice (some ⟨_, 0, none⟩) 0 0) rfl rfl (app2m (base := Z.heap.size) (xs := L.take ln ++ [x]) (ys := L.drop ln) _ HO8.out ?_ ?_ HB8.out.size ?_ ?_) ?_
                       · exact SlR.mono (cut_full HSZ.out rfl) HB8.out
                       · have := HLN.out; rw [List.length_drop]; omega
                       · have := HLN.out; (first | (simp; done) | (simp; omega))
                       · omega
                       rintro v9 w9 ⟨ho9, hg9⟩
                       have HO9 := Lib.hid ho9
                       have HB9 : Hid (Below Z.heap.size Z w9) := Lib.hid (Below.grown HB8.out hg9 HB8.out.size (fun q hq => (Own.lt HO8.out q hq).1))
                       clear ho9 hg9
                       have hb1 := HB9.out))
                  first | (refine hK _ _ ?_ (fun hHeld => ?_)) | (go_wp2_with fail; refine hK _ _ ?_ (fun hHeld => ?_))
                  · first | exact GrS.alloc (by assumption) _ | exact GrS.of hb1
                  clear hK K
                  (try simp only [Act.put, List.setIfInBounds_toArray, List.set_cons_zero, List.set_cons_succ])
                  refine hx_take 15 (some 7) ?_ (by kernel_rfl) (by kernel_rfl) (by kernel_rfl) (by kernel_rfl) (by kernel_rfl) (fun _ _ _ h => h) (by assumption) (fun o ho w hSw => ?_) ?_
                  rotate_left
                  · replace ho := Option.some.inj ho
                    conv at ho => lhs; whnf
                    subst ho
                    (try dsimp only at hSw)
                    go_simp
                    (try rfl)
                  (try simp only [Act.put, List.setIfInBounds_toArray, List.set_cons_zero, List.set_cons_succ])
                  refine wpAnyH_done (by kernel_rfl) ?_ _
                  rotate_left 1
                  replace ho := Option.some.inj ho
                  conv at ho => lhs; whnf
                  subst ho
                  go_simp
                  first | (refine hK _ _ ?_ (fun hHeld => ?_)) | (go_wp2_with fail; refine hK _ _ ?_ (fun hHeld => ?_))
                  · first | exact GrS.alloc (by assumption) _ | exact GrS.of hb1
                  clear hK K
                  (try simp only [Act.put, List.setIfInBounds_toArray, List.set_cons_zero, List.set_cons_succ])
                  refine hx_act 4 (some 57) (by kernel_rfl) (by kernel_rfl) (by kernel_rfl) (fun K hK o ho => ?_)
                  replace ho := Option.some.inj ho
                  conv at ho => lhs; whnf
                  subst ho
                  (first
                    | (refine hx_app (.tmp 53) (.tmp 56) 31 rfl (v := .slice (some ⟨_, 0, none⟩) 0 0) (u := .slice (some ⟨_, 0, none⟩) ln ln) rfl rfl (app0 (base := Z.heap.size) (ys := L.take ln) _ ?_ ?_ ?_ ?_ ?_) ?_
                       · (first | exact own_drew (Own.empty encO 6 23 Z _ (Nat.le_refl _)) | exact own_drew (own_alloc _ (Own.empty encO 6 23 Z _ (Nat.le_refl _))) | exact own_drew (Own.emptyAt encO 6 23 (Z.alloc _) _ (Z.heap.size + 1) (by simp) (by simp)))
                       · (repeat (first | with_reducible exact (cut_lo HSZ.out HLN.out (Nat.le_refl _)) | with_reducible refine sl_drew' ?_ | with_reducible refine sl_alloc' _ ?_))
                       · have := HLN.out; rw [List.length_take]; omega
                       · (first | (simp; done) | (simp; omega))
                       · omega
                       rintro v7 w7 ⟨ho7, hg7⟩
                       have HO7 := Lib.hid ho7
                       have HB7 : Hid (Below Z.heap.size Z w7) := Lib.hid (Below.grown (by (repeat (first | exact Below.refl _ _ | refine Below.drew ?_ | refine Below.alloc ?_ (by first | (simp; done) | (simp; omega)) _))) hg7 (by first | (simp; done) | (simp; omega)) (by intro q hq; injection hq with hq; subst hq; (first | (simp; done) | omega | (simp; omega))))
                       first
                       | (have HX1 := Lib.hid (one_grown (sl_drew' (slO_one (Z.alloc _) x (Z.heap.size + 1) (by simp))) hg7 (by simp)))
                       | (have HX1 := Lib.hid (one_grown (sl_drew' (sl_alloc' _ (slO_one Z x _ rfl))) hg7 (by simp)))
                       | skip
                       clear ho7 hg7
                       have hb1 := HB7.out)
                    | (refine hx_app (.tmp 57) (.tmp 62) 31 rfl (v := v7) (u := .slice (some ⟨_, 0, none⟩) 1 1) rfl rfl (app1m (base := Z.heap.size) (xs := L.take ln) (o := x) _ ?_ ?_ ?_ ?_) ?_
                       · first | exact HO7.out | exact own_alloc _ HO7.out
                       · first | exact slO_one w7 x _ rfl | exact HX1.out
                       · first | exact HB7.out.size | exact Nat.le_trans HB7.out.size (by simp)
                       · have := HLN.out; rw [List.length_take]; omega
                       rintro v8 w8 ⟨ho8, hg8⟩
                       have HO8 := Lib.hid ho8
                       have HB8 : Hid (Below Z.heap.size Z w8) := Lib.hid (by first | exact Below.grown HB7.out hg8 HB7.out.size (fun q hq => (Own.lt HO7.out q hq).1) | exact Below.grown (HB7.out.alloc HB7.out.size _) hg8 (Nat.le_trans HB7.out.size (by first | (simp; done) | (simp; omega))) (fun q hq => (Own.lt HO7.out q hq).1))
                       clear ho8 hg8
                       have hb1 := HB8.out)
                    | (refine hx_app (.tmp 63) (.tmp 66) 31 rfl (v := v8) (u := .slice (some ⟨_, 0, none⟩) 0 0) rfl rfl (app2m (base := Z.heap.size) (xs := L.take ln ++ [x]) (ys := L.drop ln) _ HO8.out ?_ ?_ HB8.out.size ?_ ?_) ?_
                       · exact SlR.mono (cut_full HSZ.out rfl) HB8.out
                       · have := HLN.out; rw [List.length_drop]; omega
                       · have := HLN.out; (first | (simp; done) | (simp; omega))
                       · omega
                       rintro v9 w9 ⟨ho9, hg9⟩
                       have HO9 := Lib.hid ho9
                       have HB9 : Hid (Below Z.heap.size Z w9) := Lib.hid (Below.grown HB8.out hg9 HB8.out.size (fun q hq => (Own.lt HO8.out q hq).1))
                       clear ho9 hg9
                       have hb1 := HB9.out))
                  first | (refine hK _ _ ?_ (fun hHeld => ?_)) | (go_wp2_with fail; refine hK _ _ ?_ (fun hHeld => ?_))
                  · first | exact GrS.alloc (by assumption) _ | exact GrS.of hb1
                  clear hK K
                  (try simp only [Act.put, List.setIfInBounds_toArray, List.set_cons_zero, List.set_cons_succ])
                  refine hx_act 10 (some 63) (by kernel_rfl) (by kernel_rfl) (by kernel_rfl) (fun K hK o ho => ?_)
                  replace ho := Option.some.inj ho
                  conv at ho => lhs; whnf
                  subst ho
                  (first
                    | (refine hx_app (.tmp 53) (.tmp 56) 31 rfl (v := .slice (some ⟨_, 0, none⟩) 0 0) (u := .slice (some ⟨_, 0, none⟩) ln ln) rfl rfl (app0 (base := Z.heap.size) (ys := L.take ln) _ ?_ ?_ ?_ ?_ ?_) ?_
                       · (first | exact own_drew (Own.empty encO 6 23 Z _ (Nat.le_refl _)) | exact own_drew (own_alloc _ (Own.empty encO 6 23 Z _ (Nat.le_refl _))) | exact own_drew (Own.emptyAt encO 6 23 (Z.alloc _) _ (Z.heap.size + 1) (by simp) (by simp)))
                       · (repeat (first | with_reducible exact (cut_lo HSZ.out HLN.out (Nat.le_refl _)) | with_reducible refine sl_drew' ?_ | with_reducible refine sl_alloc' _ ?_))
                       · have := HLN.out; rw [List.length_take]; omega
                       · (first | (simp; done) | (simp; omega))
                       · omega
                       rintro v7 w7 ⟨ho7, hg7⟩
                       have HO7 := Lib.hid ho7
                       have HB7 : Hid (Below Z.heap.size Z w7) := Lib.hid (Below.grown (by (repeat (first | exact Below.refl _ _ | refine Below.drew ?_ | refine Below.alloc ?_ (by first | (simp; done) | (simp; omega)) _))) hg7 (by first | (simp; done) | (simp; omega)) (by intro q hq; injection hq with hq; subst hq; (first | (simp; done) | omega | (simp; omega))))
                       first
                       | (have HX1 := Lib.hid (one_grown (sl_drew' (slO_one (Z.alloc _) x (Z.heap.size + 1) (by simp))) hg7 (by simp)))
                       | (have HX1 := Lib.hid (one_grown (sl_drew' (sl_alloc' _ (slO_one Z x _ rfl))) hg7 (by simp)))
                       | skip
                       clear ho7 hg7
                       have hb1 := HB7.out)
                    | (refine hx_app (.tmp 57) (.tmp 62) 31 rfl (v := v7) (u := .slice (some ⟨_, 0, none⟩) 1 1) rfl rfl (app1m (base := Z.heap.size) (xs := L.take ln) (o := x) _ ?_ ?_ ?_ ?_) ?_
                       · first | exact HO7.out | exact own_alloc _ HO7.out
                       · first | exact slO_one w7 x _ rfl | exact HX1.out
                       · first | exact HB7.out.size | exact Nat.le_trans HB7.out.size (by simp)
                       · have := HLN.out; rw [List.length_take]; omega
                       rintro v8 w8 ⟨ho8, hg8⟩
                       have HO8 := Lib.hid ho8
                       have HB8 : Hid (Below Z.heap.size Z w8) := Lib.hid (by first | exact Below.grown HB7.out hg8 HB7.out.size (fun q hq => (Own.lt HO7.out q hq).1) | exact Below.grown (HB7.out.alloc HB7.out.size _) hg8 (Nat.le_trans HB7.out.size (by first | (simp; done) | (simp; omega))) (fun q hq => (Own.lt HO7.out q hq).1))
                       clear ho8 hg8
                       have hb1 := HB8.out)
                    | (refine hx_app (.tmp 63) (.tmp 66) 31 rfl (v := v8) (u := .slice (some ⟨_, 0, none⟩) 0 0) rfl rfl (app2m (base := Z.heap.size) (xs := L.take ln ++ [x]) (ys := L.drop ln) _ HO8.out ?_ ?_ HB8.out.size ?_ ?_) ?_
                       · exact SlR.mono (cut_full HSZ.out rfl) HB8.out
                       · have := HLN.out; rw [List.length_drop]; omega
                       · have := HLN.out; (first | (simp; done) | (simp; omega))
                       · omega
                       rintro v9 w9 ⟨ho9, hg9⟩
                       have HO9 := Lib.hid ho9
                       have HB9 : Hid (Below Z.heap.size Z w9) := Lib.hid (Below.grown HB8.out hg9 HB8.out.size (fun q hq => (Own.lt HO8.out q hq).1))
                       clear ho9 hg9
                       have hb1 := HB9.out))
                  first | (refine hK _ _ ?_ (fun hHeld => ?_)) | (go_wp2_with fail; refine hK _ _ ?_ (fun hHeld => ?_))
                  · first | exact GrS.alloc (by assumption) _ | exact GrS.of hb1
                  clear hK K
                  (try simp only [Act.put, List.setIfInBounds_toArray, List.set_cons_zero, List.set_cons_succ])
                  refine hx_act 14 (some 67) (by kernel_rfl) (by kernel_rfl) (by kernel_rfl) (fun K hK o ho => ?_)
                  replace ho := Option.some.inj ho
                  conv at ho => lhs; whnf
                  subst ho
                  (first
                    | (refine hx_app (.tmp 53) (.tmp 56) 31 rfl (v := .slice (some ⟨_, 0, none⟩) 0 0) (u := .slice (some ⟨_, 0, none⟩) ln ln) rfl rfl (app0 (base := Z.heap.size) (ys := L.take ln) _ ?_ ?_ ?_ ?_ ?_) ?_
                       · (first | exact own_drew (Own.empty encO 6 23 Z _ (Nat.le_refl _)) | exact own_drew (own_alloc _ (Own.empty encO 6 23 Z _ (Nat.le_refl _))) | exact own_drew (Own.emptyAt encO 6 23 (Z.alloc _) _ (Z.heap.size + 1) (by simp) (by simp)))
                       · (repeat (first | with_reducible exact (cut_lo HSZ.out HLN.out (Nat.le_refl _)) | with_reducible refine sl_drew' ?_ | with_reducible refine sl_alloc' _ ?_))
                       · have := HLN.out; rw [List.length_take]; omega
                       · (first | (simp; done) | (simp; omega))
                       · omega
                       rintro v7 w7 ⟨ho7, hg7⟩
                       have HO7 := Lib.hid ho7
                       have HB7 : Hid (Below Z.heap.size Z w7) := Lib.hid (Below.grown (by (repeat (first | exact Below.refl _ _ | refine Below.drew ?_ | refine Below.alloc ?_ (by first | (simp; done) | (simp; omega)) _))) hg7 (by first | (simp; done) | (simp; omega)) (by intro q hq; injection hq with hq; subst hq; (first | (simp; done) | omega | (simp; omega))))
                       first
                       | (have HX1 := Lib.hid (one_grown (sl_drew' (slO_one (Z.alloc _) x (Z.heap.size + 1) (by simp))) hg7 (by simp)))
                       | (have HX1 := Lib.hid (one_grown (sl_drew' (sl_alloc' _ (slO_one Z x _ rfl))) hg7 (by simp)))
                       | skip
                       clear ho7 hg7
                       have hb1 := HB7.out)
                    | (refine hx_app (.tmp 57) (.tmp 62) 31 rfl (v := v7) (u := .slice (some ⟨_, 0, none⟩) 1 1) rfl rfl (app1m (base := Z.heap.size) (xs := L.take ln) (o := x) _ ?_ ?_ ?_ ?_) ?_
                       · first | exact HO7.out | exact own_alloc _ HO7.out
                       · first | exact slO_one w7 x _ rfl | exact HX1.out
                       · first | exact HB7.out.size | exact Nat.le_trans HB7.out.size (by simp)
                       · have := HLN.out; rw [List.length_take]; omega
                       rintro v8 w8 ⟨ho8, hg8⟩
                       have HO8 := Lib.hid ho8
                       have HB8 : Hid (Below Z.heap.size Z w8) := Lib.hid (by first | exact Below.grown HB7.out hg8 HB7.out.size (fun q hq => (Own.lt HO7.out q hq).1) | exact Below.grown (HB7.out.alloc HB7.out.size _) hg8 (Nat.le_trans HB7.out.size (by first | (simp; done) | (simp; omega))) (fun q hq => (Own.lt HO7.out q hq).1))
                       clear ho8 hg8
                       have hb1 := HB8.out)
                    | (refine hx_app (.tmp 63) (.tmp 66) 31 rfl (v := v8) (u := .slice (some ⟨_, 0, none⟩) 0 0) rfl rfl (app2m (base := Z.heap.size) (xs := L.take ln ++ [x]) (ys := L.drop ln) _ HO8.out ?_ ?_ HB8.out.size ?_ ?_) ?_
                       · exact SlR.mono (cut_full HSZ.out rfl) HB8.out
                       · have := HLN.out; rw [List.length_drop]; omega
                       · have := HLN.out; (first | (simp; done) | (simp; omega))
                       · omega
                       rintro v9 w9 ⟨ho9, hg9⟩
                       have HO9 := Lib.hid ho9
                       have HB9 : Hid (Below Z.heap.size Z w9) := Lib.hid (Below.grown HB8.out hg9 HB8.out.size (fun q hq => (Own.lt HO8.out q hq).1))
                       clear ho9 hg9
                       have hb1 := HB9.out))
                  first | (refine hK _ _ ?_ (fun hHeld => ?_)) | (go_wp2_with fail; refine hK _ _ ?_ (fun hHeld => ?_))
                  · first | exact GrS.alloc (by assumption) _ | exact GrS.of hb1
                  clear hK K
                  (try simp only [Act.put, List.setIfInBounds_toArray, List.set_cons_zero, List.set_cons_succ])
                  refine hx_take 15 (some 7) ?_ (by kernel_rfl) (by kernel_rfl) (by kernel_rfl) (by kernel_rfl) (by kernel_rfl) (fun _ _ _ h => h) (by assumption) (fun o ho w hSw => ?_) ?_
                  rotate_left
                  · replace ho := Option.some.inj ho
                    conv at ho => lhs; whnf
                    subst ho
                    (try dsimp only at hSw)
                    go_simp
                    (try rfl)
                  (try simp only [Act.put, List.setIfInBounds_toArray, List.set_cons_zero, List.set_cons_succ])
                  refine wpAnyH_done (by kernel_rfl) ?_ _
                  rotate_right 1
                  rotate_left 2
                  replace ho := Option.some.inj ho
                  conv at ho => lhs; whnf
                  subst ho
                  go_simp
                  first | (refine hK _ _ ?_ (fun hHeld => ?_)) | (go_wp2_with fail; refine hK _ _ ?_ (fun hHeld => ?_))
                  · first | exact GrS.alloc (by assumption) _ | exact GrS.of hb1
                  clear hK K
                  (try simp only [Act.put, List.setIfInBounds_toArray, List.set_cons_zero, List.set_cons_succ])
                  refine hx_act 0 (some 53) (by kernel_rfl) (by kernel_rfl) (by kernel_rfl) (fun K hK o ho => ?_)
                  replace ho := Option.some.inj ho
                  conv at ho => lhs; whnf
                  subst ho
                  go_simp
                  first | (refine hK _ _ ?_ (fun hHeld => ?_)) | (go_wp2_with fail; refine hK _ _ ?_ (fun hHeld => ?_))
                  · first | exact GrS.alloc (by assumption) _ | exact GrS.of hb1
                  clear hK K
                  (try simp only [Act.put, List.setIfInBounds_toArray, List.set_cons_zero, List.set_cons_succ])
                  refine hx_act 4 (some 57) (by kernel_rfl) (by kernel_rfl) (by kernel_rfl) (fun K hK o ho => ?_)
                  replace ho := Option.some.inj ho
                  conv at ho => lhs; whnf
                  subst ho
                  (first
                    | (refine hx_app (.tmp 53) (.tmp 56) 31 rfl (v := .slice (some ⟨_, 0, none⟩) 0 0) (u := .slice (some ⟨_, 0, none⟩) ln ln) rfl rfl (app0 (base := Z.heap.size) (ys := L.take ln) _ ?_ ?_ ?_ ?_ ?_) ?_
                       · (first | exact own_drew (Own.empty encO 6 23 Z _ (Nat.le_refl _)) | exact own_drew (own_alloc _ (Own.empty encO 6 23 Z _ (Nat.le_refl _))) | exact own_drew (Own.emptyAt encO 6 23 (Z.alloc _) _ (Z.heap.size + 1) (by simp) (by simp)))
                       · (repeat (first | with_reducible exact (cut_lo HSZ.out HLN.out (Nat.le_refl _)) | with_reducible refine sl_drew' ?_ | with_reducible refine sl_alloc' _ ?_))
                       · have := HLN.out; rw [List.length_take]; omega
                       · (first | (simp; done) | (simp; omega))
                       · omega
                       rintro v7 w7 ⟨ho7, hg7⟩
                       have HO7 := Lib.hid ho7
                       have HB7 : Hid (Below Z.heap.size Z w7) := Lib.hid (Below.grown (by (repeat (first | exact Below.refl _ _ | refine Below.drew ?_ | refine Below.alloc ?_ (by first | (simp; done) | (simp; omega)) _))) hg7 (by first | (simp; done) | (simp; omega)) (by intro q hq; injection hq with hq; subst hq; (first | (simp; done) | omega | (simp; omega))))
                       first
                       | (have HX1 := Lib.hid (one_grown (sl_drew' (slO_one (Z.alloc _) x (Z.heap.size + 1) (by simp))) hg7 (by simp)))
                       | (have HX1 := Lib.hid (one_grown (sl_drew' (sl_alloc' _ (slO_one Z x _ rfl))) hg7 (by simp)))
                       | skip
                       clear ho7 hg7
                       have hb1 := HB7.out)
                    | (refine hx_app (.tmp 57) (.tmp 62) 31 rfl (v := v7) (u := .slice (some ⟨_, 0, none⟩) 1 1) rfl rfl (app1m (base := Z.heap.size) (xs := L.take ln) (o := x) _ ?_ ?_ ?_ ?_) ?_
                       · first | exact HO7.out | exact own_alloc _ HO7.out
                       · first | exact slO_one w7 x _ rfl | exact HX1.out
                       · first | exact HB7.out.size | exact Nat.le_trans HB7.out.size (by simp)
                       · have := HLN.out; rw [List.length_take]; omega
                       rintro v8 w8 ⟨ho8, hg8⟩
                       have HO8 := Lib.hid ho8
                       have HB8 : Hid (Below Z.heap.size Z w8) := Lib.hid (by first | exact Below.grown HB7.out hg8 HB7.out.size (fun q hq => (Own.lt HO7.out q hq).1) | exact Below.grown (HB7.out.alloc HB7.out.size _) hg8 (Nat.le_trans HB7.out.size (by first | (simp; done) | (simp; omega))) (fun q hq => (Own.lt HO7.out q hq).1))
                       clear ho8 hg8
                       have hb1 := HB8.out)
                    | (refine hx_app (.tmp 63) (.tmp 66) 31 rfl (v := v8) (u := .slice (some ⟨_, 0, none⟩) 0 0) rfl rfl (app2m (base := Z.heap.size) (xs := L.take ln ++ [x]) (ys := L.drop ln) _ HO8.out ?_ ?_ HB8.out.size ?_ ?_) ?_
                       · exact SlR.mono (cut_full HSZ.out rfl) HB8.out
                       · have := HLN.out; rw [List.length_drop]; omega
                       · have := HLN.out; (first | (simp; done) | (simp; omega))
                       · omega
                       rintro v9 w9 ⟨ho9, hg9⟩
                       have HO9 := Lib.hid ho9
                       have HB9 : Hid (Below Z.heap.size Z w9) := Lib.hid (Below.grown HB8.out hg9 HB8.out.size (fun q hq => (Own.lt HO8.out q hq).1))
                       clear ho9 hg9
                       have hb1 := HB9.out))
                  first | (refine hK _ _ ?_ (fun hHeld => ?_)) | (go_wp2_with fail; refine hK _ _ ?_ (fun hHeld => ?_))
                  · first | exact GrS.alloc (by assumption) _ | exact GrS.of hb1
                  clear hK K
                  (try simp only [Act.put, List.setIfInBounds_toArray, List.set_cons_zero, List.set_cons_succ])
                  refine hx_act 10 (some 63) (by kernel_rfl) (by kernel_rfl) (by kernel_rfl) (fun K hK o ho => ?_)
                  replace ho := Option.some.inj ho
                  conv at ho => lhs; whnf
                  subst ho
                  (first
                    | (refine hx_app (.tmp 53) (.tmp 56) 31 rfl (v := .slice (some ⟨_, 0, none⟩) 0 0) (u := .slice (some ⟨_, 0, none⟩) ln ln) rfl rfl (app0 (base := Z.heap.size) (ys := L.take ln) _ ?_ ?_ ?_ ?_ ?_) ?_
                       · (first | exact own_drew (Own.empty encO 6 23 Z _ (Nat.le_refl _)) | exact own_drew (own_alloc _ (Own.empty encO 6 23 Z _ (Nat.le_refl _))) | exact own_drew (Own.emptyAt encO 6 23 (Z.alloc _) _ (Z.heap.size + 1) (by simp) (by simp)))
                       · (repeat (first | with_reducible exact (cut_lo HSZ.out HLN.out (Nat.le_refl _)) | with_reducible refine sl_drew' ?_ | with_reducible refine sl_alloc' _ ?_))
                       · have := HLN.out; rw [List.length_take]; omega
                       · (first | (simp; done) | (simp; omega))
                       · omega
                       rintro v7 w7 ⟨ho7, hg7⟩
                       have HO7 := Lib.hid ho7
                       have HB7 : Hid (Below Z.heap.size Z w7) := Lib.hid (Below.grown (by (repeat (first | exact Below.refl _ _ | refine Below.drew ?_ | refine Below.alloc ?_ (by first | (simp; done) | (simp; omega)) _))) hg7 (by first | (simp; done) | (simp; omega)) (by intro q hq; injection hq with hq; subst hq; (first | (simp; done) | omega | (simp; omega))))
                       first
                       | (have HX1 := Lib.hid (one_grown (sl_drew' (slO_one (Z.alloc _) x (Z.heap.size + 1) (by simp))) hg7 (by simp)))
                       | (have HX1 := Lib.hid (one_grown (sl_drew' (sl_alloc' _ (slO_one Z x _ rfl))) hg7 (by simp)))
                       | skip
                       clear ho7 hg7
                       have hb1 := HB7.out)
                    | (refine hx_app (.tmp 57) (.tmp 62) 31 rfl (v := v7) (u := .slice (some ⟨_, 0, none⟩) 1 1) rfl rfl (app1m (base := Z.heap.size) (xs := L.take ln) (o := x) _ ?_ ?_ ?_ ?_) ?_
                       · first | exact HO7.out | exact own_alloc _ HO7.out
                       · first | exact slO_one w7 x _ rfl | exact HX1.out
                       · first | exact HB7.out.size | exact Nat.le_trans HB7.out.size (by simp)
                       · have := HLN.out; rw [List.length_take]; omega
                       rintro v8 w8 ⟨ho8, hg8⟩
                       have HO8 := Lib.hid ho8
                       have HB8 : Hid (Below Z.heap.size Z w8) := Lib.hid (by first | exact Below.grown HB7.out hg8 HB7.out.size (fun q hq => (Own.lt HO7.out q hq).1) | exact Below.grown (HB7.out.alloc HB7.out.size _) hg8 (Nat.le_trans HB7.out.size (by first | (simp; done) | (simp; omega))) (fun q hq => (Own.lt HO7.out q hq).1))
                       clear ho8 hg8
                       have hb1 := HB8.out)
                    | (refine hx_app (.tmp 63) (.tmp 66) 31 rfl (v := v8) (u := .slice (some ⟨_, 0, none⟩) 0 0) rfl rfl (app2m (base := Z.heap.size) (xs := L.take ln ++ [x]) (ys := L.drop ln) _ HO8.out ?_ ?_ HB8.out.size ?_ ?_) ?_
                       · exact SlR.mono (cut_full HSZ.out rfl) HB8.out
                       · have := HLN.out; rw [List.length_drop]; omega
                       · have := HLN.out; (first | (simp; done) | (simp; omega))
                       · omega
                       rintro v9 w9 ⟨ho9, hg9⟩
                       have HO9 := Lib.hid ho9
                       have HB9 : Hid (Below Z.heap.size Z w9) := Lib.hid (Below.grown HB8.out hg9 HB8.out.size (fun q hq => (Own.lt HO8.out q hq).1))
                       clear ho9 hg9
                       have hb1 := HB9.out))
                  first | (refine hK _ _ ?_ (fun hHeld => ?_)) | (go_wp2_with fail; refine hK _ _ ?_ (fun hHeld => ?_))
                  · first | exact GrS.alloc (by assumption) _ | exact GrS.of hb1
                  clear hK K
                  (try simp only [Act.put, List.setIfInBounds_toArray, List.set_cons_zero, List.set_cons_succ])
                  refine hx_act 14 (some 67) (by kernel_rfl) (by kernel_rfl) (by kernel_rfl) (fun K hK o ho => ?_)
                  replace ho := Option.some.inj ho
                  conv at ho => lhs; whnf
                  subst ho
                  (first
                    | (refine hx_app (.tmp 53) (.tmp 56) 31 rfl (v := .slice (some ⟨_, 0, none⟩) 0 0) (u := .slice (some ⟨_, 0, none⟩) ln ln) rfl rfl (app0 (base := Z.heap.size) (ys := L.take ln) _ ?_ ?_ ?_ ?_ ?_) ?_
                       · (first | exact own_drew (Own.empty encO 6 23 Z _ (Nat.le_refl _)) | exact own_drew (own_alloc _ (Own.empty encO 6 23 Z _ (Nat.le_refl _))) | exact own_drew (Own.emptyAt encO 6 23 (Z.alloc _) _ (Z.heap.size + 1) (by simp) (by simp)))
                       · (repeat (first | with_reducible exact (cut_lo HSZ.out HLN.out (Nat.le_refl _)) | with_reducible refine sl_drew' ?_ | with_reducible refine sl_alloc' _ ?_))
                       · have := HLN.out; rw [List.length_take]; omega
                       · (first | (simp; done) | (simp; omega))
                       · omega
                       rintro v7 w7 ⟨ho7, hg7⟩
                       have HO7 := Lib.hid ho7
                       have HB7 : Hid (Below Z.heap.size Z w7) := Lib.hid (Below.grown (by (repeat (first | exact Below.refl _ _ | refine Below.drew ?_ | refine Below.alloc ?_ (by first | (simp; done) | (simp; omega)) _))) hg7 (by first | (simp; done) | (simp; omega)) (by intro q hq; injection hq with hq; subst hq; (first | (simp; done) | omega | (simp; omega))))
                       first
                       | (have HX1 := Lib.hid (one_grown (sl_drew' (slO_one (Z.alloc _) x (Z.heap.size + 1) (by simp))) hg7 (by simp)))
                       | (have HX1 := Lib.hid (one_grown (sl_drew' (sl_alloc' _ (slO_one Z x _ rfl))) hg7 (by simp)))
                       | skip
                       clear ho7 hg7
                       have hb1 := HB7.out)
                    | (refine hx_app (.tmp 57) (.tmp 62) 31 rfl (v := v7) (u := .slice (some ⟨_, 0, none⟩) 1 1) rfl rfl (app1m (base := Z.heap.size) (xs := L.take ln) (o := x) _ ?_ ?_ ?_ ?_) ?_
                       · first | exact HO7.out | exact own_alloc _ HO7.out
                       · first | exact slO_one w7 x _ rfl | exact HX1.out
                       · first | exact HB7.out.size | exact Nat.le_trans HB7.out.size (by simp)
                       · have := HLN.out; rw [List.length_take]; omega
                       rintro v8 w8 ⟨ho8, hg8⟩
                       have HO8 := Lib.hid ho8
                       have HB8 : Hid (Below Z.heap.size Z w8) := Lib.hid (by first | exact Below.grown HB7.out hg8 HB7.out.size (fun q hq => (Own.lt HO7.out q hq).1) | exact Below.grown (HB7.out.alloc HB7.out.size _) hg8 (Nat.le_trans HB7.out.size (by first | (simp; done) | (simp; omega))) (fun q hq => (Own.lt HO7.out q hq).1))
                       clear ho8 hg8
                       have hb1 := HB8.out)
                    | (refine hx_app (.tmp 63) (.tmp 66) 31 rfl (v := v8) (u := .slice (some ⟨_, 0, none⟩) 0 0) rfl rfl (app2m (base := Z.heap.size) (xs := L.take ln ++ [x]) (ys := L.drop ln) _ HO8.out ?_ ?_ HB8.out.size ?_ ?_) ?_
                       · exact SlR.mono (cut_full HSZ.out rfl) HB8.out
                       · have := HLN.out; rw [List.length_drop]; omega
                       · have := HLN.out; (first | (simp; done) | (simp; omega))
                       · omega
                       rintro v9 w9 ⟨ho9, hg9⟩
                       have HO9 := Lib.hid ho9
                       have HB9 : Hid (Below Z.heap.size Z w9) := Lib.hid (Below.grown HB8.out hg9 HB8.out.size (fun q hq => (Own.lt HO8.out q hq).1))
                       clear ho9 hg9
                       have hb1 := HB9.out))
                  first | (refine hK _ _ ?_ (fun hHeld => ?_)) | (go_wp2_with fail; refine hK _ _ ?_ (fun hHeld => ?_))
                  · first | exact GrS.alloc (by assumption) _ | exact GrS.of hb1
                  clear hK K
                  (try simp only [Act.put, List.setIfInBounds_toArray, List.set_cons_zero, List.set_cons_succ])
                  refine hx_take 15 (some 7) ?_ (by kernel_rfl) (by kernel_rfl) (by kernel_rfl) (by kernel_rfl) (by kernel_rfl) (fun _ _ _ h => h) (by assumption) (fun o ho w hSw => ?_) ?_
                  rotate_left
                  · replace ho := Option.some.inj ho
                    conv at ho => lhs; whnf
                    subst ho
                    (try dsimp only at hSw)
                    go_simp
                    (try rfl)
                  (try simp only [Act.put, List.setIfInBounds_toArray, List.set_cons_zero, List.set_cons_succ])
                  refine wpAnyH_done (by kernel_rfl) ?_ _
                  rotate_right 2
                  all_goals
                    go_wp2
                    go_roundw
                    case rel => exact ⟨⟨k + 1, by omega, by go_num, L.take ln ++ x :: L.drop ln, Lib.hid ⟨by have := Own.weaken HO9.out (HBZ.out.size); rwa [List.append_assoc] at this, by rw [HST.out, HO.out]; exact put_perm HL.out.2.1, HROW.out⟩⟩, Lib.hid (grow_trans HBZ.out HB9.out)⟩
                    case measure => simp [intOf]; omega
                · go_wp2_with fail
                  refine wp_region_held_drew (S := fun w' => GrS Z w') (by kernel_rfl) ?_ (fun hHeld => ?_)
                  · exact GrS.start (Below.refl _ _)
                  refine hx_take 1 (some 54) ?_ (by kernel_rfl) (by kernel_rfl) (by kernel_rfl) (by kernel_rfl) (by kernel_rfl) (fun _ _ _ h => h) (by assumption) (fun o ho w hSw => ?_) ?_
                  rotate_left
                  · replace ho := Option.some.inj ho
                    conv at ho => lhs; whnf
                    subst ho
                    (try dsimp only at hSw)
                    go_simp
                    (try rfl)
                  (try simp only [Act.put, List.setIfInBounds_toArray, List.set_cons_zero, List.set_cons_succ])
                  refine hx_take 2 (some 55) ?_ (by kernel_rfl) (by kernel_rfl) (by kernel_rfl) (by kernel_rfl) (by kernel_rfl) (fun _ _ _ h => h) (by assumption) (fun o ho w hSw => ?_) ?_
                  rotate_left
                  · replace ho := Option.some.inj ho
                    conv at ho => lhs; whnf
                    subst ho
                    (try dsimp only at hSw)
                    go_simp
                    (try rfl)
                  (try simp only [Act.put, List.setIfInBounds_toArray, List.set_cons_zero, List.set_cons_succ])
                  refine hx_take 3 (some 56) ?_ (by kernel_rfl) (by kernel_rfl) (by kernel_rfl) (by kernel_rfl) (by kernel_rfl) (fun _ _ _ h => h) (by assumption) (fun o ho w hSw => ?_) ?_
                  rotate_left
                  · replace ho := Option.some.inj ho
                    conv at ho => lhs; whnf
                    subst ho
                    (try dsimp only at hSw)
                    go_simp
                    (try rfl)
                  (try simp only [Act.put, List.setIfInBounds_toArray, List.set_cons_zero, List.set_cons_succ])
                  refine hx_take 5 (some 58) ?_ (by kernel_rfl) (by kernel_rfl) (by kernel_rfl) (by kernel_rfl) (by kernel_rfl) (fun _ _ _ h => h) (by assumption) (fun o ho w hSw => ?_) ?_
                  rotate_left
                  · replace ho := Option.some.inj ho
                    conv at ho => lhs; whnf
                    subst ho
                    (try dsimp only at hSw)
                    go_simp
                    (try rfl)
                  (try simp only [Act.put, List.setIfInBounds_toArray, List.set_cons_zero, List.set_cons_succ])
                  refine hx_take 6 (some 59) ?_ (by kernel_rfl) (by kernel_rfl) (by kernel_rfl) (by kernel_rfl) (by kernel_rfl) (fun _ _ _ h => h) (by assumption) (fun o ho w hSw => ?_) ?_
                  rotate_left
                  · replace ho := Option.some.inj ho
                    conv at ho => lhs; whnf
                    subst ho
                    (try dsimp only at hSw)
                    go_simp
                    (try rfl)
                  (try simp only [Act.put, List.setIfInBounds_toArray, List.set_cons_zero, List.set_cons_succ])
                  refine hx_take 7 (some 60) ?_ (by kernel_rfl) (by kernel_rfl) (by kernel_rfl) (by kernel_rfl) (by kernel_rfl) (fun _ _ _ h => h) (by assumption) (fun o ho w hSw => ?_) ?_
                  rotate_left
                  · replace ho := Option.some.inj ho
                    conv at ho => lhs; whnf
                    subst ho
                    (try dsimp only at hSw)
                    go_simp
                    (try rfl)
                  (try simp only [Act.put, List.setIfInBounds_toArray, List.set_cons_zero, List.set_cons_succ])
                  refine hx_take 8 (some 61) ?_ (by kernel_rfl) (by kernel_rfl) (by kernel_rfl) (by kernel_rfl) (by kernel_rfl) (fun _ _ _ h => h) (by assumption) (fun o ho w hSw => ?_) ?_
                  rotate_left
                  · replace ho := Option.some.inj ho
                    conv at ho => lhs; whnf
                    subst ho
                    (try dsimp only at hSw)
                    go_simp
                    (try rfl)
                  (try simp only [Act.put, List.setIfInBounds_toArray, List.set_cons_zero, List.set_cons_succ])
                  refine hx_take 11 (some 64) ?_ (by kernel_rfl) (by kernel_rfl) (by kernel_rfl) (by kernel_rfl) (by kernel_rfl) (fun _ _ _ h => h) (by assumption) (fun o ho w hSw => ?_) ?_
                  rotate_left
                  · replace ho := Option.some.inj ho
                    conv at ho => lhs; whnf
                    subst ho
                    (try dsimp only at hSw)
                    go_simp
                    (try rfl)
                  (try simp only [Act.put, List.setIfInBounds_toArray, List.set_cons_zero, List.set_cons_succ])
                  refine hx_take 12 (some 65) ?_ (by kernel_rfl) (by kernel_rfl) (by kernel_rfl) (by kernel_rfl) (by kernel_rfl) (fun _ _ _ h => h) (by assumption) (fun o ho w hSw => ?_) ?_
                  rotate_left
                  · replace ho := Option.some.inj ho
                    conv at ho => lhs; whnf
                    subst ho
                    (try dsimp only at hSw)
                    go_simp
                    (try rfl)
                  (try simp only [Act.put, List.setIfInBounds_toArray, List.set_cons_zero, List.set_cons_succ])
                  refine hx_take 13 (some 66) ?_ (by kernel_rfl) (by kernel_rfl) (by kernel_rfl) (by kernel_rfl) (by kernel_rfl) (fun _ _ _ h => h) (by assumption) (fun o ho w hSw => ?_) ?_
                  rotate_left
                  · replace ho := Option.some.inj ho
                    conv at ho => lhs; whnf
                    subst ho
                    (try dsimp only at hSw)
                    go_simp
                    (try rfl)
                  (try simp only [Act.put, List.setIfInBounds_toArray, List.set_cons_zero, List.set_cons_succ])
                  refine hx_act2 0 9 (some 53) (some 62) (by kernel_rfl) (by kernel_rfl) (by kernel_rfl) (by kernel_rfl) (by kernel_rfl) (fun K hK o ho => ?_) (fun K hK o ho => ?_)
                  replace ho := Option.some.inj ho
                  conv at ho => lhs; whnf
                  subst ho
                  go_simp
                  first | (refine hK _ _ ?_ (fun hHeld => ?_)) | (go_wp2_with fail; refine hK _ _ ?_ (fun hHeld => ?_))
                  · first | exact GrS.alloc (by assumption) _ | exact GrS.of hb1
                  clear hK K
                  (try simp only [Act.put, List.setIfInBounds_toArray, List.set_cons_zero, List.set_cons_succ])
                  refine hx_act2 4 9 (some 57) (some 62) (by kernel_rfl) (by kernel_rfl) (by kernel_rfl) (by kernel_rfl) (by kernel_rfl) (fun K hK o ho => ?_) (fun K hK o ho => ?_)
                  replace ho := Option.some.inj ho
                  conv at ho => lhs; whnf
                  subst ho
                  (first
                    | (refine hx_app (.tmp 53) (.tmp 56) 31 rfl (v := .slice (some ⟨_, 0, none⟩) 0 0) (u := .slice (some ⟨_, 0, none⟩) m co) rfl rfl (app0 (base := Z.heap.size) (ys := L.take m) _ ?_ ?_ ?_ ?_ ?_) ?_
                       · (first | exact own_drew (Own.empty encO 6 23 Z _ (Nat.le_refl _)) | exact own_drew (own_alloc _ (Own.empty encO 6 23 Z _ (Nat.le_refl _))) | exact own_drew (Own.emptyAt encO 6 23 (Z.alloc _) _ (Z.heap.size + 1) (by simp) (by simp)))
                       · (repeat (first | with_reducible exact (cut_lo HSZ.out HLN.out (by omega)) | with_reducible refine sl_drew' ?_ | with_reducible refine sl_alloc' _ ?_))
                       · have := HLN.out; rw [List.length_take]; omega
                       · (first | (simp; done) | (simp; omega))
                       · omega
                       rintro v7 w7 ⟨ho7, hg7⟩
                       have HO7 := Lib.hid ho7
                       have HB7 : Hid (Below Z.heap.size Z w7) := Lib.hid (Below.grown (by (repeat (first | exact Below.refl _ _ | refine Below.drew ?_ | refine Below.alloc ?_ (by first | (simp; done) | (simp; omega)) _))) hg7 (by first | (simp; done) | (simp; omega)) (by intro q hq; injection hq with hq; subst hq; (first | (simp; done) | omega | (simp; omega))))
                       first
                       | (have HX1 := Lib.hid (one_grown (sl_drew' (slO_one (Z.alloc _) x (Z.heap.size + 1) (by simp))) hg7 (by simp)))
                       | (have HX1 := Lib.hid (one_grown (sl_drew' (sl_alloc' _ (slO_one Z x _ rfl))) hg7 (by simp)))
                       | skip
                       clear ho7 hg7
                       have hb1 := HB7.out)
                    | (refine hx_app (.tmp 57) (.tmp 62) 31 rfl (v := v7) (u := .slice (some ⟨_, 0, none⟩) 1 1) rfl rfl (app1m (base := Z.heap.size) (xs := L.take m) (o := x) _ ?_ ?_ ?_ ?_) ?_
                       · first | exact HO7.out | exact own_alloc _ HO7.out
                       · first | exact slO_one w7 x _ rfl | exact HX1.out
                       · first | exact HB7.out.size | exact Nat.le_trans HB7.out.size (by simp)
                       · have := HLN.out; rw [List.length_take]; omega
                       rintro v8 w8 ⟨ho8, hg8⟩
                       have HO8 := Lib.hid ho8
                       have HB8 : Hid (Below Z.heap.size Z w8) := Lib.hid (by first | exact Below.grown HB7.out hg8 HB7.out.size (fun q hq => (Own.lt HO7.out q hq).1) | exact Below.grown (HB7.out.alloc HB7.out.size _) hg8 (Nat.le_trans HB7.out.size (by first | (simp; done) | (simp; omega))) (fun q hq => (Own.lt HO7.out q hq).1))
                       clear ho8 hg8
                       have hb1 := HB8.out)
                    | (refine hx_app (.tmp 63) (.tmp 66) 31 rfl (v := v8) (u := .slice (some ⟨_, m * 6, none⟩) (ln - m) (co - m)) rfl rfl (app2m (base := Z.heap.size) (xs := L.take m ++ [x]) (ys := L.drop m) _ HO8.out ?_ ?_ HB8.out.size ?_ ?_) ?_
                       · exact SlR.mono (cut_hi HSZ.out HLN.out (by omega)) HB8.out
                       · have := HLN.out; rw [List.length_drop]; omega
                       · have := HLN.out; (first | (simp; done) | (simp; omega))
                       · omega
                       rintro v9 w9 ⟨ho9, hg9⟩
                       have HO9 := Lib.hid ho9
                       have HB9 : Hid (Below Z.heap.size Z w9) := Lib.hid (Below.grown HB8.out hg9 HB8.out.size (fun q hq => (Own.lt HO8.out q hq).1))
                       clear ho9 hg9
                       have hb1 := HB9.out))
                  first | (refine hK _ _ ?_ (fun hHeld => ?_)) | (go_wp2_with fail; refine hK _ _ ?_ (fun hHeld => ?_))
                  · first | exact GrS.alloc (by assumption) _ | exact GrS.of hb1
                  clear hK K
                  (try simp only [Act.put, List.setIfInBounds_toArray, List.set_cons_zero, List.set_cons_succ])
                  refine hx_act 9 (some 62) (by kernel_rfl) (by kernel_rfl) (by kernel_rfl) (fun K hK o ho => ?_)
                  replace ho := Option.some.inj ho
                  conv at ho => lhs; whnf
                  subst ho
                  go_simp
                  first | (refine hK _ _ ?_ (fun hHeld => ?_)) | (go_wp2_with fail; refine hK _ _ ?_ (fun hHeld => ?_))
                  · first | exact GrS.alloc (by assumption) _ | exact GrS.of hb1
                  clear hK K
                  (try simp only [Act.put, List.setIfInBounds_toArray, List.set_cons_zero, List.set_cons_succ])
                  refine hx_act 10 (some 63) (by kernel_rfl) (by kernel_rfl) (by kernel_rfl) (fun K hK o ho => ?_)
                  replace ho := Option.some.inj ho
                  conv at ho => lhs; whnf
                  subst ho
                  (first
                    | (refine hx_app (.tmp 53) (.tmp 56) 31 rfl (v := .slice (some ⟨_, 0, none⟩) 0 0) (u := .slice (some ⟨_, 0, none⟩) m co) rfl rfl (app0 (base := Z.heap.size) (ys := L.take m) _ ?_ ?_ ?_ ?_ ?_) ?_
                       · (first | exact own_drew (Own.empty encO 6 23 Z _ (Nat.le_refl _)) | exact own_drew (own_alloc _ (Own.empty encO 6 23 Z _ (Nat.le_refl _))) | exact own_drew (Own.emptyAt encO 6 23 (Z.alloc _) _ (Z.heap.size + 1) (by simp) (by simp)))
                       · (repeat (first | with_reducible exact (cut_lo HSZ.out HLN.out (by omega)) | with_reducible refine sl_drew' ?_ | with_reducible refine sl_alloc' _ ?_))
                       · have := HLN.out; rw [List.length_take]; omega
                       · (first | (simp; done) | (simp; omega))
                       · omega
                       rintro v7 w7 ⟨ho7, hg7⟩
                       have HO7 := Lib.hid ho7
                       have HB7 : Hid (Below Z.heap.size Z w7) := Lib.hid (Below.grown (by (repeat (first | exact Below.refl _ _ | refine Below.drew ?_ | refine Below.alloc ?_ (by first | (simp; done) | (simp; omega)) _))) hg7 (by first | (simp; done) | (simp; omega)) (by intro q hq; injection hq with hq; subst hq; (first | (simp; done) | omega | (simp; omega))))
                       first
                       | (have HX1 := Lib.hid (one_grown (sl_drew' (slO_one (Z.alloc _) x (Z.heap.size + 1) (by simp))) hg7 (by simp)))
                       | (have HX1 := Lib.hid (one_grown (sl_drew' (sl_alloc' _ (slO_one Z x _ rfl))) hg7 (by simp)))
                       | skip
                       clear ho7 hg7
                       have hb1 := HB7.out)
                    | (refine hx_app (.tmp 57) (.tmp 62) 31 rfl (v := v7) (u := .slice (some ⟨_, 0, none⟩) 1 1) rfl rfl (app1m (base := Z.heap.size) (xs := L.take m) (o := x) _ ?_ ?_ ?_ ?_) ?_
                       · first | exact HO7.out | exact own_alloc _ HO7.out
                       · first | exact slO_one w7 x _ rfl | exact HX1.out
                       · first | exact HB7.out.size | exact Nat.le_trans HB7.out.size (by simp)
                       · have := HLN.out; rw [List.length_take]; omega
                       rintro v8 w8 ⟨ho8, hg8⟩
                       have HO8 := Lib.hid ho8
                       have HB8 : Hid (Below Z.heap.size Z w8) := Lib.hid (by first | exact Below.grown HB7.out hg8 HB7.out.size (fun q hq => (Own.lt HO7.out q hq).1) | exact Below.grown (HB7.out.alloc HB7.out.size _) hg8 (Nat.le_trans HB7.out.size (by first | (simp; done) | (simp; omega))) (fun q hq => (Own.lt HO7.out q hq).1))
                       clear ho8 hg8
                       have hb1 := HB8.out)
                    | (refine hx_app (.tmp 63) (.tmp 66) 31 rfl (v := v8) (u := .slice (some ⟨_, m * 6, none⟩) (ln - m) (co - m)) rfl rfl (app2m (base := Z.heap.size) (xs := L.take m ++ [x]) (ys := L.drop m) _ HO8.out ?_ ?_ HB8.out.size ?_ ?_) ?_
                       · exact SlR.mono (cut_hi HSZ.out HLN.out (by omega)) HB8.out
                       · have := HLN.out; rw [List.length_drop]; omega
                       · have := HLN.out; (first | (simp; done) | (simp; omega))
                       · omega
                       rintro v9 w9 ⟨ho9, hg9⟩
                       have HO9 := Lib.hid ho9
                       have HB9 : Hid (Below Z.heap.size Z w9) := Lib.hid (Below.grown HB8.out hg9 HB8.out.size (fun q hq => (Own.lt HO8.out q hq).1))
                       clear ho9 hg9
                       have hb1 := HB9.out))
                  first | (refine hK _ _ ?_ (fun hHeld => ?_)) | (go_wp2_with fail; refine hK _ _ ?_ (fun hHeld => ?_))
                  · first | exact GrS.alloc (by assumption) _ | exact GrS.of hb1
                  clear hK K
                  (try simp only [Act.put, List.setIfInBounds_toArray, List.set_cons_zero, List.set_cons_succ])
                  refine hx_act 14 (some 67) (by kernel_rfl) (by kernel_rfl) (by kernel_rfl) (fun K hK o ho => ?_)
                  replace ho := Option.some.inj ho
                  conv at ho => lhs; whnf
                  subst ho
                  (first
                    | (refine hx_app (.tmp 53) (.tmp 56) 31 rfl (v := .slice (some ⟨_, 0, none⟩) 0 0) (u := .slice (some ⟨_, 0, none⟩) m co) rfl rfl (app0 (base := Z.heap.size) (ys := L.take m) _ ?_ ?_ ?_ ?_ ?_) ?_
                       · (first | exact own_drew (Own.empty encO 6 23 Z _ (Nat.le_refl _)) | exact own_drew (own_alloc _ (Own.empty encO 6 23 Z _ (Nat.le_refl _))) | exact own_drew (Own.emptyAt encO 6 23 (Z.alloc _) _ (Z.heap.size + 1) (by simp) (by simp)))
                       · (repeat (first | with_reducible exact (cut_lo HSZ.out HLN.out (by omega)) | with_reducible refine sl_drew' ?_ | with_reducible refine sl_alloc' _ ?_))
                       · have := HLN.out; rw [List.length_take]; omega
                       · (first | (simp; done) | (simp; omega))
                       · omega
                       rintro v7 w7 ⟨ho7, hg7⟩
                       have HO7 := Lib.hid ho7
                       have HB7 : Hid (Below Z.heap.size Z w7) := Lib.hid (Below.grown (by (repeat (first | exact Below.refl _ _ | refine Below.drew ?_ | refine Below.alloc ?_ (by first | (simp; done) | (simp; omega)) _))) hg7 (by first | (simp; done) | (simp; omega)) (by intro q hq; injection hq with hq; subst hq; (first | (simp; done) | omega | (simp; omega))))
                       first
                       | (have HX1 := Lib.hid (one_grown (sl_drew' (slO_one (Z.alloc _) x (Z.heap.size + 1) (by simp))) hg7 (by simp)))
                       | (have HX1 := Lib.hid (one_grown (sl_drew' (sl_alloc' _ (slO_one Z x _ rfl))) hg7 (by simp)))
                       | skip
                       clear ho7 hg7
                       have hb1 := HB7.out)
                    | (refine hx_app (.tmp 57) (.tmp 62) 31 rfl (v := v7) (u := .slice (some ⟨_, 0, none⟩) 1 1) rfl rfl (app1m (base := Z.heap.size) (xs := L.take m) (o := x) _ ?_ ?_ ?_ ?_) ?_
                       · first | exact HO7.out | exact own_alloc _ HO7.out
                       · first | exact slO_one w7 x _ rfl | exact HX1.out
                       · first | exact HB7.out.size | exact Nat.le_trans HB7.out.size (by simp)
                       · have := HLN.out; rw [List.length_take]; omega
                       rintro v8 w8 ⟨ho8, hg8⟩
                       have HO8 := Lib.hid ho8
                       have HB8 : Hid (Below Z.heap.size Z w8) := Lib.hid (by first | exact Below.grown HB7.out hg8 HB7.out.size (fun q hq => (Own.lt HO7.out q hq).1) | exact Below.grown (HB7.out.alloc HB7.out.size _) hg8 (Nat.le_trans HB7.out.size (by first | (simp; done) | (simp; omega))) (fun q hq => (Own.lt HO7.out q hq).1))
                       clear ho8 hg8
                       have hb1 := HB8.out)
                    | (refine hx_app (.tmp 63) (.tmp 66) 31 rfl (v := v8) (u := .slice (some ⟨_, m * 6, none⟩) (ln - m) (co - m)) rfl rfl (app2m (base := Z.heap.size) (xs := L.take m ++ [x]) (ys := L.drop m) _ HO8.out ?_ ?_ HB8.out.size ?_ ?_) ?_
                       · exact SlR.mono (cut_hi HSZ.out HLN.out (by omega)) HB8.out
                       · have := HLN.out; rw [List.length_drop]; omega
                       · have := HLN.out; (first | (simp; done) | (simp; omega))
                       · omega
                       rintro v9 w9 ⟨ho9, hg9⟩
                       have HO9 := Lib.hid ho9
                       have HB9 : Hid (Below Z.heap.size Z w9) := Lib.hid (Below.grown HB8.out hg9 HB8.out.size (fun q hq => (Own.lt HO8.out q hq).1))
                       clear ho9 hg9
                       have hb1 := HB9.out))
                  first | (refine hK _ _ ?_ (fun hHeld => ?_)) | (go_wp2_with fail; refine hK _ _ ?_ (fun hHeld => ?_))
                  · first | exact GrS.alloc (by assumption) _ | exact GrS.of hb1
                  clear hK K
                  (try simp only [Act.put, List.setIfInBounds_toArray, List.set_cons_zero, List.set_cons_succ])
                  refine hx_take 15 (some 7) ?_ (by kernel_rfl) (by kernel_rfl) (by kernel_rfl) (by kernel_rfl) (by kernel_rfl) (fun _ _ _ h => h) (by assumption) (fun o ho w hSw => ?_) ?_
                  rotate_left
                  · replace ho := Option.some.inj ho
                    conv at ho => lhs; whnf
                    subst ho
                    (try dsimp only at hSw)
                    go_simp
                    (try rfl)
                  (try simp only [Act.put, List.setIfInBounds_toArray, List.set_cons_zero, List.set_cons_succ])
                  refine wpAnyH_done (by kernel_rfl) ?_ _
                  rotate_left 1
                  replace ho := Option.some.inj ho
                  conv at ho => lhs; whnf
                  subst ho
                  go_simp
                  first | (refine hK _ _ ?_ (fun hHeld => ?_)) | (go_wp2_with fail; refine hK _ _ ?_ (fun hHeld => ?_))
                  · first | exact GrS.alloc (by assumption) _ | exact GrS.of hb1
                  clear hK K
                  (try simp only [Act.put, List.setIfInBounds_toArray, List.set_cons_zero, List.set_cons_succ])
                  refine hx_act 4 (some 57) (by kernel_rfl) (by kernel_rfl) (by kernel_rfl) (fun K hK o ho => ?_)
                  replace ho := Option.some.inj ho
                  conv at ho => lhs; whnf
                  subst ho
                  (first
                    | (refine hx_app (.tmp 53) (.tmp 56) 31 rfl (v := .slice (some ⟨_, 0, none⟩) 0 0) (u := .slice (some ⟨_, 0, none⟩) m co) rfl rfl (app0 (base := Z.heap.size) (ys := L.take m) _ ?_ ?_ ?_ ?_ ?_) ?_
                       · (first | exact own_drew (Own.empty encO 6 23 Z _ (Nat.le_refl _)) | exact own_drew (own_alloc _ (Own.empty encO 6 23 Z _ (Nat.le_refl _))) | exact own_drew (Own.emptyAt encO 6 23 (Z.alloc _) _ (Z.heap.size + 1) (by simp) (by simp)))
                       · (repeat (first | with_reducible exact (cut_lo HSZ.out HLN.out (by omega)) | with_reducible refine sl_drew' ?_ | with_reducible refine sl_alloc' _ ?_))
                       · have := HLN.out; rw [List.length_take]; omega
                       · (first | (simp; done) | (simp; omega))
                       · omega
                       rintro v7 w7 ⟨ho7, hg7⟩
                       have HO7 := Lib.hid ho7
                       have HB7 : Hid (Below Z.heap.size Z w7) := Lib.hid (Below.grown (by (repeat (first | exact Below.refl _ _ | refine Below.drew ?_ | refine Below.alloc ?_ (by first | (simp; done) | (simp; omega)) _))) hg7 (by first | (simp; done) | (simp; omega)) (by intro q hq; injection hq with hq; subst hq; (first | (simp; done) | omega | (simp; omega))))
                       first
                       | (have HX1 := Lib.hid (one_grown (sl_drew' (slO_one (Z.alloc _) x (Z.heap.size + 1) (by simp))) hg7 (by simp)))
                       | (have HX1 := Lib.hid (one_grown (sl_drew' (sl_alloc' _ (slO_one Z x _ rfl))) hg7 (by simp)))
                       | skip
                       clear ho7 hg7
                       have hb1 := HB7.out)
                    | (refine hx_app (.tmp 57) (.tmp 62) 31 rfl (v := v7) (u := .slice (some ⟨_, 0, none⟩) 1 1) rfl rfl (app1m (base := Z.heap.size) (xs := L.take m) (o := x) _ ?_ ?_ ?_ ?_) ?_
                       · first | exact HO7.out | exact own_alloc _ HO7.out
                       · first | exact slO_one w7 x _ rfl | exact HX1.out
                       · first | exact HB7.out.size | exact Nat.le_trans HB7.out.size (by simp)
                       · have := HLN.out; rw [List.length_take]; omega
                       rintro v8 w8 ⟨ho8, hg8⟩
                       have HO8 := Lib.hid ho8
                       have HB8 : Hid (Below Z.heap.size Z w8) := Lib.hid (by first | exact Below.grown HB7.out hg8 HB7.out.size (fun q hq => (Own.lt HO7.out q hq).1) | exact Below.grown (HB7.out.alloc HB7.out.size _) hg8 (Nat.le_trans HB7.out.size (by first | (simp; done) | (simp; omega))) (fun q hq => (Own.lt HO7.out q hq).1))
                       clear ho8 hg8
                       have hb1 := HB8.out)
                    | (refine hx_app (.tmp 63) (.tmp 66) 31 rfl (v := v8) (u := .slice (some ⟨_, m * 6, none⟩) (ln - m) (co - m)) rfl rfl (app2m (base := Z.heap.size) (xs := L.take m ++ [x]) (ys := L.drop m) _ HO8.out ?_ ?_ HB8.out.size ?_ ?_) ?_
                       · exact SlR.mono (cut_hi HSZ.out HLN.out (by omega)) HB8.out
                       · have := HLN.out; rw [List.length_drop]; omega
                       · have := HLN.out; (first | (simp; done) | (simp; omega))
                       · omega
                       rintro v9 w9 ⟨ho9, hg9⟩
                       have HO9 := Lib.hid ho9
                       have HB9 : Hid (Below Z.heap.size Z w9) := Lib.hid (Below.grown HB8.out hg9 HB8.out.size (fun q hq => (Own.lt HO8.out q hq).1))
                       clear ho9 hg9
                       have hb1 := HB9.out))
                  first | (refine hK _ _ ?_ (fun hHeld => ?_)) | (go_wp2_with fail; refine hK _ _ ?_ (fun hHeld => ?_))
                  · first | exact GrS.alloc (by assumption) _ | exact GrS.of hb1
                  clear hK K
                  (try simp only [Act.put, List.setIfInBounds_toArray, List.set_cons_zero, List.set_cons_succ])
                  refine hx_act 10 (some 63) (by kernel_rfl) (by kernel_rfl) (by kernel_rfl) (fun K hK o ho => ?_)
                  replace ho := Option.some.inj ho
                  conv at ho => lhs; whnf
                  subst ho
                  (first
                    | (refine hx_app (.tmp 53) (.tmp 56) 31 rfl (v := .slice (some ⟨_, 0, none⟩) 0 0) (u := .slice (some ⟨_, 0, none⟩) m co) rfl rfl (app0 (base := Z.heap.size) (ys := L.take m) _ ?_ ?_ ?_ ?_ ?_) ?_
                       · (first | exact own_drew (Own.empty encO 6 23 Z _ (Nat.le_refl _)) | exact own_drew (own_alloc _ (Own.empty encO 6 23 Z _ (Nat.le_refl _))) | exact own_drew (Own.emptyAt encO 6 23 (Z.alloc _) _ (Z.heap.size + 1) (by simp) (by simp)))
                       · (repeat (first | with_reducible exact (cut_lo HSZ.out HLN.out (by omega)) | with_reducible refine sl_drew' ?_ | with_reducible refine sl_alloc' _ ?_))
                       · have := HLN.out; rw [List.length_take]; omega
                       · (first | (simp; done) | (simp; omega))
                       · omega
                       rintro v7 w7 ⟨ho7, hg7⟩
                       have HO7 := Lib.hid ho7
                       have HB7 : Hid (Below Z.heap.size Z w7) := Lib.hid (Below.grown (by (repeat (first | exact Below.refl _ _ | refine Below.drew ?_ | refine Below.alloc ?_ (by first | (simp; done) | (simp; omega)) _))) hg7 (by first | (simp; done) | (simp; omega)) (by intro q hq; injection hq with hq; subst hq; (first | (simp; done) | omega | (simp; omega))))
                       first
                       | (have HX1 := Lib.hid (one_grown (sl_drew' (slO_one (Z.alloc _) x (Z.heap.size + 1) (by simp))) hg7 (by simp)))
                       | (have HX1 := Lib.hid (one_grown (sl_drew' (sl_alloc' _ (slO_one Z x _ rfl))) hg7 (by simp)))
                       | skip
                       clear ho7 hg7
                       have hb1 := HB7.out)
                    | (refine hx_app (.tmp 57) (.tmp 62) 31 rfl (v := v7) (u := .slice (some ⟨_, 0, none⟩) 1 1) rfl rfl (app1m (base := Z.heap.size) (xs := L.take m) (o := x) _ ?_ ?_ ?_ ?_) ?_
                       · first | exact HO7.out | exact own_alloc _ HO7.out
                       · first | exact slO_one w7 x _ rfl | exact HX1.out
                       · first | exact HB7.out.size | exact Nat.le_trans HB7.out.size (by simp)
                       · have := HLN.out; rw [List.length_take]; omega
                       rintro v8 w8 ⟨ho8, hg8⟩
                       have HO8 := Lib.hid ho8
                       have HB8 : Hid (Below Z.heap.size Z w8) := Lib.hid (by first | exact Below.grown HB7.out hg8 HB7.out.size (fun q hq => (Own.lt HO7.out q hq).1) | exact Below.grown (HB7.out.alloc HB7.out.size _) hg8 (Nat.le_trans HB7.out.size (by first | (simp; done) | (simp; omega))) (fun q hq => (Own.lt HO7.out q hq).1))
                       clear ho8 hg8
                       have hb1 := HB8.out)
                    | (refine hx_app (.tmp 63) (.tmp 66) 31 rfl (v := v8) (u := .slice (some ⟨_, m * 6, none⟩) (ln - m) (co - m)) rfl rfl (app2m (base := Z.heap.size) (xs := L.take m ++ [x]) (ys := L.drop m) _ HO8.out ?_ ?_ HB8.out.size ?_ ?_) ?_
                       · exact SlR.mono (cut_hi HSZ.out HLN.out (by omega)) HB8.out
                       · have := HLN.out; rw [List.length_drop]; omega
                       · have := HLN.out; (first | (simp; done) | (simp; omega))
                       · omega
                       rintro v9 w9 ⟨ho9, hg9⟩
                       have HO9 := Lib.hid ho9
                       have HB9 : Hid (Below Z.heap.size Z w9) := Lib.hid (Below.grown HB8.out hg9 HB8.out.size (fun q hq => (Own.lt HO8.out q hq).1))
                       clear ho9 hg9
                       have hb1 := HB9.out))
                  first | (refine hK _ _ ?_ (fun hHeld => ?_)) | (go_wp2_with fail; refine hK _ _ ?_ (fun hHeld => ?_))
                  · first | exact GrS.alloc (by assumption) _ | exact GrS.of hb1
                  clear hK K
                  (try simp only [Act.put, List.setIfInBounds_toArray, List.set_cons_zero, List.set_cons_succ])
                  refine hx_act 14 (some 67) (by kernel_rfl) (by kernel_rfl) (by kernel_rfl) (fun K hK o ho => ?_)
                  replace ho := Option.some.inj ho
                  conv at ho => lhs; whnf
                  subst ho
                  (first
                    | (refine hx_app (.tmp 53) (.tmp 56) 31 rfl (v := .slice (some ⟨_, 0, none⟩) 0 0) (u := .slice (some ⟨_, 0, none⟩) m co) rfl rfl (app0 (base := Z.heap.size) (ys := L.take m) _ ?_ ?_ ?_ ?_ ?_) ?_
                       · (first | exact own_drew (Own.empty encO 6 23 Z _ (Nat.le_refl _)) | exact own_drew (own_alloc _ (Own.empty encO 6 23 Z _ (Nat.le_refl _))) | exact own_drew (Own.emptyAt encO 6 23 (Z.alloc _) _ (Z.heap.size + 1) (by simp) (by simp)))
                       · (repeat (first | with_reducible exact (cut_lo HSZ.out HLN.out (by omega)) | with_reducible refine sl_drew' ?_ | with_reducible refine sl_alloc' _ ?_))
                       · have := HLN.out; rw [List.length_take]; omega
                       · (first | (simp; done) | (simp; omega))
                       · omega
                       rintro v7 w7 ⟨ho7, hg7⟩
                       have HO7 := Lib.hid ho7
                       have HB7 : Hid (Below Z.heap.size Z w7) := Lib.hid (Below.grown (by (repeat (first | exact Below.refl _ _ | refine Below.drew ?_ | refine Below.alloc ?_ (by first | (simp; done) | (simp; omega)) _))) hg7 (by first | (simp; done) | (simp; omega)) (by intro q hq; injection hq with hq; subst hq; (first | (simp; done) | omega | (simp; omega))))
                       first
                       | (have HX1 := Lib.hid (one_grown (sl_drew' (slO_one (Z.alloc _) x (Z.heap.size + 1) (by simp))) hg7 (by simp)))
                       | (have HX1 := Lib.hid (one_grown (sl_drew' (sl_alloc' _ (slO_one Z x _ rfl))) hg7 (by simp)))
                       | skip
                       clear ho7 hg7
                       have hb1 := HB7.out)
                    | (refine hx_app (.tmp 57) (.tmp 62) 31 rfl (v := v7) (u := .slice (some ⟨_, 0, none⟩) 1 1) rfl rfl (app1m (base := Z.heap.size) (xs := L.take m) (o := x) _ ?_ ?_ ?_ ?_) ?_
                       · first | exact HO7.out | exact own_alloc _ HO7.out
                       · first | exact slO_one w7 x _ rfl | exact HX1.out
                       · first | exact HB7.out.size | exact Nat.le_trans HB7.out.size (by simp)
                       · have := HLN.out; rw [List.length_take]; omega
                       rintro v8 w8 ⟨ho8, hg8⟩
                       have HO8 := Lib.hid ho8
                       have HB8 : Hid (Below Z.heap.size Z w8) := Lib.hid (by first | exact Below.grown HB7.out hg8 HB7.out.size (fun q hq => (Own.lt HO7.out q hq).1) | exact Below.grown (HB7.out.alloc HB7.out.size _) hg8 (Nat.le_trans HB7.out.size (by first | (simp; done) | (simp; omega))) (fun q hq => (Own.lt HO7.out q hq).1))
                       clear ho8 hg8
                       have hb1 := HB8.out)
                    | (refine hx_app (.tmp 63) (.tmp 66) 31 rfl (v := v8) (u := .slice (some ⟨_, m * 6, none⟩) (ln - m) (co - m)) rfl rfl (app2m (base := Z.heap.size) (xs := L.take m ++ [x]) (ys := L.drop m) _ HO8.out ?_ ?_ HB8.out.size ?_ ?_) ?_
                       · exact SlR.mono (cut_hi HSZ.out HLN.out (by omega)) HB8.out
                       · have := HLN.out; rw [List.length_drop]; omega
                       · have := HLN.out; (first | (simp; done) | (simp; omega))
                       · omega
                       rintro v9 w9 ⟨ho9, hg9⟩
                       have HO9 := Lib.hid ho9
                       have HB9 : Hid (Below Z.heap.size Z w9) := Lib.hid (Below.grown HB8.out hg9 HB8.out.size (fun q hq => (Own.lt HO8.out q hq).1))
                       clear ho9 hg9
                       have hb1 := HB9.out))
                  first | (refine hK _ _ ?_ (fun hHeld => ?_)) | (go_wp2_with fail; refine hK _ _ ?_ (fun hHeld => ?_))
                  · first | exact GrS.alloc (by assumption) _ | exact GrS.of hb1
                  clear hK K
                  (try simp only [Act.put, List.setIfInBounds_toArray, List.set_cons_zero, List.set_cons_succ])
                  refine hx_take 15 (some 7) ?_ (by kernel_rfl) (by kernel_rfl) (by kernel_rfl) (by kernel_rfl) (by kernel_rfl) (fun _ _ _ h => h) (by assumption) (fun o ho w hSw => ?_) ?_
                  rotate_left
                  · replace ho := Option.some.inj ho
                    conv at ho => lhs; whnf
                    subst ho
                    (try dsimp only at hSw)
                    go_simp
                    (try rfl)
                  (try simp only [Act.put, List.setIfInBounds_toArray, List.set_cons_zero, List.set_cons_succ])
                  refine wpAnyH_done (by kernel_rfl) ?_ _
                  rotate_right 1
                  rotate_left 2
                  replace ho := Option.some.inj ho
                  conv at ho => lhs; whnf
                  subst ho
                  go_simp
                  first | (refine hK _ _ ?_ (fun hHeld => ?_)) | (go_wp2_with fail; refine hK _ _ ?_ (fun hHeld => ?_))
                  · first | exact GrS.alloc (by assumption) _ | exact GrS.of hb1
                  clear hK K
                  (try simp only [Act.put, List.setIfInBounds_toArray, List.set_cons_zero, List.set_cons_succ])
                  refine hx_act 0 (some 53) (by kernel_rfl) (by kernel_rfl) (by kernel_rfl) (fun K hK o ho => ?_)
                  replace ho := Option.some.inj ho
                  conv at ho => lhs; whnf
                  subst ho
                  go_simp
                  first | (refine hK _ _ ?_ (fun hHeld => ?_)) | (go_wp2_with fail; refine hK _ _ ?_ (fun hHeld => ?_))
                  · first | exact GrS.alloc (by assumption) _ | exact GrS.of hb1
                  clear hK K
                  (try simp only [Act.put, List.setIfInBounds_toArray, List.set_cons_zero, List.set_cons_succ])
                  refine hx_act 4 (some 57) (by kernel_rfl) (by kernel_rfl) (by kernel_rfl) (fun K hK o ho => ?_)
                  replace ho := Option.some.inj ho
                  conv at ho => lhs; whnf
                  subst ho
                  (first
                    | (refine hx_app (.tmp 53) (.tmp 56) 31 rfl (v := .slice (some ⟨_, 0, none⟩) 0 0) (u := .slice (some ⟨_, 0, none⟩) m co) rfl rfl (app0 (base := Z.heap.size) (ys := L.take m) _ ?_ ?_ ?_ ?_ ?_) ?_
                       · (first | exact own_drew (Own.empty encO 6 23 Z _ (Nat.le_refl _)) | exact own_drew (own_alloc _ (Own.empty encO 6 23 Z _ (Nat.le_refl _))) | exact own_drew (Own.emptyAt encO 6 23 (Z.alloc _) _ (Z.heap.size + 1) (by simp) (by simp)))
                       · (repeat (first | with_reducible exact (cut_lo HSZ.out HLN.out (by omega)) | with_reducible refine sl_drew' ?_ | with_reducible refine sl_alloc' _ ?_))
                       · have := HLN.out; rw [List.length_take]; omega
                       · (first | (simp; done) | (simp; omega))
                       · omega
                       rintro v7 w7 ⟨ho7, hg7⟩
                       have HO7 := Lib.hid ho7
                       have HB7 : Hid (Below Z.heap.size Z w7) := Lib.hid (Below.grown (by (repeat (first | exact Below.refl _ _ | refine Below.drew ?_ | refine Below.alloc ?_ (by first | (simp; done) | (simp; omega)) _))) hg7 (by first | (simp; done) | (simp; omega)) (by intro q hq; injection hq with hq; subst hq; (first | (simp; done) | omega | (simp; omega))))
                       first
                       | (have HX1 := Lib.hid (one_grown (sl_drew' (slO_one (Z.alloc _) x (Z.heap.size + 1) (by simp))) hg7 (by simp)))
                       | (have HX1 := Lib.hid (one_grown (sl_drew' (sl_alloc' _ (slO_one Z x _ rfl))) hg7 (by simp)))
                       | skip
                       clear ho7 hg7
                       have hb1 := HB7.out)
                    | (refine hx_app (.tmp 57) (.tmp 62) 31 rfl (v := v7) (u := .slice (some ⟨_, 0, none⟩) 1 1) rfl rfl (app1m (base := Z.heap.size) (xs := L.take m) (o := x) _ ?_ ?_ ?_ ?_) ?_
                       · first | exact HO7.out | exact own_alloc _ HO7.out
                       · first | exact slO_one w7 x _ rfl | exact HX1.out
                       · first | exact HB7.out.size | exact Nat.le_trans HB7.out.size (by simp)
                       · have := HLN.out; rw [List.length_take]; omega
                       rintro v8 w8 ⟨ho8, hg8⟩
                       have HO8 := Lib.hid ho8
                       have HB8 : Hid (Below Z.heap.size Z w8) := Lib.hid (by first | exact Below.grown HB7.out hg8 HB7.out.size (fun q hq => (Own.lt HO7.out q hq).1) | exact Below.grown (HB7.out.alloc HB7.out.size _) hg8 (Nat.le_trans HB7.out.size (by first | (simp; done) | (simp; omega))) (fun q hq => (Own.lt HO7.out q hq).1))
                       clear ho8 hg8
                       have hb1 := HB8.out)
                    | (refine hx_app (.tmp 63) (.tmp 66) 31 rfl (v := v8) (u := .slice (some ⟨_, m * 6, none⟩) (ln - m) (co - m)) rfl rfl (app2m (base := Z.heap.size) (xs := L.take m ++ [x]) (ys := L.drop m) _ HO8.out ?_ ?_ HB8.out.size ?_ ?_) ?_
                       · exact SlR.mono (cut_hi HSZ.out HLN.out (by omega)) HB8.out
                       · have := HLN.out; rw [List.length_drop]; omega
                       · have := HLN.out; (first | (simp; done) | (simp; omega))
                       · omega
                       rintro v9 w9 ⟨ho9, hg9⟩
                       have HO9 := Lib.hid ho9
                       have HB9 : Hid (Below Z.heap.size Z w9) := Lib.hid (Below.grown HB8.out hg9 HB8.out.size (fun q hq => (Own.lt HO8.out q hq).1))
                       clear ho9 hg9
                       have hb1 := HB9.out))
                  first | (refine hK _ _ ?_ (fun hHeld => ?_)) | (go_wp2_with fail; refine hK _ _ ?_ (fun hHeld => ?_))
                  · first | exact GrS.alloc (by assumption) _ | exact GrS.of hb1
                  clear hK K
                  (try simp only [Act.put, List.setIfInBounds_toArray, List.set_cons_zero, List.set_cons_succ])
                  refine hx_act 10 (some 63) (by kernel_rfl) (by kernel_rfl) (by kernel_rfl) (fun K hK o ho => ?_)
                  replace ho := Option.some.inj ho
                  conv at ho => lhs; whnf
                  subst ho
                  (first
                    | (refine hx_app (.tmp 53) (.tmp 56) 31 rfl (v := .slice (some ⟨_, 0, none⟩) 0 0) (u := .slice (some ⟨_, 0, none⟩) m co) rfl rfl (app0 (base := Z.heap.size) (ys := L.take m) _ ?_ ?_ ?_ ?_ ?_) ?_
                       · (first | exact own_drew (Own.empty encO 6 23 Z _ (Nat.le_refl _)) | exact own_drew (own_alloc _ (Own.empty encO 6 23 Z _ (Nat.le_refl _))) | exact own_drew (Own.emptyAt encO 6 23 (Z.alloc _) _ (Z.heap.size + 1) (by simp) (by simp)))
                       · (repeat (first | with_reducible exact (cut_lo HSZ.out HLN.out (by omega)) | with_reducible refine sl_drew' ?_ | with_reducible refine sl_alloc' _ ?_))
                       · have := HLN.out; rw [List.length_take]; omega
                       · (first | (simp; done) | (simp; omega))
                       · omega
                       rintro v7 w7 ⟨ho7, hg7⟩
                       have HO7 := Lib.hid ho7
                       have HB7 : Hid (Below Z.heap.size Z w7) := Lib.hid (Below.grown (by (repeat (first | exact Below.refl _ _ | refine Below.drew ?_ | refine Below.alloc ?_ (by first | (simp; done) | (simp; omega)) _))) hg7 (by first | (simp; done) | (simp; omega)) (by intro q hq; injection hq with hq; subst hq; (first | (simp; done) | omega | (simp; omega))))
                       first
                       | (have HX1 := Lib.hid (one_grown (sl_drew' (slO_one (Z.alloc _) x (Z.heap.size + 1) (by simp))) hg7 (by simp)))
                       | (have HX1 := Lib.hid (one_grown (sl_drew' (sl_alloc' _ (slO_one Z x _ rfl))) hg7 (by simp)))
                       | skip
                       clear ho7 hg7
                       have hb1 := HB7.out)
                    | (refine hx_app (.tmp 57) (.tmp 62) 31 rfl (v := v7) (u := .slice (some ⟨_, 0, none⟩) 1 1) rfl rfl (app1m (base := Z.heap.size) (xs := L.take m) (o := x) _ ?_ ?_ ?_ ?_) ?_
                       · first | exact HO7.out | exact own_alloc _ HO7.out
                       · first | exact slO_one w7 x _ rfl | exact HX1.out
                       · first | exact HB7.out.size | exact Nat.le_trans HB7.out.size (by simp)
                       · have := HLN.out; rw [List.length_take]; omega
                       rintro v8 w8 ⟨ho8, hg8⟩
                       have HO8 := Lib.hid ho8
                       have HB8 : Hid (Below Z.heap.size Z w8) := Lib.hid (by first | exact Below.grown HB7.out hg8 HB7.out.size (fun q hq => (Own.lt HO7.out q hq).1) | exact Below.grown (HB7.out.alloc HB7.out.size _) hg8 (Nat.le_trans HB7.out.size (by first | (simp; done) | (simp; omega))) (fun q hq => (Own.lt HO7.out q hq).1))
                       clear ho8 hg8
                       have hb1 := HB8.out)
                    | (refine hx_app (.tmp 63) (.tmp 66) 31 rfl (v := v8) (u := .slice (some ⟨_, m * 6, none⟩) (ln - m) (co - m)) rfl rfl (app2m (base := Z.heap.size) (xs := L.take m ++ [x]) (ys := L.drop m) _ HO8.out ?_ ?_ HB8.out.size ?_ ?_) ?_
                       · exact SlR.mono (cut_hi HSZ.out HLN.out (by omega)) HB8.out
                       · have := HLN.out; rw [List.length_drop]; omega
                       · have := HLN.out; (first | (simp; done) | (simp; omega))
                       · omega
                       rintro v9 w9 ⟨ho9, hg9⟩
                       have HO9 := Lib.hid ho9
                       have HB9 : Hid (Below Z.heap.size Z w9) := Lib.hid (Below.grown HB8.out hg9 HB8.out.size (fun q hq => (Own.lt HO8.out q hq).1))
                       clear ho9 hg9
                       have hb1 := HB9.out))
                  first | (refine hK _ _ ?_ (fun hHeld => ?_)) | (go_wp2_with fail; refine hK _ _ ?_ (fun hHeld => ?_))
                  · first | exact GrS.alloc (by assumption) _ | exact GrS.of hb1
                  clear hK K
                  (try simp only [Act.put, List.setIfInBounds_toArray, List.set_cons_zero, List.set_cons_succ])
                  refine hx_act 14 (some 67) (by kernel_rfl) (by kernel_rfl) (by kernel_rfl) (fun K hK o ho => ?_)
                  replace ho := Option.some.inj ho
                  conv at ho => lhs; whnf
                  subst ho
                  (first
                    | (refine hx_app (.tmp 53) (.tmp 56) 31 rfl (v := .slice (some ⟨_, 0, none⟩) 0 0) (u := .slice (some ⟨_, 0, none⟩) m co) rfl rfl (app0 (base := Z.heap.size) (ys := L.take m) _ ?_ ?_ ?_ ?_ ?_) ?_
                       · (first | exact own_drew (Own.empty encO 6 23 Z _ (Nat.le_refl _)) | exact own_drew (own_alloc _ (Own.empty encO 6 23 Z _ (Nat.le_refl _))) | exact own_drew (Own.emptyAt encO 6 23 (Z.alloc _) _ (Z.heap.size + 1) (by simp) (by simp)))
                       · (repeat (first | with_reducible exact (cut_lo HSZ.out HLN.out (by omega)) | with_reducible refine sl_drew' ?_ | with_reducible refine sl_alloc' _ ?_))
                       · have := HLN.out; rw [List.length_take]; omega
                       · (first | (simp; done) | (simp; omega))
                       · omega
                       rintro v7 w7 ⟨ho7, hg7⟩
                       have HO7 := Lib.hid ho7
                       have HB7 : Hid (Below Z.heap.size Z w7) := Lib.hid (Below.grown (by (repeat (first | exact Below.refl _ _ | refine Below.drew ?_ | refine Below.alloc ?_ (by first | (simp; done) | (simp; omega)) _))) hg7 (by first | (simp; done) | (simp; omega)) (by intro q hq; injection hq with hq; subst hq; (first | (simp; done) | omega | (simp; omega))))
                       first
                       | (have HX1 := Lib.hid (one_grown (sl_drew' (slO_one (Z.alloc _) x (Z.heap.size + 1) (by simp))) hg7 (by simp)))
                       | (have HX1 := Lib.hid (one_grown (sl_drew' (sl_alloc' _ (slO_one Z x _ rfl))) hg7 (by simp)))
                       | skip
                       clear ho7 hg7
                       have hb1 := HB7.out)
                    | (refine hx_app (.tmp 57) (.tmp 62) 31 rfl (v := v7) (u := .slice (some ⟨_, 0, none⟩) 1 1) rfl rfl (app1m (base := Z.heap.size) (xs := L.take m) (o := x) _ ?_ ?_ ?_ ?_) ?_
                       · first | exact HO7.out | exact own_alloc _ HO7.out
                       · first | exact slO_one w7 x _ rfl | exact HX1.out
                       · first | exact HB7.out.size | exact Nat.le_trans HB7.out.size (by simp)
                       · have := HLN.out; rw [List.length_take]; omega
                       rintro v8 w8 ⟨ho8, hg8⟩
                       have HO8 := Lib.hid ho8
                       have HB8 : Hid (Below Z.heap.size Z w8) := Lib.hid (by first | exact Below.grown HB7.out hg8 HB7.out.size (fun q hq => (Own.lt HO7.out q hq).1) | exact Below.grown (HB7.out.alloc HB7.out.size _) hg8 (Nat.le_trans HB7.out.size (by first | (simp; done) | (simp; omega))) (fun q hq => (Own.lt HO7.out q hq).1))
                       clear ho8 hg8
                       have hb1 := HB8.out)
                    | (refine hx_app (.tmp 63) (.tmp 66) 31 rfl (v := v8) (u := .slice (some ⟨_, m * 6, none⟩) (ln - m) (co - m)) rfl rfl (app2m (base := Z.heap.size) (xs := L.take m ++ [x]) (ys := L.drop m) _ HO8.out ?_ ?_ HB8.out.size ?_ ?_) ?_
                       · exact SlR.mono (cut_hi HSZ.out HLN.out (by omega)) HB8.out
                       · have := HLN.out; rw [List.length_drop]; omega
                       · have := HLN.out; (first | (simp; done) | (simp; omega))
                       · omega
                       rintro v9 w9 ⟨ho9, hg9⟩
                       have HO9 := Lib.hid ho9
                       have HB9 : Hid (Below Z.heap.size Z w9) := Lib.hid (Below.grown HB8.out hg9 HB8.out.size (fun q hq => (Own.lt HO8.out q hq).1))
                       clear ho9 hg9
                       have hb1 := HB9.out))
                  first | (refine hK _ _ ?_ (fun hHeld => ?_)) | (go_wp2_with fail; refine hK _ _ ?_ (fun hHeld => ?_))
                  · first | exact GrS.alloc (by assumption) _ | exact GrS.of hb1
                  clear hK K
                  (try simp only [Act.put, List.setIfInBounds_toArray, List.set_cons_zero, List.set_cons_succ])
                  refine hx_take 15 (some 7) ?_ (by kernel_rfl) (by kernel_rfl) (by kernel_rfl) (by kernel_rfl) (by kernel_rfl) (fun _ _ _ h => h) (by assumption) (fun o ho w hSw => ?_) ?_
                  rotate_left
                  · replace ho := Option.some.inj ho
                    conv at ho => lhs; whnf
                    subst ho
                    (try dsimp only at hSw)
                    go_simp
                    (try rfl)
                  (try simp only [Act.put, List.setIfInBounds_toArray, List.set_cons_zero, List.set_cons_succ])
                  refine wpAnyH_done (by kernel_rfl) ?_ _
                  rotate_right 2
                  all_goals
                    go_wp2
                    go_roundw
                    case rel => exact ⟨⟨k + 1, by omega, by go_num, L.take m ++ x :: L.drop m, Lib.hid ⟨by have := Own.weaken HO9.out (HBZ.out.size); rwa [List.append_assoc] at this, by rw [HST.out, HO.out]; exact put_perm HL.out.2.1, HROW.out⟩⟩, Lib.hid (grow_trans HBZ.out HB9.out)⟩
                    case measure => simp [intOf]; omega
        · have HO : Hid (isOf inst side x = false) := Lib.hid (by rw [HOF.out, e1, e2]; rfl)
          go_wp2
          go_roundw
          case rel => exact ⟨⟨k + 1, by omega, by go_num, L, Lib.hid ⟨HL.out.1, by rw [HST.out, HO.out]; simpa using HL.out.2.1, HL.out.2.2⟩⟩, HB⟩
          case measure => simp [intOf]; omega
      · have HO : Hid (isOf inst side x = false) := Lib.hid (by rw [HOF.out, e1]; rfl)
        go_wp2
        go_roundw
        case rel => exact ⟨⟨k + 1, by omega, by go_num, L, Lib.hid ⟨HL.out.1, by rw [HST.out, HO.out]; simpa using HL.out.2.1, HL.out.2.2⟩⟩, HB⟩
        case measure => simp [intOf]; omega
    · have HE : Hid (L = listOf xs inst side) := Lib.hid (by
        obtain ⟨h1, h2, h3⟩ := HL.out
        rw [List.take_of_length_le (by have := HN.out; omega)] at h2
        exact row_end HMy.out h3 h2)
      go_wp2
      go_ret
      exact ⟨_, rfl, HB.out, by rw [← HE.out]; exact HL.out.1⟩
end Go.Proofs.YtecfajnmekpeoaaDoor
