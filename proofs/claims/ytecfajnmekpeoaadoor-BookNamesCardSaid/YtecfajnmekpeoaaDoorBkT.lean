/-
  Contract of layer 16 (book): Take, at every list, every ID, every quantity. Conditions: that the slice reads as a list of at most 1000000 orders.
-/
import Derived.Test.YtecfajnmekpeoaaDoorSlX
import Derived.Test.YtecfajnmekpeoaaDoorBkF
namespace Go.Proofs.YtecfajnmekpeoaaDoor
open Go.RowKit

theorem flat_set {α : Type} (enc : α → List Value) (k : Nat) (hk : ∀ x, (enc x).length = k) (c : Nat) (hc : c < k) (v : Value) (x x' : α) (hx' : enc x' = (enc x).set c v) : ∀ (xs : List α) (i : Nat), xs[i]? = some x → (xs.flatMap enc).set (i * k + c) v = (xs.set i x').flatMap enc
  | [], i, h => by simp at h
  | y :: r, 0, h => by
    simp at h; subst h
    rw [List.flatMap_cons, List.set_cons_zero, List.flatMap_cons, Nat.zero_mul, Nat.zero_add, List.set_append_left _ _ (by rw [hk]; exact hc), hx']
  | y :: r, i + 1, h => by
    rw [List.flatMap_cons, List.set_cons_succ, List.flatMap_cons, List.set_append_right _ _ (by rw [hk, Nat.add_mul]; omega), hk, show (i + 1) * k + c - k = i * k + c by rw [Nat.add_mul]; omega, flat_set enc k hk c hc v x x' hx' r i (by simpa using h)]
theorem Own.setLeft {base : Nat} {w : World} {g cap : Nat} {xs : List Ord} (h : OwnO base w (.slice (some ⟨g, 0, none⟩) xs.length cap) xs) {i : Nat} {o : Ord} (ho : xs[i]? = some o) (q : Int) :
    OwnO base (w.setCell ⟨g, i * 6 + 5, none⟩ (.int .i64 q)) (.slice (some ⟨g, 0, none⟩) xs.length cap) (xs.set i { o with left := q }) ∧ w.grownBy (w.setCell ⟨g, i * 6 + 5, none⟩ (.int .i64 q)) (some g) := by
  have hi : i < xs.length := (List.getElem?_eq_some_iff.1 ho).1
  obtain ⟨h1, h2⟩ := h
  rcases h2 with ⟨h2, _⟩ | ⟨g', cap', cur, e1, hb, hg, hle, hmax, hsz, htk⟩
  · cases h2
  · injection e1 with e1 _ e3
    injection e1 with e1; injection e1 with e1
    subst e1; subst e3
    rw [setCell_eq_setRow w g (i * 6 + 5) cur 23 (0, 0) _ hg]
    refine ⟨⟨by rw [flat_len encO 6 encO_len, List.length_set], Or.inr ⟨g, cap, _, by rw [List.length_set], hb, setRow_heap w g cur _ 23 _ hg, by rw [List.length_set]; exact hle, hmax, by simpa using hsz, ?_⟩⟩, ⟨rfl, rfl, rfl, by simp, fun q hq hne => setRow_other w g q _ (fun e => hne (by rw [e]))⟩⟩
    rw [List.length_set, Array.toList_setIfInBounds, ← flat_set encO 6 encO_len 5 (by omega) (.int .i64 q) o { o with left := q } rfl xs i ho, ← htk, List.take_set]

/-- what Take makes, by the place -/
theorem split_at {xs : List Ord} {i : Nat} {o : Ord} (ho : xs[i]? = some o) : xs = xs.take i ++ o :: xs.drop (i + 1) := by
  obtain ⟨h1, rfl⟩ := List.getElem?_eq_some_iff.1 ho
  rw [List.getElem_cons_drop, List.take_append_drop]
theorem fm_id (id qty : Int) : ∀ (l : List Ord), (∀ x ∈ l, x.id ≠ id) → l.filterMap (lessLeft id qty) = l
  | [], _ => rfl
  | y :: r, h => by
    rw [List.filterMap_cons_some (b := y) (by unfold lessLeft; rw [if_neg (h y (by simp))]), fm_id id qty r (fun x hx => h x (by simp [hx]))]
theorem fm_at {xs : List Ord} (hpw : xs.Pairwise idLt) {i : Nat} {o : Ord} (ho : xs[i]? = some o) (qty : Int) :
    xs.filterMap (lessLeft o.id qty) = if o.left - qty = 0 then xs.eraseIdx i else xs.set i { o with left := o.left - qty } := by
  have hi : i < xs.length := (List.getElem?_eq_some_iff.1 ho).1
  have h1 : ∀ x ∈ xs.take i, x.id ≠ o.id := fun x hx => by
    obtain ⟨j, hj⟩ := List.getElem?_of_mem hx
    rw [List.getElem?_take] at hj
    split at hj
    · have := pw_at hpw hj ho (by assumption); omega
    · cases hj
  have h2 : ∀ x ∈ xs.drop (i + 1), x.id ≠ o.id := fun x hx => by
    obtain ⟨j, hj⟩ := List.getElem?_of_mem hx
    rw [List.getElem?_drop] at hj
    have := pw_at hpw ho hj (by omega); omega
  have e : xs.filterMap (lessLeft o.id qty) = xs.take i ++ (([o].filterMap (lessLeft o.id qty)) ++ xs.drop (i + 1)) := by
    conv => lhs; rw [split_at ho]
    rw [List.filterMap_append, fm_id _ _ _ h1, show o :: xs.drop (i + 1) = [o] ++ xs.drop (i + 1) from rfl, List.filterMap_append, fm_id _ _ _ h2]
  rw [e]
  split
  · rw [List.eraseIdx_eq_take_drop_succ]; simp [lessLeft, *]
  · rw [List.set_eq_take_append_cons_drop, if_pos hi]; simp [lessLeft, *]
theorem findO_at {xs : List Ord} (h : mayL xs = true) (id : Int) : findO xs id = if foundAt xs id then xs[placeOf xs id]? else none := by
  have hpw := (mayL_iff.1 h).2.2
  unfold findO
  rw [if_pos h]
  split
  · rename_i hf
    cases ho : xs[placeOf xs id]? with
    | none => unfold foundAt at hf; rw [ho] at hf; simp at hf
    | some o =>
      unfold foundAt at hf; rw [ho] at hf; simp at hf
      cases hfi : xs.find? (fun o => o.id == id) with
      | none => have := List.find?_eq_none.1 hfi o (List.mem_of_getElem? ho); simp [hf] at this
      | some p =>
        have h1 := List.find?_some hfi
        have h2 := List.mem_of_find?_eq_some hfi
        simp at h1
        rw [id_inj hpw h2 (List.mem_of_getElem? ho) (by omega)]
  · rename_i hf
    refine List.find?_eq_none.2 fun o ho => ?_
    intro hid
    exact hf ((foundAt_iff hpw id).2 ⟨o, ho, by simpa using hid⟩)
theorem foundAt_some {xs : List Ord} {id : Int} (h : foundAt xs id = true) : ∃ o, xs[placeOf xs id]? = some o ∧ o.id = id := by
  unfold foundAt at h
  cases ho : xs[placeOf xs id]? with
  | none => rw [ho] at h; simp at h
  | some o => rw [ho] at h; simp at h; exact ⟨o, rfl, h⟩
theorem takeO_may {xs : List Ord} {id qty : Int} (h : mayL xs = false) : takeO xs id qty = ([], 4) := by simp [takeO, h]
theorem takeO_none {xs : List Ord} {id qty : Int} (h : mayL xs = true) (hf : foundAt xs id = false) : takeO xs id qty = ([], 5) := by simp [takeO, h, findO_at h, hf]
theorem takeO_arg {xs : List Ord} {id qty : Int} (h : mayL xs = true) (hf : foundAt xs id = true) {o : Ord} (ho : xs[placeOf xs id]? = some o) (hq : qty < 1 ∨ o.left < qty) : takeO xs id qty = ([], 1) := by simp [takeO, h, findO_at h, hf, ho, hq]
theorem takeO_all {xs : List Ord} {id qty : Int} (h : mayL xs = true) (hf : foundAt xs id = true) {o : Ord} (ho : xs[placeOf xs id]? = some o) (hid : o.id = id) (hq : ¬ (qty < 1 ∨ o.left < qty)) :
    takeO xs id qty = (if o.left - qty = 0 then xs.eraseIdx (placeOf xs id) else xs.set (placeOf xs id) { o with left := o.left - qty }, 0) := by
  unfold takeO
  simp only [h, Bool.not_true, Bool.false_eq_true, if_false, findO_at h, hf, if_true, ho, hq]
  rw [← fm_at (mayL_iff.1 h).2.2 ho qty, hid]

set_option maxHeartbeats 4000000 in
theorem take_c (a : Option Addr) (cap : Nat) (xs : List Ord) (id qty : Int) (w : World) (hs : SlO w a cap xs) (hlen : xs.length ≤ 1000000) :
    Calls Tryd.prog 32 #[.slice a xs.length cap, .int .i64 id, .int .i64 qty] w fun e w' => ∃ r, e = .returned (.tuple #[r, .int .i64 (takeO xs id qty).2]) ∧ Below w.heap.size w w' ∧ OwnO w.heap.size w' r (takeO xs id qty).1 := by
  have hle := hs.le
  have hmax := hs.max
  have HS := Lib.hid hs; clear hs
  have hmay := may_c a cap xs w HS.out
  cases hm : mayL xs with
  | false =>
    have Hr := Lib.hid (takeO_may (id := id) (qty := qty) hm)
    rw [hm] at hmay; clear hm
    generalize xs.length = n at *
    go_enter Tryd.func32, Tryd.ntmps32
    go_wp2_with (go_at_call 17; refine hmay.mono ?_; rintro e w1 ⟨rfl, hb1⟩)
    go_ret2
    exact ⟨.slice none 0 0, ret_vi (by rw [Hr.out]), hb1, by rw [Hr.out]; exact Own.nil _⟩
  | true =>
    have hpw := (mayL_iff.1 hm).2.2
    have hpl := fun w1 (hb : Below w.heap.size w w1) => place_c a cap xs id w1 (HS.out.mono hb) hpw hlen
    rw [hm] at hmay
    cases hf : foundAt xs id with
    | false =>
      have Hr := Lib.hid (takeO_none (id := id) (qty := qty) hm hf)
      rw [hf] at hpl; clear hf hm
      have HPL := Lib.hid hpl; clear hpl hpw
      generalize placeOf xs id = pl at *
      obtain ⟨n, hn⟩ : ∃ n, n = xs.length := ⟨_, rfl⟩
      rw [← hn] at hmay hle ⊢
      have HPL2 := HPL.out; clear HPL
      rw [← hn] at HPL2
      have HPL := Lib.hid HPL2; clear HPL2
      have HN := Lib.hid hn; clear hn
      go_enter Tryd.func32, Tryd.ntmps32
      go_wp2_with (first | (go_at_call 17; refine hmay.mono ?_; rintro e w1 ⟨rfl, hb1⟩) | (go_at_call 49; refine (HPL.out _ hb1).mono ?_; rintro e w2 ⟨rfl, hb2⟩))
      go_ret2
      exact ⟨.slice none 0 0, ret_vi (by rw [Hr.out]), grow_trans hb1 hb2, by rw [Hr.out]; exact Own.nil _⟩
    | true =>
      obtain ⟨o, ho, hid⟩ := foundAt_some hf
      rw [hf] at hpl
      have hi : placeOf xs id < xs.length := (List.getElem?_eq_some_iff.1 ho).1
      have hne : xs ≠ [] := by intro h; rw [h] at hi; simp at hi
      obtain ⟨b, off, rfl, hb, hc⟩ := SlR.cells6 HS.out hne
      obtain ⟨x0, x1, x2, x3, x4, x5⟩ := hc _ o ho
      clear hc
      have hcl := fun w1 (hb : Below w.heap.size w w1) => clone_O (some ⟨b, off, none⟩) cap xs w1 (HS.out.mono hb) hlen
      by_cases hq : qty < 1 ∨ o.left < qty
      · have Hr := Lib.hid (takeO_arg hm hf ho hq)
        clear hcl hf hm hpw hid
        have HO := Lib.hid ho; clear ho
        generalize placeOf xs id = pl at *
        obtain ⟨n, hn⟩ : ∃ n, n = xs.length := ⟨_, rfl⟩
        rw [← hn] at hmay hle hpl hi ⊢
        have HPL := Lib.hid hpl; clear hpl
        have HN := Lib.hid hn; clear hn hne
        have hz : (0 : Int) ≤ (pl : Int) := Int.natCast_nonneg _
        have hz2 : (pl : Int) < (n : Int) := by omega
        by_cases hq1 : qty < 1
        · clear hq
          go_enter Tryd.func32, Tryd.ntmps32
          go_wp2_with (first | (go_at_call 17; refine hmay.mono ?_; rintro e w1 ⟨rfl, hb1⟩) | (go_at_call 49; refine (HPL.out _ hb1).mono ?_; rintro e w2 ⟨rfl, hb2⟩; have hG := (bcell (grow_trans hb1 hb2)).1))
          go_ret2
          exact ⟨.slice none 0 0, ret_vi (by rw [Hr.out]), grow_trans hb1 hb2, by rw [Hr.out]; exact Own.nil _⟩
        · have hq2 : o.left < qty := by omega
          clear hq
          go_enter Tryd.func32, Tryd.ntmps32
          go_wp2_with (first | (go_at_call 17; refine hmay.mono ?_; rintro e w1 ⟨rfl, hb1⟩) | (go_at_call 49; refine (HPL.out _ hb1).mono ?_; rintro e w2 ⟨rfl, hb2⟩; have hG := (bcell (grow_trans hb1 hb2)).1))
          go_ret2
          exact ⟨.slice none 0 0, ret_vi (by rw [Hr.out]), grow_trans hb1 hb2, by rw [Hr.out]; exact Own.nil _⟩
      · have Hr := Lib.hid (takeO_all hm hf ho hid hq)
        clear hf hpw hid
        have HM := Lib.hid hm; clear hm
        have hlft : o.left ≤ 1048576 := (mayOne_iff.1 ((mayL_iff.1 HM.out).2.1 o (List.mem_of_getElem? ho))).2.2.2.2.2.2
        have HO := Lib.hid ho; clear ho
        generalize placeOf xs id = pl at *
        obtain ⟨n, hn⟩ : ∃ n, n = xs.length := ⟨_, rfl⟩
        rw [← hn] at hmay hle hpl hi hcl ⊢
        have HPL := Lib.hid hpl; clear hpl
        have HCL := Lib.hid hcl; clear hcl
        have HN := Lib.hid hn; clear hn
        have HNE := Lib.hid hne; clear hne
        have hz : (0 : Int) ≤ (pl : Int) := Int.natCast_nonneg _
        have hz2 : (pl : Int) < (n : Int) := by omega
        have hq1 : ¬ qty < 1 := by omega
        have hq2 : ¬ o.left < qty := by omega
        clear hq
        go_enter Tryd.func32, Tryd.ntmps32
        go_wp2_with (first | (go_at_call 17; refine hmay.mono ?_; rintro e w1 ⟨rfl, hb1⟩) | (go_at_call 49; refine (HPL.out _ hb1).mono ?_; rintro e w2 ⟨rfl, hb2⟩; have hG := (bcell (grow_trans hb1 hb2)).1))
        refine (HCL.out _ (grow_trans hb1 hb2)).mono ?_
        rintro e w3 ⟨r, rfl, hb3, ho3⟩
        obtain ⟨a3, c3, rfl, hs3, hbs⟩ := Own.slR encO_len ho3
        obtain ⟨g, off3, rfl, hg3, hc3⟩ := SlR.cells6 hs3 HNE.out
        obtain ⟨_, rfl⟩ : w2.heap.size ≤ g ∧ off3 = 0 := hbs _ rfl
        obtain ⟨y0, y1, y2, y3, y4, y5⟩ := Own.cells6 ho3 HO.out
        have hf3 := Own.free ho3
        obtain ⟨q1, q2⟩ := Own.setLeft ho3 HO.out (o.left - qty)
        have HB0 : Hid (Below w.heap.size w w3) := Lib.hid (grow_trans (grow_trans hb1 hb2) hb3)
        have hB3 : w.heap.size ≤ w2.heap.size := (grow_trans hb1 hb2).size
        have hB4 : w2.heap.size ≤ w3.heap.size := hb3.size
        have hgb : w2.heap.size ≤ g := (Own.lt ho3 g rfl).1
        have q1' : OwnO w2.heap.size (w3.setCell ⟨g, pl * 6 + 5, none⟩ (.int .i64 (o.left - qty))) (.slice (some ⟨g, 0, none⟩) (xs.set pl { o with left := o.left - qty }).length c3) (xs.set pl { o with left := o.left - qty }) := by rw [List.length_set]; exact q1
        have hdel := delete_O w2.heap.size g c3 (xs.set pl { o with left := o.left - qty }) pl _ q1' (by rw [List.length_set, ← HN.out]; exact hi) (by simpa using hB4)
        rw [List.length_set, ← HN.out, List.eraseIdx_set_eq] at hdel
        have HB5 : Hid (Below w.heap.size w (w3.setCell ⟨g, pl * 6 + 5, none⟩ (.int .i64 (o.left - qty)))) := Lib.hid (HB0.out.setCell (by show w.heap.size ≤ g; omega) _)
        have Q1 := Lib.hid q1; clear q1 q1' q2 ho3 hs3 hc3 hbs hb3 hG hmay
        have b1 : 1 ≤ qty := by omega
        have b2 : qty ≤ o.left := by omega
        rw [← HN.out]
        by_cases hz0 : o.left - qty = 0
        · have hz0' : ((o.left - qty) == 0) = true := by simp [hz0]
          have hr1 : (if o.left - qty = 0 then xs.eraseIdx pl else xs.set pl { o with left := o.left - qty }) = xs.eraseIdx pl := if_pos hz0
          have Hr1 : Hid (takeO xs id qty = (xs.eraseIdx pl, 0)) := Lib.hid (by rw [Hr.out, hr1])
          have HZ := Lib.hid hz0; clear hz0 hr1
          have HD := Lib.hid hdel; clear hdel
          go_wp2_with fail
          refine (HD.out).mono ?_
          rintro e w5 ⟨r5, rfl, ho5, hb5⟩
          go_wp2
          go_ret2
          exact ⟨r5, ret_vi (by rw [Hr1.out]), HB5.out.trans (hb5.mono hB3), by rw [Hr1.out]; exact Own.weaken ho5 hB3⟩
        · have hz0' : ((o.left - qty) == 0) = false := by simp [hz0]
          have hr1 : (if o.left - qty = 0 then xs.eraseIdx pl else xs.set pl { o with left := o.left - qty }) = xs.set pl { o with left := o.left - qty } := if_neg hz0
          have Hr1 : Hid (takeO xs id qty = (xs.set pl { o with left := o.left - qty }, 0)) := Lib.hid (by rw [Hr.out, hr1])
          clear hz0 hr1 hdel
          go_wp2
          go_ret2
          refine ⟨_, ret_vi (v := .slice (some ⟨g, 0, none⟩) n c3) (by rw [Hr1.out]), HB5.out, ?_⟩
          rw [Hr1.out, HN.out]
          have := Own.weaken Q1.out hB3
          simp only [OwnO, Own, List.length_set] at this ⊢
          exact this
end Go.Proofs.YtecfajnmekpeoaaDoor
