/-
  Contract of slices.DeleteFunc at []api.Order, on a slice that the call owns: the walk. Conditions: what the theorem names of the function handed over.
-/
import Derived.Test.YtecfajnmekpeoaaDoorSlD
namespace Go.Proofs.YtecfajnmekpeoaaDoor
open Go.RowKit

/-- after j of them: those that stay stand ahead of place i, the rest is as it was -/
structure KeptI (p : Ord → Bool) (xs dk : List Ord) (i j : Nat) : Prop where
  len : dk.length = xs.length
  lt : i < j
  le : j ≤ xs.length
  pre : dk.take i = (xs.take j).filter (fun x => !p x)
  rest : dk.drop j = xs.drop j
theorem KeptI.start {p : Ord → Bool} {xs : List Ord} {k : Nat} {x : Ord} (hx : xs[k]? = some x) (hp : p x = true) (hb : ∀ (j : Nat) y, j < k → xs[j]? = some y → p y = false) : KeptI p xs xs k (k + 1) := by
  obtain ⟨h1, rfl⟩ := List.getElem?_eq_some_iff.1 hx
  refine ⟨rfl, by omega, by omega, ?_, rfl⟩
  rw [List.take_succ_eq_append_getElem h1, List.filter_append, List.filter_cons_of_neg (by simp [hp]), List.filter_nil, List.append_nil, List.filter_eq_self.2]
  intro y hy
  obtain ⟨j, hj, rfl⟩ := List.getElem_of_mem hy
  rw [List.length_take] at hj
  rw [List.getElem_take]
  simp [hb j _ (by omega) (List.getElem?_eq_getElem (by omega))]
theorem KeptI.at {p : Ord → Bool} {xs dk : List Ord} {i j : Nat} (h : KeptI p xs dk i j) (_hj : j < xs.length) : dk[j]? = xs[j]? := by
  have := congrArg (fun l => l[0]?) h.rest
  simpa [List.getElem?_drop] using this
theorem KeptI.skip {p : Ord → Bool} {xs dk : List Ord} {i j : Nat} (h : KeptI p xs dk i j) {x : Ord} (hx : xs[j]? = some x) (hp : p x = true) : KeptI p xs dk i (j + 1) := by
  obtain ⟨h1, rfl⟩ := List.getElem?_eq_some_iff.1 hx
  refine ⟨h.len, by have := h.lt; omega, by omega, ?_, ?_⟩
  · rw [List.take_succ_eq_append_getElem h1, List.filter_append, List.filter_cons_of_neg (by simp [hp]), List.filter_nil, List.append_nil, h.pre]
  · have := congrArg (fun l => l.drop 1) h.rest
    simpa [List.drop_drop] using this
theorem KeptI.keep {p : Ord → Bool} {xs dk : List Ord} {i j : Nat} (h : KeptI p xs dk i j) {x : Ord} (hx : xs[j]? = some x) (hp : p x = false) : KeptI p xs (dk.set i x) (i + 1) (j + 1) := by
  obtain ⟨h1, rfl⟩ := List.getElem?_eq_some_iff.1 hx
  have hl := h.len
  have hlt := h.lt
  refine ⟨by rw [List.length_set, hl], by omega, by omega, ?_, ?_⟩
  · rw [List.take_succ_eq_append_getElem h1, List.filter_append, List.filter_cons_of_pos (by simp [hp]), List.filter_nil, ← h.pre]
    rw [List.take_succ_eq_append_getElem (by rw [List.length_set]; omega), List.getElem_set_self, List.take_set_of_le (Nat.le_refl _)]
  · rw [List.drop_set_of_lt (by omega)]
    have := congrArg (fun l => l.drop 1) h.rest
    simpa [List.drop_drop] using this
theorem KeptI.done {p : Ord → Bool} {xs dk : List Ord} {i : Nat} (h : KeptI p xs dk i xs.length) : dk.take i = xs.filter (fun x => !p x) ∧ i = (xs.filter (fun x => !p x)).length := by
  have e := h.pre
  rw [List.take_length] at e
  exact ⟨e, by rw [← e, List.length_take]; have := h.len; have := h.lt; omega⟩

set_option maxHeartbeats 4000000 in
set_option maxRecDepth 100000 in
theorem deleteFunc_O (base g cap : Nat) (xs : List Ord) (w : World) (p : Ord → Bool) (gp : Nat) (cb : Array Value) (eg : ∀ args w, (callFunc gp args).run Tryd.prog w = .ok (.enter gp args) w)
    (hown : OwnO base w (.slice (some ⟨g, 0, none⟩) xs.length cap) xs)
    (hp : ∀ W x, x ∈ xs → w.grownBy W (some g) → Calls Tryd.prog gp (#[(.agg #[.int .i64 x.id, .int .i64 x.acct, .int .i64 x.inst, .int .u8 x.side, .int .i64 x.price, .int .i64 x.left])] ++ cb) W fun e w' => e = .returned (.bool (p x)) ∧ Below W.heap.size W w') :
    Calls Tryd.prog 45 #[.slice (some ⟨g, 0, none⟩) xs.length cap, .func (.func gp) #[] cb] w fun e w' =>
      e = .returned (.slice (some ⟨g, 0, none⟩) (xs.filter fun x => !p x).length cap) ∧ OwnO base w' (.slice (some ⟨g, 0, none⟩) (xs.filter fun x => !p x).length cap) (xs.filter fun x => !p x) ∧ w.grownBy w' (some g) := by
  have grown_below : ∀ {W W' : World}, Below W.heap.size W W' → W.grownBy W' (some g) := fun h => ⟨h.os, h.tape, h.output, h.size, fun k hk _ => h.block k hk⟩
  have grown_trans : ∀ {W W' W'' : World}, W.grownBy W' (some g) → W'.grownBy W'' (some g) → W.grownBy W'' (some g) := fun h k => ⟨k.os.trans h.os, k.tape.trans h.tape, k.output.trans h.output, Nat.le_trans h.size k.size, fun i hi hn => (k.block i (Nat.lt_of_lt_of_le hi h.size) hn).trans (h.block i hi hn)⟩
  obtain ⟨a, c, e1, hs, _⟩ := Own.slR encO_len hown
  injection e1 with e1 _ e3
  subst e1; subst e3
  have hidx := index_O (some ⟨g, 0, none⟩) cap xs w p gp cb eg hs (fun W x hx hb => hp W x hx (grown_below hb))
  have hle := hs.le
  have hmax := hs.max
  have hglt := (hs.ofSome _ rfl).2.1
  clear hs
  rcases idxI_cases p xs with ⟨h1, h2⟩ | ⟨k0, x0, h1, h2, h3, h4⟩
  · have e3 : xs.filter (fun x => !p x) = xs := List.filter_eq_self.2 fun y hy => by
      obtain ⟨j, hj, rfl⟩ := List.getElem_of_mem hy
      simp [h2 j _ (List.getElem?_eq_getElem hj)]
    rw [h1] at hidx
    rw [e3]
    clear hp h1 h2 e3
    obtain ⟨n, hn⟩ : ∃ n, n = xs.length := ⟨_, rfl⟩
    rw [← hn] at hidx hle ⊢
    have HN := Lib.hid hn; clear hn
    have HO := Lib.hid hown; clear hown
    go_enter Tryd.func45, Tryd.ntmps45
    go_wp2_with (go_at_call 52; refine hidx.mono ?_; rintro e w1 ⟨rfl, hb1⟩)
    go_ret
    refine ⟨rfl, ?_, grown_below hb1⟩
    rw [HN.out]; exact Own.mono HO.out hb1
  · rw [h1] at hidx
    have hk0 : k0 < xs.length := (List.getElem?_eq_some_iff.1 h2).1
    have hst := KeptI.start h2 h3 h4
    have hne1 : ((k0 : Int) == -1) = false := beq_eq_false_iff_ne.2 (by omega)
    clear h1 h2 h3 h4
    have HP := Lib.hid hp; clear hp
    have HST := Lib.hid hst; clear hst
    have HO := Lib.hid hown; clear hown
    obtain ⟨n, hn⟩ : ∃ n, n = xs.length := ⟨_, rfl⟩
    rw [← hn] at hidx hle hk0 ⊢
    have HN := Lib.hid hn; clear hn
    generalize hys : (xs.filter fun x => !p x) = ys
    have HY := Lib.hid hys; clear hys
    go_enter Tryd.func45, Tryd.ntmps45
    go_wp2_with (go_at_call 52; refine hidx.mono ?_; rintro e w1 ⟨rfl, hb1⟩)
    go_loopg [5, 6, 7] n (fun gg s5 s6 _ wr => ∃ (i j : Nat) (dk : List Ord), s5 = .int .i64 i ∧ s6 = .int .i64 j ∧ j ≤ n ∧ n - j ≤ gg ∧ i < j ∧ Hid (OwnO base wr (.slice (some ⟨g, 0, none⟩) dk.length cap) dk) ∧ Hid (w.grownBy wr (some g)) ∧ Hid (KeptI p xs dk i j))
    case atStart => exact ⟨k0, k0 + 1, xs, rfl, by go_num, by omega, by omega, by omega, Lib.hid (Own.mono HO.out hb1), Lib.hid (grown_below hb1), HST⟩
    case round =>
      obtain ⟨i, j, dk, rfl, rfl, hjn, hgg, hij, HOw, HG, HK⟩ := hrel
      by_cases hlt : j < n
      · have hltz : (j : Int) < (n : Int) := by omega
        have hj' : j < xs.length := by have := HN.out; omega
        obtain ⟨u, HU⟩ : ∃ u, Hid (xs[j]? = some u) := ⟨_, Lib.hid (List.getElem?_eq_getElem hj')⟩
        have hdk : dk[j]? = some u := (HK.out.at hj').trans HU.out
        have hgr : g < wr.heap.size := Nat.lt_of_lt_of_le hglt HG.out.size
        obtain ⟨c0, c1, c2, c3, c4, c5⟩ := Own.cells6 HOw.out hdk
        have hi' : i < dk.length := by have := HK.out.len; omega
        have iz : (i : Int) < (n : Int) := by omega
        obtain ⟨y, hy⟩ : ∃ y, dk[i]? = some y := ⟨_, List.getElem?_eq_getElem hi'⟩
        obtain ⟨d0, d1, d2, d3, d4, d5⟩ := Own.cells6 HOw.out hy
        clear hdk hj' hy
        have hcall := HP.out (wr.alloc (.cells #[.int .i64 u.id, .int .i64 u.acct, .int .i64 u.inst, .int .u8 u.side, .int .i64 u.price, .int .i64 u.left] 23)) u (List.mem_of_getElem? HU.out) (grown_trans HG.out (grown_below (below_alloc _ _)))
        cases hq : p u with
        | true =>
          rw [hq] at hcall
          have HQ := Lib.hid hq; clear hq
          go_wp2_with (go_at_fn gp; refine hcall.mono ?_; rintro e w2 ⟨rfl, hb2⟩)
          go_roundg (n - (j + 1))
          case measure => omega
          case rel =>
            have hb3 : Below wr.heap.size wr w2 := grow_trans (below_alloc _ _) hb2
            exact ⟨i, j + 1, dk, rfl, by go_num, by omega, by omega, by omega, Lib.hid (Own.mono HOw.out hb3), Lib.hid (grown_trans HG.out (grown_below hb3)), Lib.hid (HK.out.skip HU.out HQ.out)⟩
        | false =>
          rw [hq] at hcall
          have HQ := Lib.hid hq; clear hq
          go_wp2_with (go_at_fn gp; refine hcall.mono ?_; rintro e w2 ⟨rfl, hb2⟩; have hbc := (bcell hb2).1; have hb3 : Below wr.heap.size wr w2 := grow_trans (below_alloc _ _) hb2; have HO2 := Lib.hid (Own.mono HOw.out hb3); have hf := Own.free HO2.out; have HB3 := Lib.hid hb3; clear hb3 hb2)
          go_roundg (n - (j + 1))
          case measure => omega
          case rel =>
            obtain ⟨q1, q2, _⟩ := Own.store6 HO2.out hi' u _ rfl
            exact ⟨i + 1, j + 1, dk.set i u, by go_num, by go_num, by omega, by omega, by omega, Lib.hid (by rw [List.length_set]; exact q1), Lib.hid (grown_trans HG.out (grown_trans (grown_below HB3.out) q2)), Lib.hid (HK.out.keep HU.out HQ.out)⟩
      · obtain rfl : j = n := by omega
        have hltz : ¬ (j : Int) < (j : Int) := by omega
        have hdl : dk.length = j := HK.out.len.trans HN.out.symm
        have hij' : i < dk.length := by omega
        obtain ⟨w3, hcl, hg3, ho3⟩ := run_clearO HOw.out hij'
        rw [hdl] at hcl
        have iz : (i : Int) < (j : Int) := by omega
        have HDL := Lib.hid hdl; clear hdl
        have HG3 := Lib.hid hg3; clear hg3
        have HO3 := Lib.hid ho3; clear ho3
        go_wp2
        go_ret
        have hdone := HK.out
        have e0 := HN.out
        rw [e0] at hdone
        obtain ⟨e1, e2⟩ := hdone.done
        rw [HY.out] at e1 e2
        have ho := HO3.out
        rw [e1] at ho
        subst e2
        exact ⟨rfl, ho, grown_trans HG.out HG3.out⟩
end Go.Proofs.YtecfajnmekpeoaaDoor
