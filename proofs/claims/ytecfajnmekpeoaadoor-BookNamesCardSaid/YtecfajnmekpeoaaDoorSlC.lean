/-
  Uniform contracts at []api.Order: Clone, DeleteFunc, SortFunc on whatever slice the call owns, nil too. Conditions: those that each theorem names.
-/
import Derived.Test.YtecfajnmekpeoaaDoorSlS
namespace Go.Proofs.YtecfajnmekpeoaaDoor
open Go.RowKit Go.Sort

theorem infoO : (Tryd.prog.info? 23).map (fun i => (i.zero, i.size, i.bytes)) = some (some (.agg #[.int .i64 0, .int .i64 0, .int .i64 0, .int .u8 0, .int .i64 0, .int .i64 0]), 6, 48) := by kernel_rfl

theorem clone_O (a : Option Addr) (cap : Nat) (xs : List Ord) (w : World) (hs : SlO w a cap xs) (hlen : xs.length ≤ 1000000) :
    Calls Tryd.prog 46 #[.slice a xs.length cap] w fun e w' => ∃ r, e = .returned r ∧ Below w.heap.size w w' ∧ OwnO w.heap.size w' r xs := by
  cases a with
  | none =>
    obtain ⟨h1, h2⟩ := hs.ofNone rfl
    subst h1; subst h2
    exact Calls.mono (R := _) (Go.Proofs.AnyE.slices_Clone_nil Tryd.cloneO 0 0 w) fun e w' ⟨he, hw⟩ => ⟨_, he, hw ▸ Below.refl _ _, hw ▸ Own.nil _⟩
  | some ad =>
    obtain ⟨b, off, sp⟩ := ad
    obtain ⟨h1, h2, h3⟩ := hs.ofSome _ rfl
    simp only at h1 h2 h3; subst h1
    obtain ⟨i0, hi, hz0, hz1, hz2⟩ := info_parts infoO
    have hfl := flat_len encO 6 encO_len xs
    refine Calls.mono (R := _) (Go.Proofs.AnyE.slices_Clone Tryd.cloneO i0 _ 6 48 hi hz0 hz1 hz2 rfl (by omega) Tryd.sizeOf23 b off xs.length cap (xs.flatMap encO) w hfl (by simp [maxLen]; omega) (by omega) (fun t u hu => ?_) (fun u hu => ?_)) fun e w' ⟨v, he, ho, _, hb⟩ => ⟨v, he, hb, ho⟩
    · have ht : t < xs.length * 6 := by rw [← hfl]; exact (List.getElem?_eq_some_iff.1 hu).1
      have hq : t / 6 < xs.length := by omega
      have hx : xs[t / 6]? = some xs[t / 6] := List.getElem?_eq_getElem hq
      have hv : (encO xs[t / 6])[t % 6]? = some (encO xs[t / 6])[t % 6]! := by rw [getElem!_pos (encO xs[t / 6]) (t % 6) (by rw [encO_len]; omega)]; exact List.getElem?_eq_getElem _
      have hf := flat_get encO 6 encO_len xs (t / 6) _ (t % 6) _ hx hv
      rw [show t / 6 * 6 + t % 6 = t by omega] at hf
      have := h3 (t / 6) _ hx (t % 6) _ hv
      rw [show off + t / 6 * 6 + t % 6 = off + t by omega] at this
      rw [this, ← hf, hu]
    · obtain ⟨o, _, ho⟩ := List.mem_flatMap.1 hu
      exact encO_one o u ho

/-- what is written lies from the call's own blocks on -/
theorem below_own {base : Nat} {w w' : World} {row : Option Nat} (hg : w.grownBy w' row) (hB : base ≤ w.heap.size) (hr : ∀ k, row = some k → base ≤ k) : Below base w w' :=
  (Below.refl base w).grown hg hB hr
theorem below_of_grow {base : Nat} {w w' : World} (h : Below w.heap.size w w') (hB : base ≤ w.heap.size) : Below base w w' := h.mono hB

set_option maxHeartbeats 1000000 in
theorem deleteFunc_nil (w : World) (fv : Value) : Calls Tryd.prog 45 #[.slice none 0 0, fv] w fun e w' => e = .returned (.slice none 0 0) ∧ w = w' := by
  have h1 : Calls Tryd.prog 52 #[.slice none 0 0, fv] w fun e w' => e = .returned (.int .i64 (-1)) ∧ w = w' := by
    go_enter Tryd.func52, Tryd.ntmps52
    go_wp2
    refine wp_loop_rounds 1 ?_
    rw [rounds_succ]
    go_wp2
    go_ret
    exact ⟨rfl, rfl⟩
  go_enter Tryd.func45, Tryd.ntmps45
  go_wp2_with (go_at_call 52; refine h1.mono ?_; rintro e w1 ⟨rfl, rfl⟩)
  go_ret
  exact ⟨rfl, rfl⟩
theorem del_O (base : Nat) (r : Value) (xs : List Ord) (w : World) (p : Ord → Bool) (gp : Nat) (cb : Array Value) (eg : ∀ args w, (callFunc gp args).run Tryd.prog w = .ok (.enter gp args) w)
    (hown : OwnO base w r xs) (hB : base ≤ w.heap.size)
    (hp : ∀ W x, x ∈ xs → Below base w W → Calls Tryd.prog gp (#[(.agg #[.int .i64 x.id, .int .i64 x.acct, .int .i64 x.inst, .int .u8 x.side, .int .i64 x.price, .int .i64 x.left])] ++ cb) W fun e w' => e = .returned (.bool (p x)) ∧ Below W.heap.size W w') :
    Calls Tryd.prog 45 #[r, .func (.func gp) #[] cb] w fun e w' => ∃ r', e = .returned r' ∧ OwnO base w' r' (xs.filter fun x => !p x) ∧ Below base w w' := by
  obtain ⟨a, cap, rfl, hs, hb⟩ := Own.slR encO_len hown
  cases a with
  | none =>
    obtain ⟨h1, h2⟩ := hs.ofNone rfl
    subst h1; subst h2
    exact (deleteFunc_nil w _).mono fun e w' ⟨he, hw⟩ => ⟨_, he, Own.nil _, hw ▸ Below.refl _ _⟩
  | some ad =>
    obtain ⟨b, off, sp⟩ := ad
    obtain ⟨hb1, hb2⟩ := hb _ rfl
    have hb3 := (hs.ofSome _ rfl).1
    simp only at hb1 hb2 hb3; subst hb2; subst hb3
    refine (deleteFunc_O base b cap xs w p gp cb eg hown (fun W x hx hg => hp W x hx (below_own hg hB (fun k hk => by injection hk with hk; omega)))).mono fun e w' ⟨he, ho, hg⟩ => ⟨_, he, ho, below_own hg hB (fun k hk => by injection hk with hk; omega)⟩

theorem srt_O (base : Nat) (r : Value) (ys : List Ord) (s : Int) (hall : ∀ o ∈ ys, o.side = s ∧ (s = 1 ∨ s = 2)) (hpw : ys.Pairwise idLt) (w : World) (hp : PrW w) (hown : OwnO base w r ys) (hg : 0 < base) (hB : base ≤ w.heap.size) (hlen : ys.length ≤ 1000000) :
    Calls Tryd.prog 48 #[r, .func (.func 41) #[] #[]] w fun e w' =>
      e = .returned (.tuple #[]) ∧ OwnO base w' r (ys.mergeSort (fun a b => !Go.Proofs.YtecfajnmekpeoaaDoor.ahead s b a)) ∧ Below base w w' := by
  obtain ⟨a, cap, rfl, hs, hb⟩ := Own.slR encO_len hown
  cases ys with
  | nil =>
    refine Calls.mono (R := _) (Go.Proofs.AnyF.slices_SortFunc_none { Tryd.sortO with } a cap _ w) fun e w' ⟨he, hw⟩ => ⟨he, ?_, hw ▸ Below.refl _ _⟩
    rw [hw, List.mergeSort_nil]; exact hown
  | cons y l =>
    obtain ⟨b, off, h1, _, _⟩ := hs.at (by simp)
    subst h1
    obtain ⟨hb1, hb2⟩ := hb _ rfl
    simp only at hb1 hb2; subst hb2
    have hlm : ((y :: l).mergeSort (fun a b => !Go.Proofs.YtecfajnmekpeoaaDoor.ahead s b a)).length = (y :: l).length := List.length_mergeSort _
    refine (sort_O base b cap (y :: l) s (hall y (by simp)).2 (fun o ho => (hall o ho).1) hpw w hp hown hg hlen).mono fun e w' ⟨he, ho, hg⟩ => ⟨he, ho, below_own hg hB (fun k hk => by injection hk with hk; omega)⟩
end Go.Proofs.YtecfajnmekpeoaaDoor
