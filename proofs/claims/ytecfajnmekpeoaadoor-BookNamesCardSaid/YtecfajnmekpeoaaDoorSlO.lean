/-
  Contracts of package slices at []api.Order: IndexFunc, ContainsFunc, Clone, DeleteFunc. Conditions: what each theorem names of the memory and of the function handed over.
-/
import Derived.Test.YtecfajnmekpeoaaDoorRows
import Derived.Test.YtecfajnmekpeoaaDoorMl
import Derived.Test.YtecfajnmekpeoaaDoorEo
import Derived.Test.YtecfajnmekpeoaaDoorSh
namespace Go.Proofs.YtecfajnmekpeoaaDoor
open Go.RowKit

/-- what slices.IndexFunc answers -/
def idxI {α : Type} (p : α → Bool) (xs : List α) : Int := match xs.findIdx? p with | some i => (i : Int) | none => -1
theorem idxI_hit {α : Type} {p : α → Bool} {xs : List α} {k : Nat} {x : α} (hx : xs[k]? = some x) (hp : p x = true) (hb : ∀ (j : Nat) y, j < k → xs[j]? = some y → p y = false) : idxI p xs = k := by
  obtain ⟨h1, rfl⟩ := List.getElem?_eq_some_iff.1 hx
  have : xs.findIdx? p = some k := List.findIdx?_eq_some_iff_getElem.2 ⟨h1, hp, fun j hj => by rw [hb j _ hj (List.getElem?_eq_getElem (by omega))]; simp⟩
  simp [idxI, this]
theorem idxI_miss {α : Type} {p : α → Bool} {xs : List α} (hb : ∀ (j : Nat) y, xs[j]? = some y → p y = false) : idxI p xs = -1 := by
  have : xs.findIdx? p = none := List.findIdx?_eq_none_iff.2 fun x hx => by
    obtain ⟨j, hj, rfl⟩ := List.getElem_of_mem hx
    exact hb j _ (List.getElem?_eq_getElem hj)
  simp [idxI, this]
theorem idxI_cases {α : Type} (p : α → Bool) (xs : List α) : (idxI p xs = -1 ∧ ∀ (j : Nat) y, xs[j]? = some y → p y = false) ∨ ∃ (k : Nat) (x : α), idxI p xs = k ∧ xs[k]? = some x ∧ p x = true ∧ ∀ (j : Nat) y, j < k → xs[j]? = some y → p y = false := by
  cases h : xs.findIdx? p with
  | none => exact Or.inl ⟨by simp [idxI, h], fun j y hy => List.findIdx?_eq_none_iff.1 h y (List.mem_of_getElem? hy)⟩
  | some k =>
    obtain ⟨h1, h2, h3⟩ := List.findIdx?_eq_some_iff_getElem.1 h
    refine Or.inr ⟨k, xs[k], by simp [idxI, h], List.getElem?_eq_getElem h1, h2, fun j y hj hy => ?_⟩
    obtain ⟨h4, rfl⟩ := List.getElem?_eq_some_iff.1 hy
    simpa using h3 j hj

set_option maxHeartbeats 2000000 in
theorem index_O (a : Option Addr) (cap : Nat) (xs : List Ord) (w : World) (p : Ord → Bool) (g : Nat) (cb : Array Value) (eg : ∀ args w, (callFunc g args).run Tryd.prog w = .ok (.enter g args) w) (hs : SlO w a cap xs)
    (hp : ∀ W x, x ∈ xs → Below w.heap.size w W → Calls Tryd.prog g (#[(.agg #[.int .i64 x.id, .int .i64 x.acct, .int .i64 x.inst, .int .u8 x.side, .int .i64 x.price, .int .i64 x.left])] ++ cb) W fun e w' => e = .returned (.bool (p x)) ∧ Below W.heap.size W w') :
    Calls Tryd.prog 52 #[.slice a xs.length cap, .func (.func g) #[] cb] w fun e w' => e = .returned (.int .i64 (idxI p xs)) ∧ Below w.heap.size w w' := by
  have hmax := Nat.le_trans hs.le hs.max
  have HS := Lib.hid hs; clear hs
  have HPp := Lib.hid hp; clear hp
  obtain ⟨n, hn⟩ : ∃ n, n = xs.length := ⟨_, rfl⟩
  rw [← hn] at hmax ⊢
  have HN := Lib.hid hn; clear hn
  generalize hr : idxI p xs = r
  have HR := Lib.hid hr; clear hr
  go_enter Tryd.func52, Tryd.ntmps52
  go_wp2
  go_loopg [5, 8] n (fun gg _ s8 wr => ∃ kk : Nat, kk ≤ n ∧ n - kk ≤ gg ∧ s8 = .int .i64 kk ∧ Hid (Below w.heap.size w wr) ∧ Hid (∀ j y, j < kk → xs[j]? = some y → p y = false))
  case atStart => exact ⟨0, Nat.zero_le _, by omega, rfl, Lib.hid (Below.refl _ w), Lib.hid fun j y hj => absurd hj (Nat.not_lt_zero _)⟩
  case round =>
    obtain ⟨kk, hkk, hg, rfl, BW, A⟩ := hrel
    by_cases hlt : kk < n
    · have hltz : (kk : Int) < (n : Int) := by omega
      have hlt' : kk < xs.length := by have := HN.out; omega
      obtain ⟨x, HX⟩ : ∃ x, Hid (xs[kk]? = some x) := ⟨_, Lib.hid (List.getElem?_eq_getElem hlt')⟩
      obtain ⟨b, off, ha, hb, hc⟩ := SlR.cells6 HS.out (by intro h; rw [h] at hlt'; simp at hlt')
      subst ha
      obtain ⟨x0, x1, x2, x3, x4, x5⟩ := (hc kk x HX.out).mono BW.out
      have hcall := HPp.out wr x (List.mem_of_getElem? HX.out) BW.out
      clear hc hlt'
      cases hq : p x with
      | true =>
        rw [hq] at hcall
        have HQ := Lib.hid hq; clear hq
        go_wp2_with (go_at_fn g; refine hcall.mono ?_; rintro e w' ⟨rfl, hb'⟩)
        go_ret
        exact ⟨ret_int (by rw [← HR.out]; exact (idxI_hit HX.out HQ.out A.out).symm), grow_trans BW.out hb'⟩
      | false =>
        rw [hq] at hcall
        have HQ := Lib.hid hq; clear hq
        go_wp2_with (go_at_fn g; refine hcall.mono ?_; rintro e w' ⟨rfl, hb'⟩)
        go_roundg (n - (kk + 1))
        case measure => omega
        case rel =>
          refine ⟨kk + 1, by omega, by omega, by go_num, Lib.hid (grow_trans BW.out hb'), Lib.hid fun j y hj hy => ?_⟩
          by_cases e : j = kk
          · subst e; rw [HX.out] at hy; injection hy with hy; subst hy; exact HQ.out
          · exact A.out j y (by omega) hy
    · have hltz : ¬ (kk : Int) < (n : Int) := by omega
      have : kk = n := by omega
      subst this
      go_wp2
      go_ret
      refine ⟨ret_int ?_, BW.out⟩
      rw [← HR.out]
      exact (idxI_miss fun j y hy => A.out j y (by have := (List.getElem?_eq_some_iff.1 hy).1; rw [HN.out]; exact this) hy).symm

set_option maxHeartbeats 2000000 in
theorem contains_O (a : Option Addr) (cap : Nat) (xs : List Ord) (w : World) (p : Ord → Bool) (g : Nat) (cb : Array Value) (eg : ∀ args w, (callFunc g args).run Tryd.prog w = .ok (.enter g args) w) (hs : SlO w a cap xs)
    (hp : ∀ W x, x ∈ xs → Below w.heap.size w W → Calls Tryd.prog g (#[(.agg #[.int .i64 x.id, .int .i64 x.acct, .int .i64 x.inst, .int .u8 x.side, .int .i64 x.price, .int .i64 x.left])] ++ cb) W fun e w' => e = .returned (.bool (p x)) ∧ Below W.heap.size W w') :
    Calls Tryd.prog 42 #[.slice a xs.length cap, .func (.func g) #[] cb] w fun e w' => e = .returned (.bool (xs.any p)) ∧ Below w.heap.size w w' := by
  have hi := index_O a cap xs w p g cb eg hs hp
  clear hs hp
  rcases idxI_cases p xs with ⟨h1, h2⟩ | ⟨k, x, h1, h2, h3, _⟩
  · have Hr : Hid (xs.any p = false) := Lib.hid (by rw [List.any_eq_false]; intro y hy; obtain ⟨j, hj, rfl⟩ := List.getElem_of_mem hy; rw [h2 j _ (List.getElem?_eq_getElem hj)]; simp)
    rw [h1] at hi
    clear h1 h2
    generalize xs.length = n at *
    go_enter Tryd.func42, Tryd.ntmps42
    go_wp2_with (go_at_call 52; refine hi.mono ?_; rintro e w1 ⟨rfl, hb1⟩)
    go_ret
    exact ⟨ret_bool Hr.out.symm, hb1⟩
  · have Hr : Hid (xs.any p = true) := Lib.hid (List.any_eq_true.2 ⟨x, List.mem_of_getElem? h2, h3⟩)
    rw [h1] at hi
    clear h1 h2
    generalize xs.length = n at *
    go_enter Tryd.func42, Tryd.ntmps42
    go_wp2_with (go_at_call 52; refine hi.mono ?_; rintro e w1 ⟨rfl, hb1⟩)
    go_ret
    exact ⟨ret_bool Hr.out.symm, hb1⟩
end Go.Proofs.YtecfajnmekpeoaaDoor
