/-
  Contracts of layer 16 (book): the place of an ID (binary search), Find. Conditions: that the slice reads as a list; for the search: that its IDs rise.
-/
import Derived.Test.YtecfajnmekpeoaaDoorBkY
namespace Go.Proofs.YtecfajnmekpeoaaDoor
open Go.RowKit

theorem countP_at {α : Type} (p : α → Bool) (xs : List α) (k : Nat) (hk : k ≤ xs.length) (h1 : ∀ (t : Nat) x, t < k → xs[t]? = some x → p x = true) (h2 : ∀ (t : Nat) x, k ≤ t → xs[t]? = some x → p x = false) : xs.countP p = k := by
  have e : xs.countP p = (xs.take k).countP p + (xs.drop k).countP p := by rw [← List.countP_append, List.take_append_drop]
  have l : (xs.take k).length = k := by rw [List.length_take]; omega
  rw [e, List.countP_eq_length.2 (fun x hx => ?_), List.countP_eq_zero.2 (fun x hx => ?_), l, Nat.add_zero]
  · obtain ⟨t, ht⟩ := List.getElem?_of_mem hx
    rw [List.getElem?_drop] at ht
    simp [h2 _ x (Nat.le_add_right _ _) ht]
  · obtain ⟨t, ht⟩ := List.getElem?_of_mem hx
    rw [List.getElem?_take] at ht
    split at ht
    · exact h1 t x (by assumption) ht
    · cases ht
/-- is the ID there, where it would stand? -/
def foundAt (xs : List Ord) (id : Int) : Bool := match xs[placeOf xs id]? with | some o => o.id == id | none => false
theorem place_lt {xs : List Ord} (h : xs.Pairwise idLt) (id : Int) : ∀ (t : Nat) x, xs[t]? = some x → (t < placeOf xs id ↔ x.id < id) := by
  induction xs with
  | nil => intro t x hx; simp at hx
  | cons y r ih =>
    intro t x hx
    have hr := (List.pairwise_cons.1 h)
    unfold placeOf at *
    rw [List.countP_cons]
    by_cases hy : y.id < id
    · cases t with
      | zero => simp at hx; subst hx; simp [hy]
      | succ t =>
        have := ih hr.2 t x (by simpa using hx)
        simp only [hy, decide_true, if_true]
        omega
    · have h0 : r.countP (fun o => decide (o.id < id)) = 0 := List.countP_eq_zero.2 fun z hz => by have := hr.1 z hz; unfold idLt at this; simp; omega
      rw [h0]
      have : ¬ x.id < id := by
        cases t with
        | zero => simp at hx; subst hx; exact hy
        | succ t => have hm := hr.1 x (List.mem_of_getElem? (by simpa using hx)); unfold idLt at hm; omega
      simp [hy, this]
theorem foundAt_iff {xs : List Ord} (h : xs.Pairwise idLt) (id : Int) : foundAt xs id = true ↔ ∃ o ∈ xs, o.id = id := by
  unfold foundAt
  constructor
  · intro hf
    cases ho : xs[placeOf xs id]? with
    | none => rw [ho] at hf; simp at hf
    | some o => rw [ho] at hf; simp at hf; exact ⟨o, List.mem_of_getElem? ho, hf⟩
  · rintro ⟨o, ho, rfl⟩
    obtain ⟨t, ht⟩ := List.getElem?_of_mem ho
    have h1 : ¬ t < placeOf xs o.id := by rw [place_lt h o.id t o ht]; omega
    have h2 : ¬ placeOf xs o.id < t := by
      intro hlt
      obtain ⟨z, hz⟩ : ∃ z, xs[placeOf xs o.id]? = some z := ⟨_, List.getElem?_eq_getElem (by have := (List.getElem?_eq_some_iff.1 ht).1; omega)⟩
      have := place_lt h o.id _ z hz
      have := pw_at h hz ht hlt
      omega
    have e : placeOf xs o.id = t := by omega
    rw [e, ht]; simp

set_option maxHeartbeats 1000000 in
theorem place1_c (x : Ord) (id : Int) (w : World) :
    Calls Tryd.prog 57 #[(.agg #[.int .i64 x.id, .int .i64 x.acct, .int .i64 x.inst, .int .u8 x.side, .int .i64 x.price, .int .i64 x.left]), .int .i64 id] w fun e w' => e = .returned (.int .i64 (cmpI x.id id)) ∧ Below w.heap.size w w' := by
  go_enter Tryd.func57, Tryd.ntmps57
  go_wp2_with (go_at_call 53; (with_reducible refine (compare64_c _ _ _).mono ?_); rintro e w1 ⟨rfl, rfl⟩)
  go_ret
  exact ⟨rfl, below_alloc _ _⟩

set_option maxHeartbeats 2000000 in
theorem search_O (a : Option Addr) (cap : Nat) (xs : List Ord) (id : Int) (w : World) (hs : SlO w a cap xs) (hpw : xs.Pairwise idLt) (hlen : xs.length ≤ 1000000) :
    Calls Tryd.prog 56 #[.slice a xs.length cap, .int .i64 id, .func (.func 57) #[] #[]] w fun e w' => e = .returned (.tuple #[.int .i64 (placeOf xs id : Nat), .bool (foundAt xs id)]) ∧ Below w.heap.size w w' := by
  have hle := hs.le
  have hmax := hs.max
  have HS := Lib.hid hs; clear hs
  have HPW := Lib.hid hpw; clear hpw
  obtain ⟨n, hn⟩ : ∃ n, n = xs.length := ⟨_, rfl⟩
  rw [← hn] at hle hlen ⊢
  have HN := Lib.hid hn; clear hn
  generalize hcn : placeOf xs id = cnt
  generalize hff : foundAt xs id = ff
  have HCN := Lib.hid hcn; clear hcn
  have HFF := Lib.hid hff; clear hff
  go_enter Tryd.func56, Tryd.ntmps56
  go_wp2
  go_loopg [9, 10] n (fun kx s9 s10 wr => ∃ lo hi : Nat, s9 = .int .i64 lo ∧ s10 = .int .i64 hi ∧ lo ≤ hi ∧ hi ≤ n ∧ hi - lo ≤ kx ∧ Hid (Below w.heap.size w wr) ∧
    Hid ((∀ (t : Nat) x, t < lo → xs[t]? = some x → x.id < id) ∧ (∀ (t : Nat) x, hi ≤ t → xs[t]? = some x → id ≤ x.id)))
  case atStart => exact ⟨0, n, rfl, rfl, Nat.zero_le _, Nat.le_refl _, by omega, Lib.hid (Below.refl _ _), Lib.hid ⟨fun t x ht => absurd ht (Nat.not_lt_zero _), fun t x h1 h2 => by have := (List.getElem?_eq_some_iff.1 h2).1; have := HN.out; omega⟩⟩
  case round =>
    obtain ⟨lo, hi, rfl, rfl, hlh, hin, hg, BW, I⟩ := hrel
    by_cases hlt : lo < hi
    · have hmid : (lo + hi) / 2 < xs.length := by have := HN.out; omega
      obtain ⟨y, HY⟩ : ∃ y, Hid (xs[(lo + hi) / 2]? = some y) := ⟨_, Lib.hid (List.getElem?_eq_getElem hmid)⟩
      obtain ⟨b, off, ha, hb, hc⟩ := SlR.cells6 HS.out (by intro h; rw [h] at hmid; simp at hmid)
      subst ha
      obtain ⟨x0, x1, x2, x3, x4, x5⟩ := (hc _ y HY.out).mono BW.out
      have hcall := place1_c y id wr
      clear hc hmid
      generalize hcv : cmpI y.id id = cv at hcall
      have HCV := Lib.hid hcv; clear hcv
      by_cases hyx : cv < 0
      · have hy : y.id < id := cmpI_neg.1 (by rw [HCV.out]; exact hyx)
        go_wp2_with (go_at_call 57; refine hcall.mono ?_; rintro e w' ⟨rfl, hb'⟩)
        go_roundg (hi - ((lo + hi) / 2 + 1))
        case measure => omega
        case rel =>
          exact ⟨(lo + hi) / 2 + 1, hi, by rw [show ((lo : Int) + (hi : Int)) / 2 + 1 = (((lo + hi) / 2 + 1 : Nat) : Int) by omega], rfl, by omega, hin, Nat.le_refl _, Lib.hid (grow_trans BW.out hb'),
            Lib.hid ⟨fun t x ht hx => by
              by_cases e : t = (lo + hi) / 2
              · subst e; have := HY.out.symm.trans hx; injection this with this; subst this; exact hy
              · have := pw_at HPW.out hx HY.out (by omega); omega, I.out.2⟩⟩
      · have hy : ¬ y.id < id := fun h => hyx (by rw [← HCV.out]; exact cmpI_neg.2 h)
        go_wp2_with (go_at_call 57; refine hcall.mono ?_; rintro e w' ⟨rfl, hb'⟩)
        go_roundg ((lo + hi) / 2 - lo)
        case measure => omega
        case rel =>
          exact ⟨lo, (lo + hi) / 2, rfl, by rw [show ((lo : Int) + (hi : Int)) / 2 = (((lo + hi) / 2 : Nat) : Int) by omega], by omega, by omega, Nat.le_refl _, Lib.hid (grow_trans BW.out hb'),
            Lib.hid ⟨I.out.1, fun t x ht hx => by
              by_cases e : t = (lo + hi) / 2
              · subst e; have := HY.out.symm.trans hx; injection this with this; subst this; omega
              · have := pw_at HPW.out HY.out hx (by omega); omega⟩⟩
    · obtain rfl : hi = lo := by omega
      have hcnt : placeOf xs id = hi := countP_at _ xs hi (by have := HN.out; omega) (fun t x ht hx => by simp [I.out.1 t x ht hx]) (fun t x ht hx => by have := I.out.2 t x ht hx; simp; omega)
      have e1 := HCN.out
      rw [hcnt] at e1
      have HE1 := Lib.hid e1; clear e1
      have HCNT := Lib.hid hcnt; clear hcnt
      by_cases hn : hi < n
      · have hmid : hi < xs.length := by have := HN.out; omega
        obtain ⟨y, HY⟩ : ∃ y, Hid (xs[hi]? = some y) := ⟨_, Lib.hid (List.getElem?_eq_getElem hmid)⟩
        obtain ⟨b, off, ha, hb, hc⟩ := SlR.cells6 HS.out (by intro h; rw [h] at hmid; simp at hmid)
        subst ha
        obtain ⟨x0, x1, x2, x3, x4, x5⟩ := (hc _ y HY.out).mono BW.out
        have hcall := place1_c y id wr
        have hf : foundAt xs id = (cmpI y.id id == 0) := by
          unfold foundAt; rw [HCNT.out, HY.out, Bool.eq_iff_iff]; simp [cmpI_zero]
        clear hc hmid
        generalize hcv : cmpI y.id id = cv at hcall hf
        have HF := Lib.hid (HFF.out.symm.trans hf); clear hf
        go_wp2_with (go_at_call 57; refine hcall.mono ?_; rintro e w' ⟨rfl, hb'⟩)
        all_goals
          go_ret2
          exact ⟨ret_ib (by rw [HE1.out]) (by rw [HF.out]), grow_trans BW.out hb'⟩
      · have hf : foundAt xs id = false := by unfold foundAt; rw [HCNT.out, List.getElem?_eq_none (by have := HN.out; omega)]
        have HF := Lib.hid (HFF.out.symm.trans hf); clear hf
        go_wp2
        go_ret2
        exact ⟨ret_ib (by rw [HE1.out]) (by rw [HF.out]), BW.out⟩

set_option maxHeartbeats 1000000 in
theorem place_c (a : Option Addr) (cap : Nat) (xs : List Ord) (id : Int) (w : World) (hs : SlO w a cap xs) (hpw : xs.Pairwise idLt) (hlen : xs.length ≤ 1000000) :
    Calls Tryd.prog 49 #[.slice a xs.length cap, .int .i64 id] w fun e w' => e = .returned (.tuple #[.int .i64 (placeOf xs id : Nat), .bool (foundAt xs id)]) ∧ Below w.heap.size w w' := by
  have h := search_O a cap xs id w hs hpw hlen
  clear hs hpw hlen
  generalize xs.length = n at *
  generalize placeOf xs id = cnt at *
  generalize foundAt xs id = ff at *
  go_enter Tryd.func49, Tryd.ntmps49
  go_wp2_with (go_at_call 56; refine h.mono ?_; rintro e w1 ⟨rfl, hb1⟩)
  go_ret2
  exact ⟨rfl, hb1⟩
end Go.Proofs.YtecfajnmekpeoaaDoor
