/-
  Part 2 of the texts of: StateNames: its row: whatever the input: true; the input reads as it did. Conditions: none.
-/
import Derived.Test.YtekomjnjddhfmaaGreatZW1
import Derived.Sort.OwnSorted
import Derived.RangeFuncNested
import Derived.RangeFuncLeaves
import Derived.LoopNIn
import Derived.TacticsIn
import Derived.SizedLaws
namespace Go.Proofs.YtekomjnjddhfmaaGreat
open Go.RowKit Go.PlainAid Go.Sort

abbrev rawS (l : List ByteArray) : List (List UInt8) := l.map fun x => x.data.toList
def txtS (l : List (List UInt8)) : List ByteArray := l.map fun x => ⟨x.toArray⟩
theorem encStr_raw (l : List ByteArray) : (rawS l).map encStr = l.flatMap encT := by
  induction l with
  | nil => rfl
  | cons x r ih => rw [List.flatMap_cons, ← ih]; simp [rawS, encT]
theorem encStr_txt (l : List (List UInt8)) : l.map encStr = (txtS l).flatMap encT := by
  induction l with
  | nil => rfl
  | cons x r ih =>
    have : txtS (x :: r) = ⟨x.toArray⟩ :: txtS r := rfl
    rw [this, List.flatMap_cons, ← ih]; rfl
theorem nodup_raw (l : List ByteArray) : (rawS l).Nodup ↔ l.Nodup := by
  unfold rawS List.Nodup
  rw [List.pairwise_map]
  constructor
  · exact fun h => h.imp fun h e => h (by rw [e])
  · exact fun h => h.imp fun h e => h (by
      rename_i a b; cases a; cases b; simp at e; rw [e])
theorem le_anti {a b : List UInt8} (h1 : a ≤ b) (h2 : b ≤ a) : a = b := List.le_antisymm h1 h2
theorem compact_nodup {zs : List (List UInt8)} (hs : zs.Pairwise (· ≤ ·)) : (Lib.compact zs).length = zs.length ↔ zs.Nodup := by
  have h0 : (Lib.compact zs).length = zs.length ↔ ∀ j, j < zs.length → Lib.keeps zs.toArray j = true := by
    unfold Lib.compact Lib.compactUpTo
    rw [List.length_map]
    have : zs.length = (List.range zs.length).length := by simp
    conv => lhs; rhs; rw [this]
    rw [List.length_filter_eq_length_iff]
    simp
  rw [h0]
  have hk : ∀ j, j < zs.length → (Lib.keeps zs.toArray j = true ↔ (j = 0 ∨ zs[j]? ≠ zs[j - 1]?)) := by
    intro j hj
    unfold Lib.keeps
    rw [decide_eq_true_eq]
    have e1 : zs.toArray[j]! = zs[j] := by rw [getElem!_pos zs.toArray j (by simpa using hj)]; simp
    have e2 : zs.toArray[j - 1]! = zs[j - 1]'(by omega) := by rw [getElem!_pos zs.toArray (j - 1) (by simp; omega)]; simp
    rw [e1, e2, List.getElem?_eq_getElem hj, List.getElem?_eq_getElem (show j - 1 < zs.length by omega)]
    simp
  constructor
  · intro h
    unfold List.Nodup
    rw [List.pairwise_iff_getElem] at hs ⊢
    intro i j hi hj hij e
    have h1 := hs i (j - 1) hi (by omega)
    have h2 := hs (j - 1) j (by omega) hj (by omega)
    rcases (hk j hj).1 (h j hj) with h3 | h3
    · omega
    · apply h3
      rw [List.getElem?_eq_getElem hj, List.getElem?_eq_getElem (show j - 1 < zs.length by omega)]
      congr 1
      by_cases hij2 : i = j - 1
      · subst hij2; exact e.symm
      · have h4 := h1 (by omega)
        rw [e] at h4
        exact le_anti h4 h2
  · intro h j hj
    rw [hk j hj]
    by_cases h0 : j = 0
    · exact Or.inl h0
    · refine Or.inr fun e => ?_
      rw [List.getElem?_eq_getElem hj, List.getElem?_eq_getElem (show j - 1 < zs.length by omega)] at e
      injection e with e
      have := (List.pairwise_iff_getElem.1 h) (j - 1) j (by omega) hj (by omega)
      exact this e.symm
theorem sorted_le (ss : List (List UInt8)) : (ss.mergeSort fun x y => decide (x ≤ y)).Pairwise (· ≤ ·) := by
  have tr : ∀ a b c : List UInt8, decide (a ≤ b) = true → decide (b ≤ c) = true → decide (a ≤ c) = true := fun a b c h1 h2 => by simp only [decide_eq_true_eq] at *; exact List.le_trans h1 h2
  have to : ∀ a b : List UInt8, (decide (a ≤ b) || decide (b ≤ a)) = true := fun a b => by simp only [Bool.or_eq_true, decide_eq_true_eq]; exact List.le_total a b
  exact (List.pairwise_mergeSort tr to ss).imp fun h => by simpa using h
theorem sortS_c {base : Nat} {w : World} {v : Value} {xs : List ByteArray} (h : Own encT 1 9 base w v xs) (hl : xs.length ≤ 1048576) : Calls Tryz.prog 128 #[v] w fun e w' => e = .returned (.tuple #[]) ∧ (∃ ys : List ByteArray, ys.length = xs.length ∧ (rawS ys).Pairwise (· ≤ ·) ∧ (ys.Nodup ↔ xs.Nodup) ∧ Own encT 1 9 base w' v ys) ∧ w.grownBy w' v.ownBlock := by
  obtain ⟨h1, h2⟩ := h
  rcases h2 with ⟨rfl, h0⟩ | ⟨g, cap, cur, rfl, hb, hg, hle, hmax, hsz, htk⟩
  · have hx : xs = [] := List.length_eq_zero_iff.1 h0
    subst hx
    refine (AnyM.slices_Sort_string_none Tryz.sortM none 0 w).mono ?_
    rintro e w' ⟨rfl, rfl⟩
    exact ⟨rfl, ⟨[], rfl, List.Pairwise.nil, Iff.rfl, Own.nil _⟩, ⟨rfl, rfl, rfl, Nat.le_refl _, fun _ _ _ => rfl⟩⟩
  · have hr : (rawS xs).length = xs.length := by simp [rawS]
    have hH : Go.Sort.Holds encStr w g 0 (rawS xs).toArray := holds_of_block hg (by rw [hr, encStr_raw]; simpa using htk)
    have hgl : g < w.heap.size := (Array.getElem?_eq_some_iff.1 hg).1
    have hc := AnyM.slices_Sort_string Tryz.sortM g 0 cap (rawS xs) w hH hgl (by rw [hr]; omega)
    rw [hr] at hc
    refine hc.mono ?_
    rintro e w' ⟨rfl, n, os, rfl⟩
    have hp := List.mergeSort_perm (rawS xs) (fun x y => decide (x ≤ y))
    have hs := sorted_le (rawS xs)
    generalize (rawS xs).mergeSort (fun x y => decide (x ≤ y)) = ts at hp hs
    have htl : ts.length = (rawS xs).length := hp.length_eq
    have hraw : rawS (txtS ts) = ts := by simp [rawS, txtS, List.map_map, Function.comp_def]
    refine ⟨rfl, ⟨txtS ts, by simp [txtS, htl, rawS], by rw [hraw]; exact hs, ?_, ?_⟩, grownBy_sorted _⟩
    · rw [← nodup_raw, hraw, hp.nodup_iff, nodup_raw]
    · have hq := ownsRow_sorted (n := n) (os := os) htl hb hg (by rw [hr]; exact hle) hmax hsz
      rw [encStr_txt, hr] at hq
      unfold Own
      rw [show (txtS ts).length = xs.length by simp [txtS, htl, rawS]]
      exact hq
theorem compS_c {base : Nat} {w : World} {v : Value} {xs : List ByteArray} (h : Own encT 1 9 base w v xs) (hb0 : base ≤ w.heap.size) (hl : xs.length ≤ 1048576) : Calls Tryz.prog 129 #[v] w fun e w' => (∃ a c, e = .returned (.slice a (Lib.compact (rawS xs)).length c)) ∧ Below base w w' := by
  obtain ⟨h1, h2⟩ := h
  rcases h2 with ⟨rfl, h0⟩ | ⟨g, cap, cur, rfl, hb, hg, hle, hmax, hsz, htk⟩
  · have hx : xs = [] := List.length_eq_zero_iff.1 h0
    subst hx
    refine (AnyG.slices_Compact_string_empty Tryz.compS none 0 w).mono ?_
    rintro e w' ⟨rfl, rfl⟩
    exact ⟨⟨none, 0, rfl⟩, Below.refl _ _⟩
  · have hr : (rawS xs).length = xs.length := by simp [rawS]
    have hH : Go.Sort.Holds encStr w g 0 (rawS xs).toArray := holds_of_block hg (by rw [hr, encStr_raw]; simpa using htk)
    have hc := AnyG.slices_Compact_string Tryz.compS g 0 cap (rawS xs) w hH (by rw [hr]; omega) (by rw [hr]; exact hle)
    rw [hr] at hc
    refine hc.mono ?_
    rintro e w' ⟨rfl, q, rfl⟩
    refine ⟨⟨_, _, rfl⟩, ?_⟩
    have hgr := grownBy_sorted (w := w) (g := g) (n := q) (os := #[]) (Lib.compact (rawS xs) ++ List.replicate (xs.length - (Lib.compact (rawS xs)).length) []).toArray
    rw [grow_empty] at hgr
    exact (Below.refl _ _).grown hgr hb0 (fun r hr => by injection hr with hr; omega)
theorem elemTx : ElemT Tryz.prog 129 9 1 16 := elem_of Tryz.underlying129 (by kernel_rfl) (by omega)
set_option maxRecDepth 20000 in
theorem contg_T {xs : List ByteArray} {m : Nat} {ad : Option Addr} {cap : Nat} {w : World} (base : Nat) (bs : List Bool) (F : FuncId) (caps : Array Value) (he : entersB Tryz.prog F = true) (hbw : base ≤ w.heap.size) (hbs : bs.length = xs.length) (hF : ∀ (j : Nat) x b, xs[j]? = some x → bs[j]? = some b → ∀ w', Below base w w' → Calls Tryz.prog F (#[] ++ [Value.string x].toArray ++ caps) w' fun e w'' => e = .returned (.bool b) ∧ Below w'.heap.size w' w'') (hm : xs.length = m) (HS : SlR encT 1 w ad cap xs) : Calls Tryz.prog 125 #[.slice ad m cap, .func (.func F) #[] caps] w fun e w' => e = .returned (.bool (bs.any id)) ∧ Below w.heap.size w w' := by
  have hI : Calls Tryz.prog 141 #[.slice ad m cap, .func (.func F) #[] caps] w fun e w' => (∃ i : Int, e = .returned (.int .i64 i) ∧ decide (i ≥ 0) = bs.any id ∧ -1 ≤ i) ∧ Below w.heap.size w w' := by
    subst hm
    have hw := Below.refl w.heap.size w
    have hla := HS.le
    have hma := HS.max
    refine fn_enter 19 Tryz.func141 rfl rfl rfl ?_
    repeat' (first | (refine lw_pure rfl (pv_move rfl) ?_) | (refine lw_pure rfl (pv_assign rfl) ?_) | (refine is_cw ?_; first | (refine cw_seq ?_) | (refine cw_region ?_) | (refine cw_block ?_)) | (refine is_qw ?_; first | (with_reducible refine qw_then ?_)) | (refine lw_nil ?_) | ((refine is_bi ?_; first | (refine lw_pure rfl (pv_lenl (tS rfl) rfl) ?_))))
    refine cw_loop (σ := Nat) (fun k => [(0, .slice ad xs.length cap), (1, .func (.func F) #[] caps), (7, .int .i64 (xs.length : Nat)), (8, .int .i64 (k : Nat))]) (fun k wr => k ≤ xs.length ∧ Below w.heap.size w wr ∧ ∀ b ∈ bs.take k, b = false) (fun k => xs.length - k) 0 (by repeat' (first | exact trivial | refine ⟨rfl, ?_⟩)) ⟨Nat.zero_le _, hw, by simp⟩ ?_
    clear hw
    rintro k wr ⟨hk, hw, hn⟩
    by_cases hlt : k < xs.length
    · have hxk : xs[k]? = some xs[k] := List.getElem?_eq_getElem hlt
      have hbk : bs[k]? = some (bs[k]'(by omega)) := List.getElem?_eq_getElem _
      obtain ⟨ab, ao, rfl, -, -⟩ := HS.at (by intro h; rw [h] at hlt; simp at hlt)
      generalize xs[k] = x at hxk
      generalize bs[k]'(by omega) = b at hbk
      repeat' (first | (refine lw_pure rfl (pv_move rfl) ?_) | (refine lw_pure rfl (pv_assign rfl) ?_) | (refine is_cw ?_; first | (refine cw_seq ?_) | (refine cw_region ?_) | (refine is_cd ?_; refine cw_true rfl (by first | assumption | exact decide_eq_true (by omega) | exact dec_notT (by omega)) ?_) | (refine cw_skip ?_) | (refine cw_block ?_)) | (refine is_qw ?_; first | (with_reducible refine qw_then ?_)) | (refine lw_nil ?_) | ((refine is_bin ?_; first | (refine lw_pure rfl (pv_lss rfl rfl) ?_))) | ((refine is_load ?_; first | (refine lw_pure rfl (pv_load (t1 rfl) rfl (by first | exact SlR.ld (HS.mono hw) hxk rfl | exact SlR.ld1 (HS.mono hw) hxk rfl)) ?_))) | ((refine is_ia ?_; first | (refine lw_pure rfl (pv_ian (tS rfl) rfl rfl (by omega)) ?_))))
      refine lw_callv (f := F) rfl he rfl rfl (hF k x b hxk hbk _ (hw.mono hbw)) ?_; rintro e w1 ⟨rfl, hb⟩; refine ⟨_, rfl, ?_⟩; replace hw := grow_trans hw hb; clear hb
      cases b with
      | true =>
        repeat' (first | (refine lw_pure rfl (pv_move rfl) ?_) | (refine lw_pure rfl (pv_assign rfl) ?_) | (refine is_cw ?_; first | (refine cw_seq ?_) | (refine cw_region ?_) | (refine cw_true rfl rfl ?_) | (refine cw_ret ?_)) | (refine is_qw ?_; first | (with_reducible refine qw_then ?_) | (with_reducible refine qw_then_ret ?_) | (with_reducible refine qw_in_ret ?_)) | (refine lw_nil ?_))
        exact qw_ret1 rfl rfl ⟨⟨_, rfl, by rw [decide_eq_true (by omega)]; symm; rw [List.any_eq_true]; exact ⟨true, List.mem_of_getElem? hbk, rfl⟩, by omega⟩, hw⟩
      | false =>
        repeat' (first | (refine lw_pure rfl (pv_move rfl) ?_) | (refine is_cw ?_; first | (refine cw_region ?_) | (refine cw_false rfl rfl ?_) | (refine cw_skip ?_)) | (refine is_qw ?_; first | (with_reducible refine qw_then ?_) | (with_reducible refine qw_in ?_)) | (refine lw_nil ?_) | ((refine is_bin ?_; first | (refine lw_pure rfl (pv_inc rfl rfl (by omega)) ?_))))
        refine qw_round (k + 1) (by repeat' (first | exact trivial | refine ⟨rfl, ?_⟩)) ⟨by omega, hw, ?_⟩ (by omega)
        intro y hy
        rw [List.take_add_one, hbk] at hy
        rcases List.mem_append.1 hy with hy | hy
        · exact hn y hy
        · simpa using hy
    · have hkl : k = xs.length := by omega
      subst hkl
      rw [← hbs, List.take_length] at hn
      repeat' (first | (refine lw_pure rfl (pv_assign rfl) ?_) | (refine is_cw ?_; first | (refine cw_seq ?_) | (refine cw_region ?_) | (refine is_cd ?_; refine cw_false rfl (by first | assumption | exact decide_eq_false (by omega) | exact dec_notF (by omega)) ?_) | (refine cw_exit ?_) | (refine cw_ret ?_)) | (refine is_qw ?_; first | (with_reducible refine qw_then ?_) | (with_reducible refine qw_in_hit ?_) | (with_reducible refine qw_then_exit ?_)) | (refine lw_nil ?_) | ((refine is_bin ?_; first | (refine lw_pure rfl (pv_lss rfl rfl) ?_))))
      exact qw_ret1 rfl rfl ⟨⟨_, rfl, by rw [decide_eq_false (by omega)]; symm; rw [List.any_eq_false]; intro b hb; rw [hn b hb]; decide, by omega⟩, hw⟩
  have hw := Below.refl w.heap.size w
  refine fn_enter 9 Tryz.func125 rfl rfl rfl ?_
  repeat' (first | (refine lw_pure rfl (pv_move rfl) ?_) | (refine lw_pure rfl (pv_assign rfl) ?_) | (refine is_cw ?_; first | (refine cw_seq ?_) | (refine cw_region ?_)) | (refine is_qw ?_; first | (with_reducible refine qw_then ?_)) | (refine lw_nil ?_))
  refine lw_call (f := 141) (by kernel_rfl) rfl rfl (hI) ?_; rintro e w1 ⟨⟨i, rfl, hv, hi⟩, hb⟩; refine ⟨_, rfl, ?_⟩; replace hw := grow_trans hw hb; clear hb
  repeat' (first | (refine lw_pure rfl (pv_assign rfl) ?_) | (refine is_cw ?_; first | (refine cw_ret ?_)) | (refine is_qw ?_; first | (with_reducible refine qw_then ?_)) | (refine lw_nil ?_) | ((refine is_bin ?_; first | (refine lw_pure rfl (pv_geq rfl rfl) ?_))))
  exact qw_ret1 rfl rfl ⟨by rw [← hv], hw⟩

set_option maxRecDepth 20000 in
theorem clone_T {xs : List ByteArray} {m : Nat} {ad : Option Addr} {cap : Nat} {w : World} (hm : xs.length = m) (HS : SlR encT 1 w ad cap xs) (hl : xs.length ≤ 1048576) : Calls Tryz.prog 130 #[.slice ad m cap] w fun e w' => (∃ v, e = .returned v ∧ Own encT 1 9 w.heap.size w' v xs) ∧ Below w.heap.size w w' := by
  subst hm
  have hw := Below.refl w.heap.size w
  refine fn_enter 8 Tryz.func130 rfl rfl rfl ?_
  cases ad with
  | none =>
    obtain ⟨rfl, rfl⟩ := HS.ofNone rfl
    repeat' (first | (refine lw_pure rfl (pv_move rfl) ?_) | (refine lw_pure rfl (pv_assign rfl) ?_) | (refine lw_pure rfl (pv_slnil (tS rfl) rfl rfl) ?_) | (refine is_cw ?_; first | (refine cw_seq ?_) | (refine cw_region ?_) | (refine cw_true rfl rfl ?_) | (refine cw_ret ?_)) | (refine is_qw ?_; first | (with_reducible refine qw_then ?_) | (with_reducible refine qw_then_ret ?_)) | (refine lw_nil ?_))
    exact qw_ret1 rfl rfl ⟨⟨_, rfl, Own.nil _⟩, hw⟩
  | some ad =>
    repeat' (first | (refine lw_pure rfl (pv_move rfl) ?_) | (refine lw_pure rfl (pv_assign rfl) ?_) | (refine lw_pure rfl (pv_slnil (tS rfl) rfl rfl) ?_) | (refine is_cw ?_; first | (refine cw_seq ?_) | (refine cw_region ?_) | (refine cw_false rfl rfl ?_) | (refine cw_skip ?_)) | (refine is_qw ?_; first | (with_reducible refine qw_then ?_)) | (refine lw_nil ?_))
    refine lw_bs0 (enc := encT) elemTx rfl ?_; intro wn hO hb hz
    repeat' (first | (refine lw_pure rfl (pv_move rfl) ?_))
    refine lw_app elemTx encT_len encT_one rfl rfl rfl hO (HS.mono (grow_trans hw hb)) rfl (by omega) (by simp; omega) (by simp [maxLen]; omega) ?_; intro vm wn hOm hg hb9
    replace hb := hb.trans hb9
    repeat' (first | (refine lw_pure rfl (pv_assign rfl) ?_) | (refine is_cw ?_; first | (refine cw_ret ?_)) | (refine is_qw ?_; first | (with_reducible refine qw_then ?_)) | (refine lw_nil ?_))
    exact qw_ret1 rfl rfl ⟨⟨_, rfl, hOm⟩, hb⟩

set_option maxRecDepth 20000 in
theorem namedS_c {x : ByteArray} {w : World} (hx : x.size ≤ 140737488355328) : Calls Tryz.prog 126 #[.string x] w fun e w' => e = .returned (.bool (!nameR x)) ∧ Below w.heap.size w w' := by
  have hw := Below.refl w.heap.size w
  refine fn_enter 6 Tryz.func126 rfl rfl rfl ?_
  repeat' (first | (refine lw_pure rfl (pv_move rfl) ?_) | (refine lw_pure rfl (pv_assign rfl) ?_) | (refine lw_call (f := 127) (by kernel_rfl) rfl rfl (name_c _ (by omega) _) ?_; rintro e w1 ⟨rfl, hb⟩; refine ⟨_, rfl, ?_⟩; replace hw := grow_trans hw hb; clear hb) | (refine is_cw ?_; first | (refine cw_seq ?_) | (refine cw_region ?_) | (refine cw_ret ?_)) | (refine is_qw ?_; first | (with_reducible refine qw_then ?_)) | (refine lw_nil ?_) | ((refine is_un ?_; first | (refine lw_pure rfl (pv_not rfl) ?_))))
  exact qw_ret1 rfl rfl ⟨rfl, hw⟩
set_option maxRecDepth 20000 in
set_option maxHeartbeats 2000000 in
theorem nameds_c {base : Nat} {w : World} {v : Value} {xs : List ByteArray} (h : Own encT 1 9 base w v xs) (hb0 : base ≤ w.heap.size) (hl : xs.length ≤ 1048576) (hx : ∀ x ∈ xs, x.size ≤ 140737488355328) : Calls Tryz.prog 102 #[v] w fun e w' => e = .returned (.bool (namesB xs)) ∧ Below base w w' := by
  obtain ⟨a, cap, hv, HS, -⟩ := Own.slR encT_len h
  subst hv
  have hw := Below.refl w.heap.size w
  have hc := contg_T (w := w) w.heap.size (xs.map fun x => !nameR x) 126 #[] (by kernel_rfl) (Nat.le_refl _) (by simp) (fun j x b hxj hb w' _ => by
    rw [List.getElem?_map, hxj] at hb
    simp only [Option.map_some, Option.some.injEq] at hb
    subst hb
    exact namedS_c (hx x (List.mem_of_getElem? hxj))) rfl HS
  unfold namesB
  refine fn_enter 14 Tryz.func102 rfl rfl rfl ?_
  cases hA : xs.all nameR with
  | false =>
    have hB : (xs.map fun x => !nameR x).any id = true := by
      rw [List.any_map, List.any_eq_true]
      obtain ⟨x, hxm, hxn⟩ := List.all_eq_false.1 hA
      exact ⟨x, hxm, by simpa using hxn⟩
    rw [hB] at hc
    repeat' (first | (refine lw_pure rfl (pv_move rfl) ?_) | (refine lw_pure rfl (pv_assign rfl) ?_) | (refine lw_call (f := 125) (by kernel_rfl) rfl rfl (hc) ?_; rintro e w1 ⟨rfl, hb⟩; refine ⟨_, rfl, ?_⟩; replace hw := grow_trans hw hb; clear hb) | (refine is_cw ?_; first | (refine cw_seq ?_) | (refine cw_region ?_) | (refine cw_true rfl rfl ?_) | (refine cw_ret ?_)) | (refine is_qw ?_; first | (with_reducible refine qw_then ?_) | (with_reducible refine qw_then_ret ?_)) | (refine lw_nil ?_))
    exact qw_ret1 rfl rfl ⟨rfl, hw.mono hb0⟩
  | true =>
    have hB : (xs.map fun x => !nameR x).any id = false := by
      rw [List.any_map, List.any_eq_false]
      intro x hxm
      have := List.all_eq_true.1 hA x hxm
      simp [this]
    rw [hB] at hc
    repeat' (first | (refine lw_pure rfl (pv_move rfl) ?_) | (refine lw_pure rfl (pv_assign rfl) ?_) | (refine lw_call (f := 125) (by kernel_rfl) rfl rfl (hc) ?_; rintro e w1 ⟨rfl, hb⟩; refine ⟨_, rfl, ?_⟩; replace hw := grow_trans hw hb; clear hb) | (refine is_cw ?_; first | (refine cw_seq ?_) | (refine cw_region ?_) | (refine cw_false rfl rfl ?_) | (refine cw_skip ?_)) | (refine is_qw ?_; first | (with_reducible refine qw_then ?_)) | (refine lw_nil ?_))
    replace h := h.mono hw
    have hb1 := hw.size
    refine lw_call (f := 128) (by kernel_rfl) rfl rfl (sortS_c h hl) ?_; rintro e w2 ⟨rfl, ⟨ys, hyl, hys, hyn, h2⟩, hg⟩; refine ⟨_, rfl, ?_⟩
    have hg2 := hg
    have hT : Below base w w2 := (hw.mono hb0).grown hg (Nat.le_trans hb0 hb1) (fun q hq => (Own.lt h q hq).1)
    clear hw hg hc
    have hw := Below.refl w2.heap.size w2
    obtain ⟨a2, cap2, hv2, HS2, -⟩ := Own.slR encT_len h2
    rw [hyl] at hv2
    injection hv2 with e1 _ e3
    subst e1 e3
    repeat' (first | (refine lw_pure rfl (pv_move rfl) ?_) | (refine is_cw ?_; first | (refine cw_seq ?_) | (refine cw_region ?_)) | (refine is_qw ?_; first | (with_reducible refine qw_then ?_)) | (refine lw_nil ?_))
    refine lw_call (f := 130) (by kernel_rfl) rfl rfl (clone_T hyl HS2 (by omega)) ?_; rintro e w3 ⟨⟨v3, rfl, h3⟩, hb⟩; refine ⟨_, rfl, ?_⟩
    have hs3 := hb.size
    have hs2 := hg2.size
    replace hT := hT.trans (hb.mono (by omega))
    clear hb hw
    skip
    refine lw_call (f := 129) (by kernel_rfl) rfl rfl (compS_c h3 hs3 (by omega)) ?_; rintro e w4 ⟨⟨a4, c4, rfl⟩, hb⟩; refine ⟨_, rfl, ?_⟩
    replace hT := hT.trans (hb.mono (by omega))
    have hcn := compact_nodup hys
    rw [nodup_raw, hyn] at hcn
    have hyr : (rawS ys).length = xs.length := by simp [rawS, hyl]
    rw [hyr] at hcn
    have hw := Below.refl w4.heap.size w4
    repeat' (first | (refine lw_pure rfl (pv_move rfl) ?_) | (refine lw_pure rfl (pv_assign rfl) ?_) | (refine is_cw ?_; first | (refine cw_ret ?_)) | (refine is_qw ?_; first | (with_reducible refine qw_then ?_)) | (refine lw_nil ?_) | ((refine is_bin ?_; first | (refine lw_pure rfl (pv_eql rfl rfl) ?_))) | ((refine is_bi ?_; first | (refine lw_pure rfl (pv_lenl (tS rfl) rfl) ?_))))
    refine qw_ret1 rfl rfl ⟨ret_bool ?_, hT⟩
    rw [Bool.true_and, decide_eq_decide, ← hcn]; omega
end Go.Proofs.YtekomjnjddhfmaaGreat
namespace Go.Proofs.YtekomjnjddhfmaaGreat
open Go.RowKit Go.PlainAid

theorem elemTy : ElemT Tryz.prog 129 9 1 16 := elem_of Tryz.underlying129 (by kernel_rfl) (by omega)
theorem names_take {α : Type} (f : α → ByteArray) {l : List α} {k : Nat} {x : α} (h : l[k]? = some x) : (l.take (k + 1)).map f = (l.take k).map f ++ [f x] := by
  rw [List.take_add_one, h]; simp
theorem own_len {T : TypeId} {base : Nat} {w : World} {v : Value} {xs : List ByteArray} {m : Nat} (h : Own encT 1 T base w v xs) (hm : xs.length = m) : ∃ a c, v = .slice a m c := by
  obtain ⟨a, c, hv, -, -⟩ := Own.slR encT_len h
  exact ⟨a, c, by rw [hv, hm]⟩
set_option maxRecDepth 20000 in
set_option maxHeartbeats 2000000 in
theorem accounts_c {s : SttC} {t : Stt} {w : World} (hS : StR w s t) (hx : ∀ x ∈ t.accs, x.name.size ≤ 140737488355328) (hl : t.accs.length ≤ 1048576) : Calls Tryz.prog 71 #[(.agg (encS s).toArray)] w fun e w' => e = .returned (.bool (accsB t.accs)) ∧ Below w.heap.size w w' := by
  have hE := Ext.refl w
  have hw := Below.refl w.heap.size w
  have hma := hS.ma
  refine fn_enter 26 Tryz.func71 rfl rfl rfl ?_
  repeat' (first | (refine is_cw ?_; first | (refine cw_seq ?_) | (refine cw_region ?_)))
  refine lw_boxN rfl rfl (cs := encS s) rfl ?_; intro N2 wn hN2 HX hb; replace hN2 := Nat.le_trans hw.size hN2; replace hw := grow_trans hw hb; clear hb
  replace hE := hE.mono hw; replace hS := hS.mono hw; clear hw; have hw := Below.refl wn.heap.size wn
  have HA := hS.A
  have hal := HA.le
  have ham := HA.max
  unfold accsB
  repeat' (first | (refine lw_pure rfl (pv_move rfl) ?_) | (refine lw_pure rfl (pv_assign rfl) ?_) | (refine is_cw ?_; first | (refine cw_seq ?_) | (refine cw_region ?_) | (refine cw_block ?_)) | (refine is_qw ?_; first | (with_reducible refine qw_then ?_)) | (refine lw_nil ?_) | ((refine is_load ?_; first | (refine lw_pure rfl (pv_load (t1 rfl) rfl (by first | exact PT.ld0 (HX.mono hw) rfl | exact PT.ld (HX.mono hw) rfl)) ?_))) | ((refine is_fa ?_; first | (refine lw_pure rfl (pv_fa (tF rfl) rfl) ?_))) | ((refine is_bi ?_; first | (refine lw_pure rfl (pv_lenl (tS rfl) rfl) ?_))))
  refine cw_loop (σ := Nat × Value) (fun q => [(3, q.2), (7, .slice s.pa s.ma s.ca), (8, .int .i64 (s.ma : Nat)), (9, .int .i64 (q.1 : Nat))]) (fun q wr => q.1 ≤ s.ma ∧ Below wn.heap.size wn wr ∧ Own encT 1 9 wn.heap.size wr q.2 ((t.accs.take q.1).map (·.name))) (fun q => s.ma - q.1) (0, .slice none 0 0) (by repeat' (first | exact trivial | refine ⟨rfl, ?_⟩)) ⟨Nat.zero_le _, hw, Own.nil _⟩ ?_
  clear hw
  rintro ⟨k, v⟩ wr ⟨hk, hw, hO⟩
  dsimp only at hk hO
  change CW _ _ _ _ [(3, v), (7, .slice s.pa s.ma s.ca), (8, .int .i64 (s.ma : Nat)), (9, .int .i64 (k : Nat))] wr
  by_cases hlt : k < s.ma
  · have hxk : t.accs[k]? = some (t.accs[k]'(by omega)) := List.getElem?_eq_getElem _
    obtain ⟨ab, ao, hpa, -, -⟩ := HA.at (by intro h; rw [h] at hma; simp at hma; omega)
    rw [hpa] at HA ⊢
    generalize t.accs[k]'(by omega) = x at hxk
    have hnt := names_take Acc.name hxk
    repeat' (first | (refine is_cw ?_; first | (refine cw_seq ?_) | (refine cw_region ?_) | (refine is_cd ?_; refine cw_true rfl (by first | assumption | exact decide_eq_true (by omega) | exact dec_notT (by omega)) ?_) | (refine cw_skip ?_) | (refine cw_block ?_)) | (refine is_qw ?_; first | (with_reducible refine qw_then ?_)) | (refine lw_nil ?_) | ((refine is_bin ?_; first | (refine lw_pure rfl (pv_lss rfl rfl) ?_))) | ((refine is_load ?_; first | (refine lw_pure rfl (pv_loada (tA rfl) rfl (by first | exact SlR.lda (HA.mono hw) hxk) (by rfl)) ?_))) | ((refine is_ia ?_; first | (refine lw_pure rfl (pv_ian (tS rfl) rfl rfl (by omega)) ?_))))
    refine lw_varN rfl (by first | exact tyv_29 | exact tyv_30 | exact tyv_33 | exact tyv_34 | exact tyv_36 | exact tyv_37 | exact tyv_38 | exact tyv_39 | exact tyv_40 | exact tyv_41 | exact tyv_43 | exact tyv_44 | exact tyv_45 | exact tyv_46 | exact tyv_73 | exact tyv_74 | exact tyv_80 | exact tyv_81 | exact tyv_107 | exact tyv_108 | exact tyv_123 | exact tyv_146 | exact tyv_147 | exact tyv_148 | exact tyv_149) rfl (tZ rfl) (fun _ => rfl) rfl rfl ?_; intro N5 w5 hN5 HV hb
    replace HV : PT w5 N5 34 (encA x) := HV
    replace hO := hO.mono (grow_trans (Below.refl _ _) hb)
    replace hw := grow_trans hw hb
    clear hb
    repeat' (first | (refine lw_pure rfl (pv_move rfl) ?_) | (refine is_cw ?_; first | (refine cw_region ?_)) | (refine is_qw ?_; first | (with_reducible refine qw_then ?_)) | (refine lw_nil ?_) | ((refine is_load ?_; first | (refine lw_pure rfl (pv_load (t1 rfl) rfl (by first | exact PT.ld0 HV rfl | exact PT.ld HV rfl)) ?_))) | ((refine is_fa ?_; first | (refine lw_pure rfl (pv_fa (tF rfl) rfl) ?_))))
    refine lw_bs1 elemTy rfl rfl (cs := encT x.name) rfl rfl (by omega) ?_; intro w6 HB hb hz6
    have hs4 := hw.size
    have hs5 := hb.size
    replace hw := grow_trans hw hb
    replace hO := hO.mono hb
    clear hb
    skip
    refine lw_app elemTy encT_len encT_one rfl rfl rfl hO (HB.slR (xs := [x.name]) encT_len rfl (by simp)) rfl (by omega) (by simp; omega) (by simp [maxLen]; omega) ?_; intro v7 w7 hO7 hg7 hb7
    replace hw := hw.trans hb7
    clear hb7 hg7 hO
    rw [← hnt] at hO7
    repeat' (first | (refine lw_pure rfl (pv_move rfl) ?_) | (refine lw_pure rfl (pv_assign rfl) ?_) | (refine is_cw ?_; first | (refine cw_region ?_)) | (refine is_qw ?_; first | (with_reducible refine qw_then ?_) | (with_reducible refine qw_in ?_)) | (refine lw_nil ?_) | ((refine is_bin ?_; first | (refine lw_pure rfl (pv_inc rfl rfl (by omega)) ?_))))
    rw [← hpa]
    exact qw_round (k + 1, v7) (by repeat' (first | exact trivial | refine ⟨rfl, ?_⟩)) ⟨by show k + 1 ≤ _; omega, hw, hO7⟩ (by show s.ma - (k + 1) < s.ma - k; omega)
  · have hkl : k = s.ma := by omega
    subst hkl
    rw [List.take_of_length_le (by omega)] at hO
    obtain ⟨a, c, rfl⟩ := own_len (m := s.ma) hO (by rw [List.length_map]; exact hma)
    have hsz := hw.size
    by_cases h64 : s.ma ≤ 64
    · repeat' (first | (refine lw_pure rfl (pv_move rfl) ?_) | (refine is_cw ?_; first | (refine cw_seq ?_) | (refine cw_region ?_) | (refine is_cd ?_; refine cw_false rfl (by first | assumption | exact decide_eq_false (by omega) | exact dec_notF (by omega)) ?_) | (refine cw_exit ?_)) | (refine is_qw ?_; first | (with_reducible refine qw_then ?_) | (with_reducible refine qw_in_hit ?_) | (with_reducible refine qw_then_exit ?_)) | (refine lw_nil ?_) | (refine is_guarded ?_; first | (refine lw_on rfl rfl (by first | assumption | exact decide_eq_true (by omega) | exact decide_eq_false (by omega) | exact dec_notT (by omega) | exact dec_notF (by omega)) ?_)) | ((refine is_bin ?_; first | (refine lw_pure rfl (pv_lss rfl rfl) ?_) | (refine lw_pure rfl (pv_leq rfl rfl) ?_))) | ((refine is_bi ?_; first | (refine lw_pure rfl (pv_lenl (tS rfl) rfl) ?_))))
      refine lw_call (f := 102) (by kernel_rfl) rfl rfl (nameds_c hO hsz (by rw [List.length_map]; omega) (fun n hn => by obtain ⟨x, hxm, rfl⟩ := List.mem_map.1 hn; exact hx x hxm)) ?_; rintro e w8 ⟨rfl, hb⟩; refine ⟨_, rfl, ?_⟩
      replace hw := hw.trans hb
      clear hb
      repeat' (first | (refine lw_pure rfl (pv_assign rfl) ?_) | (refine is_cw ?_; first | (refine cw_ret ?_)) | (refine is_qw ?_; first | (with_reducible refine qw_then ?_)) | (refine lw_nil ?_) | (refine is_pk ?_; refine lw_pure rfl (pv_pick_t rfl (by first | assumption | exact decide_eq_true (by omega) | exact dec_notT (by omega)) rfl) ?_))
      exact qw_ret1 rfl rfl ⟨by rw [decide_eq_true (show t.accs.length ≤ 64 by omega)] <;> rfl, (hE.mono hw).b⟩
    · repeat' (first | (refine lw_pure rfl (pv_move rfl) ?_) | (refine lw_pure rfl (pv_assign rfl) ?_) | (refine is_cw ?_; first | (refine cw_seq ?_) | (refine cw_region ?_) | (refine is_cd ?_; refine cw_false rfl (by first | assumption | exact decide_eq_false (by omega) | exact dec_notF (by omega)) ?_) | (refine cw_exit ?_) | (refine cw_ret ?_)) | (refine is_qw ?_; first | (with_reducible refine qw_then ?_) | (with_reducible refine qw_in_hit ?_) | (with_reducible refine qw_then_exit ?_)) | (refine lw_nil ?_) | (refine is_guarded ?_; first | (refine lw_not rfl rfl rfl (by first | assumption | exact decide_eq_true (by omega) | exact decide_eq_false (by omega) | exact dec_notT (by omega) | exact dec_notF (by omega)) ?_)) | ((refine is_bin ?_; first | (refine lw_pure rfl (pv_lss rfl rfl) ?_) | (refine lw_pure rfl (pv_leq rfl rfl) ?_))) | ((refine is_bi ?_; first | (refine lw_pure rfl (pv_lenl (tS rfl) rfl) ?_))) | (refine is_pk ?_; refine lw_pure rfl (pv_pick_f rfl (by first | assumption | exact decide_eq_false (by omega) | exact dec_notF (by omega)) rfl) ?_))
      exact qw_ret1 rfl rfl ⟨by rw [decide_eq_false (show ¬ t.accs.length ≤ 64 by omega)] <;> rfl, (hE.mono hw).b⟩
set_option maxRecDepth 20000 in
set_option maxHeartbeats 2000000 in
theorem instruments_c {s : SttC} {t : Stt} {w : World} (hS : StR w s t) (hx : ∀ x ∈ t.inss, x.name.size ≤ 140737488355328) (hl : t.inss.length ≤ 1048576) : Calls Tryz.prog 72 #[(.agg (encS s).toArray)] w fun e w' => e = .returned (.bool (inssB t.inss)) ∧ Below w.heap.size w w' := by
  have hE := Ext.refl w
  have hw := Below.refl w.heap.size w
  have hma := hS.mi
  refine fn_enter 30 Tryz.func72 rfl rfl rfl ?_
  repeat' (first | (refine is_cw ?_; first | (refine cw_seq ?_) | (refine cw_region ?_)))
  refine lw_boxN rfl rfl (cs := encS s) rfl ?_; intro N2 wn hN2 HX hb; replace hN2 := Nat.le_trans hw.size hN2; replace hw := grow_trans hw hb; clear hb
  replace hE := hE.mono hw; replace hS := hS.mono hw; clear hw; have hw := Below.refl wn.heap.size wn
  have HA := hS.I
  have hal := HA.le
  have ham := HA.max
  unfold inssB
  repeat' (first | (refine lw_pure rfl (pv_move rfl) ?_) | (refine lw_pure rfl (pv_assign rfl) ?_) | (refine is_cw ?_; first | (refine cw_seq ?_) | (refine cw_region ?_) | (refine cw_block ?_)) | (refine is_qw ?_; first | (with_reducible refine qw_then ?_)) | (refine lw_nil ?_) | ((refine is_load ?_; first | (refine lw_pure rfl (pv_load (t1 rfl) rfl (by first | exact PT.ld0 (HX.mono hw) rfl | exact PT.ld (HX.mono hw) rfl)) ?_))) | ((refine is_fa ?_; first | (refine lw_pure rfl (pv_fa (tF rfl) rfl) ?_))) | ((refine is_bi ?_; first | (refine lw_pure rfl (pv_lenl (tS rfl) rfl) ?_))))
  refine cw_loop (σ := Nat × Value) (fun q => [(3, q.2), (7, .slice s.pi s.mi s.ci), (8, .int .i64 (s.mi : Nat)), (9, .int .i64 (q.1 : Nat))]) (fun q wr => q.1 ≤ s.mi ∧ Below wn.heap.size wn wr ∧ Own encT 1 9 wn.heap.size wr q.2 ((t.inss.take q.1).map (·.name)) ∧ ∀ (j : Nat) x, j < q.1 → t.inss[j]? = some x → tickB x = true) (fun q => s.mi - q.1) (0, .slice none 0 0) (by repeat' (first | exact trivial | refine ⟨rfl, ?_⟩)) ⟨Nat.zero_le _, hw, Own.nil _, fun j x hj => by simp at hj⟩ ?_
  clear hw
  rintro ⟨k, v⟩ wr ⟨hk, hw, hO, hn⟩
  dsimp only at hk hO hn
  change CW _ _ _ _ [(3, v), (7, .slice s.pi s.mi s.ci), (8, .int .i64 (s.mi : Nat)), (9, .int .i64 (k : Nat))] wr
  by_cases hlt : k < s.mi
  · have hxk : t.inss[k]? = some (t.inss[k]'(by omega)) := List.getElem?_eq_getElem _
    obtain ⟨ab, ao, hpa, -, -⟩ := HA.at (by intro h; rw [h] at hma; simp at hma; omega)
    rw [hpa] at HA ⊢
    generalize t.inss[k]'(by omega) = x at hxk
    have hnt := names_take Ins.name hxk
    repeat' (first | (refine is_cw ?_; first | (refine cw_seq ?_) | (refine cw_region ?_) | (refine is_cd ?_; refine cw_true rfl (by first | assumption | exact decide_eq_true (by omega) | exact dec_notT (by omega)) ?_) | (refine cw_skip ?_) | (refine cw_block ?_)) | (refine is_qw ?_; first | (with_reducible refine qw_then ?_)) | (refine lw_nil ?_) | ((refine is_bin ?_; first | (refine lw_pure rfl (pv_lss rfl rfl) ?_))) | ((refine is_load ?_; first | (refine lw_pure rfl (pv_loada (tA rfl) rfl (by first | exact SlR.lda (HA.mono hw) hxk) (by rfl)) ?_))) | ((refine is_ia ?_; first | (refine lw_pure rfl (pv_ian (tS rfl) rfl rfl (by omega)) ?_))))
    refine lw_varN rfl (by first | exact tyv_29 | exact tyv_30 | exact tyv_33 | exact tyv_34 | exact tyv_36 | exact tyv_37 | exact tyv_38 | exact tyv_39 | exact tyv_40 | exact tyv_41 | exact tyv_43 | exact tyv_44 | exact tyv_45 | exact tyv_46 | exact tyv_73 | exact tyv_74 | exact tyv_80 | exact tyv_81 | exact tyv_107 | exact tyv_108 | exact tyv_123 | exact tyv_146 | exact tyv_147 | exact tyv_148 | exact tyv_149) rfl (tZ rfl) (fun _ => rfl) rfl rfl ?_; intro N5 w5 hN5 HV hb
    replace HV : PT w5 N5 37 (encN x) := HV
    replace hO := hO.mono (grow_trans (Below.refl _ _) hb)
    replace hw := grow_trans hw hb
    clear hb
    by_cases htk : 1 ≤ x.tick ∧ x.tick ≤ 1073741824
    · repeat' (first | (refine is_cw ?_; first | (refine cw_seq ?_) | (refine cw_region ?_)) | (refine is_qw ?_; first | (with_reducible refine qw_then ?_)) | (refine lw_nil ?_) | ((refine is_load ?_; first | (refine lw_pure rfl (pv_load (t1 rfl) rfl (by first | exact PT.ld0 HV rfl | exact PT.ld HV rfl)) ?_))) | ((refine is_fa ?_; first | (refine lw_pure rfl (pv_fa (tF rfl) rfl) ?_))))
      refine lw_call (f := 101) (by kernel_rfl) rfl rfl (btw3_c _ _ _ _) ?_; rintro e w6 ⟨rfl, hb⟩; refine ⟨_, rfl, ?_⟩
      replace HV := HV.mono hb
      replace hO := hO.mono hb
      replace hw := grow_trans hw hb
      clear hb
      repeat' (first | (refine lw_pure rfl (pv_move rfl) ?_) | (refine is_cw ?_; first | (refine cw_region ?_) | (refine is_cd ?_; refine cw_false rfl (by first | assumption | exact decide_eq_false (by omega) | exact dec_notF (by omega)) ?_) | (refine cw_skip ?_)) | (refine is_qw ?_; first | (with_reducible refine qw_then ?_)) | (refine lw_nil ?_) | ((refine is_load ?_; first | (refine lw_pure rfl (pv_load (t1 rfl) rfl (by first | exact PT.ld0 HV rfl | exact PT.ld HV rfl)) ?_))) | ((refine is_fa ?_; first | (refine lw_pure rfl (pv_fa (tF rfl) rfl) ?_))) | ((refine is_un ?_; first | (refine lw_pure rfl (pv_not rfl) ?_))))
      refine lw_bs1 elemTy rfl rfl (cs := encT x.name) rfl rfl (by omega) ?_; intro w6 HB hb hz6
      have hs4 := hw.size
      have hs5 := hb.size
      replace hw := grow_trans hw hb
      replace hO := hO.mono hb
      clear hb
      skip
      refine lw_app elemTy encT_len encT_one rfl rfl rfl hO (HB.slR (xs := [x.name]) encT_len rfl (by simp)) rfl (by omega) (by simp; omega) (by simp [maxLen]; omega) ?_; intro v7 w7 hO7 hg7 hb7
      replace hw := hw.trans hb7
      clear hb7 hg7 hO
      rw [← hnt] at hO7
      repeat' (first | (refine lw_pure rfl (pv_move rfl) ?_) | (refine lw_pure rfl (pv_assign rfl) ?_) | (refine is_cw ?_; first | (refine cw_region ?_)) | (refine is_qw ?_; first | (with_reducible refine qw_then ?_) | (with_reducible refine qw_in ?_)) | (refine lw_nil ?_) | ((refine is_bin ?_; first | (refine lw_pure rfl (pv_inc rfl rfl (by omega)) ?_))))
      rw [← hpa]
      refine qw_round (k + 1, v7) (by repeat' (first | exact trivial | refine ⟨rfl, ?_⟩)) ⟨by show k + 1 ≤ _; omega, hw, hO7, fun j u hj hu => ?_⟩ (by show s.mi - (k + 1) < s.mi - k; omega)
      by_cases hjk : j = k
      · subst hjk; rw [hxk] at hu; injection hu with hu; subst hu; exact decide_eq_true htk
      · exact hn j u (by have : j < k + 1 := hj; omega) hu
    · repeat' (first | (refine is_cw ?_; first | (refine cw_seq ?_) | (refine cw_region ?_)) | (refine is_qw ?_; first | (with_reducible refine qw_then ?_)) | (refine lw_nil ?_) | ((refine is_load ?_; first | (refine lw_pure rfl (pv_load (t1 rfl) rfl (by first | exact PT.ld0 HV rfl | exact PT.ld HV rfl)) ?_))) | ((refine is_fa ?_; first | (refine lw_pure rfl (pv_fa (tF rfl) rfl) ?_))))
      refine lw_call (f := 101) (by kernel_rfl) rfl rfl (btw3_c _ _ _ _) ?_; rintro e w6 ⟨rfl, hb⟩; refine ⟨_, rfl, ?_⟩
      replace hw := grow_trans hw hb
      clear hb
      repeat' (first | (refine lw_pure rfl (pv_assign rfl) ?_) | (refine is_cw ?_; first | (refine cw_seq ?_) | (refine cw_region ?_) | (refine is_cd ?_; refine cw_true rfl (by first | assumption | exact decide_eq_true (by omega) | exact dec_notT (by omega)) ?_) | (refine cw_ret ?_)) | (refine is_qw ?_; first | (with_reducible refine qw_then ?_) | (with_reducible refine qw_then_ret ?_) | (with_reducible refine qw_in_ret ?_)) | (refine lw_nil ?_) | ((refine is_un ?_; first | (refine lw_pure rfl (pv_not rfl) ?_))))
      have hf : t.inss.all tickB = false := by
        rw [List.all_eq_false]; exact ⟨x, List.mem_of_getElem? hxk, by unfold tickB; rw [decide_eq_false htk]; decide⟩
      exact qw_ret1 rfl rfl ⟨by rw [hf]; rfl, (hE.mono hw).b⟩
  · have hkl : k = s.mi := by omega
    subst hkl
    rw [List.take_of_length_le (by omega)] at hO
    obtain ⟨a, c, rfl⟩ := own_len (m := s.mi) hO (by rw [List.length_map]; exact hma)
    have hsz := hw.size
    have hf : t.inss.all tickB = true := List.all_eq_true.2 (all_get fun j x hj => hn j x (by have := (List.getElem?_eq_some_iff.1 hj).1; omega) hj)
    rw [hf]
    by_cases h64 : s.mi ≤ 16
    · repeat' (first | (refine lw_pure rfl (pv_move rfl) ?_) | (refine is_cw ?_; first | (refine cw_seq ?_) | (refine cw_region ?_) | (refine is_cd ?_; refine cw_false rfl (by first | assumption | exact decide_eq_false (by omega) | exact dec_notF (by omega)) ?_) | (refine cw_exit ?_)) | (refine is_qw ?_; first | (with_reducible refine qw_then ?_) | (with_reducible refine qw_in_hit ?_) | (with_reducible refine qw_then_exit ?_)) | (refine lw_nil ?_) | (refine is_guarded ?_; first | (refine lw_on rfl rfl (by first | assumption | exact decide_eq_true (by omega) | exact decide_eq_false (by omega) | exact dec_notT (by omega) | exact dec_notF (by omega)) ?_)) | ((refine is_bin ?_; first | (refine lw_pure rfl (pv_lss rfl rfl) ?_) | (refine lw_pure rfl (pv_leq rfl rfl) ?_))) | ((refine is_bi ?_; first | (refine lw_pure rfl (pv_lenl (tS rfl) rfl) ?_))))
      refine lw_call (f := 102) (by kernel_rfl) rfl rfl (nameds_c hO hsz (by rw [List.length_map]; omega) (fun n hn => by obtain ⟨x, hxm, rfl⟩ := List.mem_map.1 hn; exact hx x hxm)) ?_; rintro e w8 ⟨rfl, hb⟩; refine ⟨_, rfl, ?_⟩
      replace hw := hw.trans hb
      clear hb
      repeat' (first | (refine lw_pure rfl (pv_assign rfl) ?_) | (refine is_cw ?_; first | (refine cw_ret ?_)) | (refine is_qw ?_; first | (with_reducible refine qw_then ?_)) | (refine lw_nil ?_) | (refine is_pk ?_; refine lw_pure rfl (pv_pick_t rfl (by first | assumption | exact decide_eq_true (by omega) | exact dec_notT (by omega)) rfl) ?_))
      exact qw_ret1 rfl rfl ⟨by rw [decide_eq_true (show t.inss.length ≤ 16 by omega)] <;> rfl, (hE.mono hw).b⟩
    · repeat' (first | (refine lw_pure rfl (pv_move rfl) ?_) | (refine lw_pure rfl (pv_assign rfl) ?_) | (refine is_cw ?_; first | (refine cw_seq ?_) | (refine cw_region ?_) | (refine is_cd ?_; refine cw_false rfl (by first | assumption | exact decide_eq_false (by omega) | exact dec_notF (by omega)) ?_) | (refine cw_exit ?_) | (refine cw_ret ?_)) | (refine is_qw ?_; first | (with_reducible refine qw_then ?_) | (with_reducible refine qw_in_hit ?_) | (with_reducible refine qw_then_exit ?_)) | (refine lw_nil ?_) | (refine is_guarded ?_; first | (refine lw_not rfl rfl rfl (by first | assumption | exact decide_eq_true (by omega) | exact decide_eq_false (by omega) | exact dec_notT (by omega) | exact dec_notF (by omega)) ?_)) | ((refine is_bin ?_; first | (refine lw_pure rfl (pv_lss rfl rfl) ?_) | (refine lw_pure rfl (pv_leq rfl rfl) ?_))) | ((refine is_bi ?_; first | (refine lw_pure rfl (pv_lenl (tS rfl) rfl) ?_))) | (refine is_pk ?_; refine lw_pure rfl (pv_pick_f rfl (by first | assumption | exact decide_eq_false (by omega) | exact dec_notF (by omega)) rfl) ?_))
      exact qw_ret1 rfl rfl ⟨by rw [decide_eq_false (show ¬ t.inss.length ≤ 16 by omega)] <;> rfl, (hE.mono hw).b⟩
end Go.Proofs.YtekomjnjddhfmaaGreat
namespace Go.Proofs.YtekomjnjddhfmaaGreat
open Go.RowKit

section
variable {P : Program} {ops : Array Oper} {Q : Exit → Act → World → Prop} {md : Region.Mode} {U : World → Prop} {f : Nat}
def wpAnyF (P : Program) (md : Region.Mode) (ops : Array Oper) (Q : Exit → Act → World → Prop) (f : Nat) (U : World → Prop) : Nat → Array Bool → Act → World → Prop
  | 0, listed, a, w => Region.ready md ops listed = [] ∧ Q .normal a w
  | fuel + 1, listed, a, w =>
    (Region.ready md ops listed = [] → Q .normal a w) ∧
    ∀ i ∈ Region.ready md ops listed, wpOp P ops Q i (fun a' w' => ((listed.setIfInBounds i true).getD f true = false → U w') ∧ wpAnyF P md ops Q f U fuel (listed.setIfInBounds i true) a' w') a w
theorem wpAny_of_F : ∀ (fuel : Nat) (listed : Array Bool) (a : Act) (w : World), wpAnyF P md ops Q f U fuel listed a w → wpAny P md ops Q fuel listed a w
  | 0, _, _, _, h => h
  | fuel + 1, _, _, _, h => ⟨h.1, fun i hi => wpOp_mono (fun a' w' h' => wpAny_of_F fuel _ a' w' h'.2) (h.2 i hi)⟩
theorem wpAnyF_first {i : Nat} {oi : Oper} {v : Value} (hif : i ≠ f) (hwait : ∃ o, ops[f]? = some o ∧ ∃ e ∈ o.after, Region.binds md e = true ∧ e.on = i) (hi : ops[i]? = some oi) (hsel : ∀ (j : Nat) (o : Oper) cs b, ops[j]? = some o → o.op ≠ .select cs b)
    (hQ : ∀ c a w, Q (.panic c) (a.put oi.dst v) w → Q (.panic c) a w) :
    ∀ (fuel : Nat) (listed : Array Bool) (a : Act) (w : World),
      (∀ j oj, ops[j]? = some oj → j ≠ i → listed.getD j true = false → (∀ e ∈ oj.after, Region.binds md e = true → e.on ≠ i) → oi.apart ops oj = true) →
      i ∈ Region.ready md ops listed → listed.getD f true = false → YieldsIf P ops U oi v a → U w →
      wpAnyF P md ops Q f U fuel (listed.setIfInBounds i true) (a.put oi.dst v) w → wpAnyF P md ops Q f U (fuel + 1) listed a w := by
  intro fuel
  induction fuel with
  | zero =>
    intro listed a w _ hr _ hy hS H
    refine ⟨fun h => (by rw [h] at hr; cases hr), fun j hj => ?_⟩
    by_cases hji : j = i
    · subst hji; exact hy.wpOp hi hS ⟨fun _ => hS, H⟩
    · have := ready_mono hj hji
      rw [H.1] at this
      cases this
  | succ fuel ih =>
    intro listed a w hfree hr hf hy hS H
    refine ⟨fun h => (by rw [h] at hr; cases hr), fun j hj => ?_⟩
    by_cases hji : j = i
    · subst hji; exact hy.wpOp hi hS ⟨fun _ => hS, H⟩
    · have h1 := H.2 j (ready_mono hj hji)
      obtain ⟨hjun, oj, hoj, hall⟩ := mem_ready.1 hj
      have hun : ∀ e ∈ oj.after, Region.binds md e = true → e.on ≠ i := fun e he hb heq => by
        have h1 := hall e he hb
        have h0 := (mem_ready.1 hr).1
        rw [heq] at h1
        rcases Nat.lt_or_ge i listed.size with h' | h'
        · simp [h'] at h0 h1; rw [h0] at h1; cases h1
        · simp [Array.getElem?_eq_none h'] at h1
      have hjf : j ≠ f := fun e => by
        subst e
        obtain ⟨o, ho, e, he, hb, heq⟩ := hwait
        rw [hoj] at ho; injection ho with ho; subst ho
        exact hun e he hb heq
      have h2 := wpOp_putIf hoj (hfree j oj hoj hji hjun hun) (fun cs b => hsel i oi cs b hi) (fun cs b => hsel j oj cs b hoj) hQ hy h1
      have hfree' : ∀ k ok, ops[k]? = some ok → k ≠ i → (listed.setIfInBounds j true).getD k true = false →
          (∀ e ∈ ok.after, Region.binds md e = true → e.on ≠ i) → oi.apart ops ok = true := fun k ok hk hki hun hno => by
        refine hfree k ok hk hki ?_ hno
        by_cases hjk : j = k
        · subst hjk; exact hjun
        · rw [getD_set_ne true hjk] at hun; exact hun
      refine wpOp_mono (fun a' w' h3 => ?_) h2
      have hU' : U w' := h3.2.1 (by rw [getD_set_ne true hjf, getD_set_ne true hif]; exact hf)
      refine ⟨fun _ => hU', ih (listed.setIfInBounds j true) a' w' hfree' (ready_mono hr (Ne.symm hji)) (by rw [getD_set_ne true hjf]; exact hf) h3.1 hU' ?_⟩
      rw [Array.setIfInBounds_comm _ _ hji]
      exact h3.2.2
end
def waits (ops : Array Oper) (f i : Nat) : Bool := match ops[f]? with
  | some o => o.after.toList.any fun e => Region.binds .any e && Nat.beq e.on i
  | none => false
theorem waits_of {ops : Array Oper} {f i : Nat} (h : waits ops f i = true) : ∃ o, ops[f]? = some o ∧ ∃ e ∈ o.after, Region.binds .any e = true ∧ e.on = i := by
  unfold waits at h
  cases ho : ops[f]? with
  | none => rw [ho] at h; cases h
  | some o =>
    rw [ho] at h
    rw [List.any_eq_true] at h
    obtain ⟨e, he, h2⟩ := h
    rw [Bool.and_eq_true] at h2
    exact ⟨o, rfl, e, by simpa using he, h2.1, Nat.eq_of_beq_eq_true h2.2⟩
section
variable {n : Nat} {l : Fr} {P : Program} {w : World} {Q : Exit → Act → World → Prop} {ops : Array Oper} {U : World → Prop} {fuel : Nat} {listed : Array Bool} {f : Nat}
structure FW (P : Program) (n : Nat) (ops : Array Oper) (Q : Exit → Act → World → Prop) (f : Nat) (U : World → Prop) (fuel : Nat) (listed : Array Bool) (l : Fr) (w : World) : Prop where
  out : ∀ a, Holds n l a → wpAnyF P .any ops Q f U fuel listed a w
theorem cw_drawnF {i : Nat} {ops : Array Oper} (f : Nat) (U : World → Prop) (hm : P.follows .mixedOrders = true) (hQ : NoPanic Q) (h : NoPanic Q → FW P n ops Q f U ops.size (Array.replicate ops.size false) l w.drew) : CW P n (.region i ops true) Q l w :=
  ⟨fun a ha => wp_region_any hm (wpAny_of_F _ _ _ _ ((h hQ).out a ha))⟩
theorem fw_take (i : Nat) {d : Nat} {op : Op} {ty : TypeId} {pos : String} {af : Array Edge} {v : Value} (ho : ops[i]? = some ⟨some d, op, ty, pos, af, none⟩) (hwt : waits ops f i = true) (hif : Nat.beq i f = false) (hfl : listed.getD f true = false)
    (hs : Region.noSelect ops = true) (hf : Region.free .any ops listed i = true) (hr : (Region.ready .any ops listed).contains i = true) (hQ : NoPanic Q) (hU : U w) (hd : Nat.blt d n = true)
    (hv : ∀ w, U w → Pv P n l ⟨some d, op, ty, pos, af, none⟩ v w) (h : FW P n ops Q f U fuel (listed.setIfInBounds i true) ((d, v) :: l) w) : FW P n ops Q f U (fuel + 1) listed l w := ⟨fun a ha =>
  wpAnyF_first (fun e => by subst e; simp at hif) (waits_of hwt) ho (Region.noSelect_spec hs) (fun c a w => hQ c _ v a w) fuel listed a w (Region.free_spec ho hf) (by simpa using hr) hfl (Or.inl ⟨rfl, fun w hw => (hv w hw).out a ha⟩) hU (h.out _ (ha.put hd v))⟩
theorem fw_last {o : Oper} (hr : Region.ready .any ops listed = [f]) (ho : ops[f]? = some o) (hg : guardOn ops l o.guard = true) (hd : inD o.dst n = true) (hfs : (listed.setIfInBounds f true).getD f true = true) (he : Region.ready .any ops (listed.setIfInBounds f true) = [])
    (h : Act1 P n l o w fun v w' => QW n Q .normal (putD o.dst v l) w') : FW P n ops Q f U (fuel + 1) listed l w := ⟨fun a ha => by
  refine ⟨fun h0 => (by rw [hr] at h0; cases h0), fun j hj => ?_⟩
  rw [hr, List.mem_singleton] at hj; subst hj
  unfold wpOp; rw [ho]
  dsimp only
  rw [if_pos (wanted_of ha hg)]
  refine Or.inl (h.out a ha _ _ fun v w' hZ => ⟨fun hf => (by rw [hfs] at hf; cases hf), ?_⟩)
  have hq := hZ.out _ (ha.putD hd v)
  cases fuel with
  | zero => exact ⟨he, hq⟩
  | succ m => exact ⟨fun _ => hq, by rw [he]; simp⟩⟩
theorem act_store {T t : TypeId} {N i : Nat} {cs : List Value} {v : Value} {x y : Operand} {ty : TypeId} {pos : String} {af : Array Edge} {g : Option (Nat × Bool)} {d : Option Nat} {Z : Value → World → Prop} (hp : PT w N T cs) (ht : sizeB P t 1 = true) (hx : ev l x = some (.pointer (some ⟨N, i, none⟩))) (hy : ev l y = some v) (h1 : v.oneCell' = true) (hi : i < cs.length) (h : ∀ w', PT w' N T (cs.set i v) → w.grownBy w' (some N) → w'.heap.size = w.heap.size → Z undef w') : Act1 P n l ⟨d, .store t x y, ty, pos, af, g⟩ w Z := by
  obtain ⟨w', a, b, c, e⟩ := sv_store (d := d) (ty := ty) (pos := pos) (af := af) (g := g) (P := P) (n := n) hp ht hx hy h1 hi
  exact act_sv a (h w' b c e)
end
end Go.Proofs.YtekomjnjddhfmaaGreat
namespace Go.Proofs.YtekomjnjddhfmaaGreat.R
open Go.RowKit

def fr (r : Option Nat) : Fence := { Fence.wide with round := r }
def up (mk : List Deferred) (a : Act) : Act := ⟨a.tmps, a.defers ++ mk⟩
def lift (mk : List Deferred) (Q : Exit → Act → World → Prop) : Exit → Act → World → Prop := fun e a w => Q e (up mk a) w
class NoOut (Q : Exit → Act → World → Prop) : Prop where
  no : ∀ a w, ¬ Q .outgrown a w
instance NoOut.then {K : Act → World → Prop} {Q : Exit → Act → World → Prop} [h : NoOut Q] : NoOut (Exit.then K Q) := ⟨h.no⟩
instance NoOut.inBlock {i : Nat} {Q : Exit → Act → World → Prop} [h : NoOut Q] : NoOut (Exit.inBlock i Q) := ⟨h.no⟩
instance NoOut.none : NoOut (fun _ _ _ => False) := ⟨fun _ _ h => h⟩
instance NoOut.ownPostG {α : Type} {B : Nat} {Kp : World → World → Prop} {I : List α → World → Prop} {Ix : Code → List α → World → Prop} {xs : List α} {W : World} : NoOut (Go.ownPostG B Kp I Ix xs W) := ⟨fun _ _ h => h⟩
def noDeferL : List Oper → Bool
  | [] => true
  | o :: r => (match o.op with | .defer _ => false | _ => true) && noDeferL r
def noDefer (ops : Array Oper) : Bool := noDeferL ops.toList
theorem noDeferL_spec : ∀ {l : List Oper}, noDeferL l = true → ∀ {i : Nat} {o : Oper}, l[i]? = some o → ∀ c, o.op ≠ .defer c
  | [], _, i, o, ho, _ => by simp at ho
  | x :: r, h, 0, o, ho, c => by
    simp at ho; subst ho
    intro e
    simp only [noDeferL, e, Bool.false_and] at h
    cases h
  | x :: r, h, i + 1, o, ho, c => by
    simp only [noDeferL, Bool.and_eq_true] at h
    exact noDeferL_spec h.2 (i := i) (by simpa using ho) c
theorem noDefer_spec {ops : Array Oper} (h : noDefer ops = true) {i : Nat} {o : Oper} (ho : ops[i]? = some o) : ∀ c, o.op ≠ .defer c :=
  noDeferL_spec h (i := i) (by simpa using ho)
section
variable {P : Program} {ops : Array Oper} {Q : Exit → Act → World → Prop} {mk : List Deferred} {r : Option Nat} {m : Nat}
theorem callsIn_fr {n : Nat} {f : FuncId} {args : Array Value} {w : World} {R : Ending → World → Prop} (h : Calls P f args w R) : CallsIn (fr r) n P f args w R := (callsIn_wide (n := n)).2 h
theorem calls_of_fr {n : Nat} {f : FuncId} {args : Array Value} {w : World} {R : Ending → World → Prop} (h : CallsIn (fr r) n P f args w R) : Calls P f args w R := (callsIn_wide (n := n)).1 h
theorem rowsIn_fr {n : Nat} {row : String} {args : Array Value} {w : World} {R : Value → World → Prop} (h : Rows P row args w R) : RowsIn (fr r) n P row args w R :=
  fun c cs _ => let ⟨v, w', q, s⟩ := h c cs; ⟨v, w', q, stepsIn_wide.2 s⟩
theorem deep_fr : (fr r).depth.isSome = true → 1 ≤ m := fun h => by simp [fr, Fence.wide] at h
theorem about_fr {o : Oper} {w : World} {ρ : Operand → Value} : ∀ f, o.about P w ρ = some f → (fr r).fn f := fun _ _ => trivial
theorem up_put {a : Act} {d : Option Nat} {v : Value} : up mk (a.put d v) = (up mk a).put d v := by cases d <;> rfl
theorem upon_in {o : Oper} {a : Act} {K K' : Act → World → Prop} [hQ : NoOut Q] (hK : ∀ a w, K a w → K' (up mk a) w) {res : Result Next} (h : o.upon P a K (lift mk Q) res) : o.uponIn (fr r) m P (up mk a) K' Q res := by
  cases res with
  | ok n w' =>
    cases n with
    | value v => have := hK _ _ h; rw [up_put] at this; exact this
    | skip => have := hK _ _ h; rw [up_put] at this; exact this
    | defer d => have := hK _ _ h; rw [up_put] at this; exact this
    | enter f args =>
      refine ⟨deep_fr, callsIn_fr (Calls.mono h fun e w'' q => ?_)⟩
      cases e with
      | returned v => have := hK _ _ q; rw [up_put] at this; exact this
      | panicked c => exact q
      | outgrown => obtain ⟨a0, w0, q⟩ := q; exact absurd q (hQ.no _ _)
    | row row args => exact ⟨deep_fr, rowsIn_fr (Rows.mono h fun v w'' q => by have := hK _ _ q; rw [up_put] at this; exact this)⟩
    | _ => exact h.elim
  | halt x w' =>
    cases x with
    | panic v => exact h
    | _ => exact h.elim
theorem ops_in (hd : noDefer ops = true) [hQ : NoOut Q] : ∀ (l : List Nat) (a : Act) (w : World), wpOps P ops (lift mk Q) l a w → wpOpsIn (fr r) m P ops Q l (up mk a) w
  | [], _, _, h => h
  | i :: rest, a, w, h => by
    simp only [wpOps] at h
    simp only [wpOpsIn]
    cases ho : ops[i]? with
    | none => simp only [ho] at h ⊢; exact ops_in hd rest a w h
    | some o =>
      simp only [ho] at h ⊢
      by_cases hw : Region.wanted o (yielded ops a.tmps) = true
      · rw [if_pos hw] at h
        rw [if_pos (show Region.wanted o (yielded ops (up mk a).tmps) = true from hw)]
        rcases h with h | ⟨_, a0, w0, h0⟩
        · refine ⟨about_fr, ?_⟩
          rw [Oper.semAt_eq _ _ _ (noDefer_spec hd ho)]
          exact upon_in (fun a w h => ops_in hd rest a w h) h
        · exact absurd h0 (hQ.no _ _)
      · rw [if_neg hw] at h
        rw [if_neg (show ¬ Region.wanted o (yielded ops (up mk a).tmps) = true from hw)]
        have := ops_in hd rest _ w h
        rw [up_put] at this
        exact ⟨about_fr, this⟩
end

structure CW (r : Option Nat) (m : Nat) (mk : List Deferred) (P : Program) (n : Nat) (c : Code) (Q : Exit → Act → World → Prop) (l : Fr) (w : World) : Prop where
  out : ∀ a, Holds n l a → c.wpIn (fr r) m P Q (up mk a) w
section
variable {r : Option Nat} {m : Nat} {mk : List Deferred} {P : Program} {n : Nat} {Q : Exit → Act → World → Prop} {l : Fr} {w : World}
theorem is_cw {c : Code} (h : CW r m mk P n c Q l w) : CW r m mk P n c Q l w := h
theorem is_cd {c : Operand} {x y : Code} (h : CW r m mk P n (.cond c x y) Q l w) : CW r m mk P n (.cond c x y) Q l w := h
theorem cw_seq {x y : Code} (h : CW r m mk P n x (Exit.then (y.wpIn (fr r) m P Q) Q) l w) : CW r m mk P n (.seq x y) Q l w := ⟨fun a ha => wpIn_seq (h.out a ha)⟩
theorem cw_skip (h : QW n (lift mk Q) .normal l w) : CW r m mk P n .skip Q l w := ⟨fun a ha => wpIn_skip (h.out a ha)⟩
theorem cw_exit {i : Nat} (h : QW n (lift mk Q) (.exit i) l w) : CW r m mk P n (.exit i) Q l w := ⟨fun a ha => wpIn_exit (h.out a ha)⟩
theorem cw_ret (h : QW n (lift mk Q) .ret l w) : CW r m mk P n .ret Q l w := ⟨fun a ha => wpIn_ret (h.out a ha)⟩
theorem cw_block {i : Nat} {c : Code} (h : CW r m mk P n c (Exit.inBlock i Q) l w) : CW r m mk P n (.block i c) Q l w := ⟨fun a ha => wpIn_block (h.out a ha)⟩
theorem up_eval {a : Act} {x : Operand} : (up mk a).eval x = a.eval x := by cases x <;> rfl
theorem cw_true {c : Operand} {x y : Code} {b : Bool} (hc : ev l c = some (.bool b)) (hb : b = true) (h : CW r m mk P n x Q l w) : CW r m mk P n (.cond c x y) Q l w := ⟨fun a ha => wpIn_cond_true (up_eval.trans ((ha.ev hc).trans (by rw [hb]))) (h.out a ha)⟩
theorem cw_false {c : Operand} {x y : Code} {b : Bool} (hc : ev l c = some (.bool b)) (hb : b = false) (h : CW r m mk P n y Q l w) : CW r m mk P n (.cond c x y) Q l w := ⟨fun a ha => wpIn_cond_false (up_eval.trans ((ha.ev hc).trans (by rw [hb]))) (h.out a ha)⟩
theorem cw_split {c : Operand} {x y : Code} {b : Bool} (hc : ev l c = some (.bool b)) (h1 : b = true → CW r m mk P n x Q l w) (h2 : b = false → CW r m mk P n y Q l w) : CW r m mk P n (.cond c x y) Q l w := by
  cases b with
  | true => exact cw_true hc rfl (h1 rfl)
  | false => exact cw_false hc rfl (h2 rfl)
theorem cw_region {i : Nat} {ops : List Oper} [hQ : NoOut Q] (h : LW P n ops.toArray (lift mk Q) ops l w) (hd : noDefer ops.toArray = true := by rfl) : CW r m mk P n (.region i ops.toArray false) Q l w := ⟨fun a ha => wpIn_region (by
  have h1 := h.out a ha
  rw [← wpOps_eq_wpList ops 0 (by simp)] at h1
  rw [List.range_eq_range']
  exact ops_in hd _ _ _ (by simpa using h1))⟩
theorem NoPanicL {Q : Exit → Act → World → Prop} (h : NoPanic Q) : NoPanic (lift mk Q) := fun c d v a w q => h c d v (up mk a) w (by have := q; unfold lift at this; rwa [up_put] at this)
theorem cw_drawn {i : Nat} {ops : Array Oper} (S : World → Prop) (hm : P.follows .mixedOrders = true) (hNP : NoPanic Q) [hQ : NoOut Q] (h : NoPanic (lift mk Q) → AW P n ops (lift mk Q) S ops.size (Array.replicate ops.size false) l w.drew) (hd : noDefer ops = true := by rfl) : CW r m mk P n (.region i ops true) Q l w := ⟨fun a ha =>
  wpIn_region_draw fun t => by
    have h1 := wpAny_of_held _ _ _ _ ((h (NoPanicL hNP)).out a ha)
    have h2 := wpAny_sound ops.size t _ a _ h1
    simp only [Region.schedule, hm, Bool.true_or, if_true]
    exact ops_in hd _ _ _ h2⟩
def Round {σ : Type} (mk : List Deferred) (n : Nat) (L : σ → Fr) (I : σ → World → Prop) (μ : σ → Nat) (k : Nat) (a' : Act) (w' : World) : Prop := ∃ s' b, a' = up mk b ∧ Holds n (L s') b ∧ I s' w' ∧ μ s' < k
theorem cw_loop {σ : Type} {c : Code} (L : σ → Fr) (I : σ → World → Prop) (μ : σ → Nat) (s0 : σ) (h0 : Sub (L s0) l) (hI : I s0 w)
    (h : ∀ s w, I s w → CW r m mk P n c (Exit.then (Round mk n L I μ (μ s)) Q) (L s) w) : CW r m mk P n (.loop c) Q l w := ⟨fun a ha => by
  have key : ∀ k s a w, μ s < k → Holds n (L s) a → I s w → Code.roundsIn (fr r) m P c Q k (up mk a) w := by
    intro k
    induction k with
    | zero => intro s a w hk; exact absurd hk (Nat.not_lt_zero _)
    | succ k ih =>
      intro s a w hk ha hI
      refine wpIn_mono ((h s w hI).out a ha) fun e a' w' q => ?_
      cases e with
      | normal =>
        obtain ⟨s', b, rfl, h1, h2, h3⟩ := q
        exact ih s' b w' (by omega) h1 h2
      | _ => exact q
  exact wpIn_loop_rounds _ (key (μ s0 + 1) s0 a w (Nat.lt_succ_self _) (ha.sub h0) hI)⟩
theorem qw_round {σ : Type} {L : σ → Fr} {I : σ → World → Prop} {μ : σ → Nat} {k : Nat} (s' : σ) (h0 : Sub (L s') l) (hI : I s' w) (hm : μ s' < k) :
    QW n (lift mk (Exit.then (Round mk n L I μ k) Q)) .normal l w := ⟨fun a ha => ⟨s', a, rfl, ha.sub h0, hI, hm⟩⟩
def Join {σ : Type} (mk : List Deferred) (n : Nat) (L : σ → Fr) (I : σ → World → Prop) (a' : Act) (w' : World) : Prop := ∃ s b, a' = up mk b ∧ Holds n (L s) b ∧ I s w'
theorem cw_cut {σ : Type} {x y : Code} (L : σ → Fr) (I : σ → World → Prop) (h1 : CW r m mk P n x (Exit.then (Join mk n L I) Q) l w) (h2 : ∀ s w, I s w → CW r m mk P n y Q (L s) w) : CW r m mk P n (.seq x y) Q l w := ⟨fun a ha => wpIn_seq (wpIn_mono (h1.out a ha) (fun e a' w' q => by
  cases e with
  | normal => obtain ⟨s, b, rfl, h3, h4⟩ := q; exact (h2 s w' h4).out b h3
  | _ => exact q))⟩
theorem cw_cutq {σ : Type} {x y : Code} {Q' : Exit → Act → World → Prop} (L : σ → Fr) (I : σ → World → Prop) (h1 : CW r m mk P n x (Exit.then (Join mk n L I) Q') l w) (h2 : ∀ s w, I s w → CW r m mk P n y Q (L s) w) : CW r m mk P n x (Exit.then (Code.wpIn (fr r) m P y Q) Q') l w := ⟨fun a ha => wpIn_mono (h1.out a ha) (fun e a' w' q => by
  cases e with
  | normal => obtain ⟨s, b, rfl, h3, h4⟩ := q; exact (h2 s w' h4).out b h3
  | _ => exact q)⟩
theorem qw_join {σ : Type} {L : σ → Fr} {I : σ → World → Prop} (s : σ) (h0 : Sub (L s) l) (hI : I s w) : QW n (lift mk (Exit.then (Join mk n L I) Q)) .normal l w := ⟨fun a ha => ⟨s, a, rfl, ha.sub h0, hI⟩⟩
theorem qw_then {y : Code} {Q' : Exit → Act → World → Prop} (h : CW r m mk P n y Q l w) : QW n (lift mk (Exit.then (Code.wpIn (fr r) m P y Q) Q')) .normal l w := ⟨h.out⟩
theorem qw_then_exit {K : Act → World → Prop} {i : Nat} (h : QW n (lift mk Q) (.exit i) l w) : QW n (lift mk (Exit.then K Q)) (.exit i) l w := ⟨h.out⟩
theorem qw_then_ret {K : Act → World → Prop} (h : QW n (lift mk Q) .ret l w) : QW n (lift mk (Exit.then K Q)) .ret l w := ⟨h.out⟩
theorem qw_in {i : Nat} (h : QW n (lift mk Q) .normal l w) : QW n (lift mk (Exit.inBlock i Q)) .normal l w := ⟨h.out⟩
theorem qw_in_ret {i : Nat} (h : QW n (lift mk Q) .ret l w) : QW n (lift mk (Exit.inBlock i Q)) .ret l w := ⟨h.out⟩
theorem qw_in_hit {i : Nat} (h : QW n (lift mk Q) .normal l w) : QW n (lift mk (Exit.inBlock i Q)) (.exit i) l w := ⟨fun a ha => by
  show (if i = i then Q .normal (up mk a) w else Q (.exit i) (up mk a) w)
  rw [if_pos rfl]; exact h.out a ha⟩
theorem qw_in_miss {i j : Nat} (hij : Nat.beq j i = false) (h : QW n (lift mk Q) (.exit j) l w) : QW n (lift mk (Exit.inBlock i Q)) (.exit j) l w := ⟨fun a ha => by
  show (if j = i then Q .normal (up mk a) w else Q (.exit j) (up mk a) w)
  rw [if_neg (fun e => by subst e; simp at hij)]; exact h.out a ha⟩
def postM (m : Nat) (P : Program) (fn : Func) (R : Ending → World → Prop) : Exit → Act → World → Prop
  | .normal, a, w | .ret, a, w => LeavesInM (fr none) m P fn a.tmps R a.defers .returning w
  | _, _, _ => False
instance NoOut.postM {fn : Func} {R : Ending → World → Prop} : NoOut (postM m P fn R) := ⟨fun _ _ h => h⟩
class NP (Q : Exit → Act → World → Prop) : Prop where
  np : NoPanic Q
instance NP.postM {fn : Func} {R : Ending → World → Prop} : NP (Go.Proofs.YtekomjnjddhfmaaGreat.R.postM m P fn R) := ⟨fun _ _ _ _ _ h => h⟩
instance NP.ownPostG {α : Type} {B : Nat} {Kp : World → World → Prop} {I : List α → World → Prop} {Ix : Code → List α → World → Prop} {xs : List α} {W : World} : NP (Go.ownPostG B Kp I Ix xs W) := ⟨fun _ _ _ _ _ h => h⟩
instance NP.none : NP (fun _ _ _ => False) := ⟨fun _ _ _ _ _ h => h⟩
theorem NoPanic.body {Q : Exit → Act → World → Prop} [h : NP Q] : NoPanic Q := h.np
theorem qw_retM0 {fn : Func} {R : Ending → World → Prop} (h : QW n (bodyPost P fn R) .ret l w) : QW n (lift [] (Go.Proofs.YtekomjnjddhfmaaGreat.R.postM m P fn R)) .ret l w := ⟨fun a ha => by
  have h1 := h.out a ha
  have e : (up [] a).defers = [] := by show a.defers ++ [] = []; rw [ha.2.1]; rfl
  show LeavesInM (fr none) m P fn a.tmps R (up [] a).defers .returning w
  rw [e]
  exact h1.2⟩
theorem qw_retM1 {fn : Func} {R : Ending → World → Prop} {D : Nat} (hD : w.heap[D]? = some (.deferred (some []))) (h : QW n (bodyPost P fn R) .ret l (w.putObj D (.deferred none))) : QW n (lift [{ target := .collected D, args := #[] }] (Go.Proofs.YtekomjnjddhfmaaGreat.R.postM m P fn R)) .ret l w := ⟨fun a ha => by
  have h1 := h.out a ha
  have e : (up [{ target := .collected D, args := #[] }] a).defers = [{ target := .collected D, args := #[] }] := by show a.defers ++ _ = _; rw [ha.2.1]; rfl
  show LeavesInM (fr none) m P fn a.tmps R (up _ a).defers .returning w
  rw [e]
  refine ⟨by simp, .inl ⟨D, _, rfl, run_takeDeferred hD, ?_⟩⟩
  exact h1.2⟩
theorem fn_enter {f : FuncId} {fn : Func} {c : Code} {vs : List Value} {R : Ending → World → Prop} (m n : Nat) (hf : P.funcs[f]? = some fn) (hb : fn.body = some c) (hn : fn.ntmps = n) (hle : Nat.ble vs.length n = true)
    (h : CW none m [] P n c (postM m P fn R) (zipN 0 vs) w) : CallsIn (fr none) m P f vs.toArray w R := by
  refine callsIn_of_wp_marks hf hb trivial (wpIn_mono (h.out ⟨_, []⟩ ⟨?_, rfl, fun t v e => ?_⟩) fun e a w q => by cases e <;> first | exact q | exact q.elim)
  · have : vs.length ≤ n := Nat.le_of_ble_eq_true hle
    simp [hn]; omega
  · obtain ⟨_, h2⟩ := look_zipN vs 0 t v e
    rw [Nat.sub_zero] at h2
    have hlt : t < vs.toArray.size := by simpa using (List.getElem?_eq_some_iff.1 h2).1
    show (vs.toArray ++ Array.replicate (fn.ntmps - vs.toArray.size) undef)[t]? = some v
    rw [Array.getElem?_append_left hlt]; simpa using h2
def zipP : List Nat → List Value → Fr → Fr
  | p :: ps, v :: vs, l => zipP ps vs ((p, v) :: l)
  | _, _, l => l
theorem holds_zipP : ∀ (ps : List Nat) (vs : List Value) (l : Fr) (a : Act), Holds n l a → (∀ p ∈ ps, Nat.blt p n = true) → Holds n (zipP ps vs l) { tmps := (ps.zip vs).foldl (fun t (q : Nat × Value) => t.setIfInBounds q.1 q.2) a.tmps, defers := [] }
  | [], vs, l, a, h, _ => by
    have e : a = ⟨a.tmps, []⟩ := by obtain ⟨t, d⟩ := a; obtain ⟨_, h2, _⟩ := h; simp only at h2; subst h2; rfl
    show Holds n l ⟨a.tmps, []⟩
    rw [← e]; exact h
  | p :: ps, [], l, a, h, _ => by
    have e : a = ⟨a.tmps, []⟩ := by obtain ⟨t, d⟩ := a; obtain ⟨_, h2, _⟩ := h; simp only at h2; subst h2; rfl
    show Holds n l ⟨a.tmps, []⟩
    rw [← e]; exact h
  | p :: ps, v :: vs, l, a, h, hp => holds_zipP ps vs ((p, v) :: l) (a.put (some p) v) (h.put (hp p List.mem_cons_self) v) (fun q hq => hp q (List.mem_cons_of_mem _ hq))
theorem cw_range {α σ : Type} {g : Operand} {ps : List Nat} {assign body : Code} {k : Nat} {gf : Nat} {lb : Array Value} (hg : ev l g = some (.func (.func gf) #[] lb)) (he : entersB P gf = true)
    {encs : α → List Value} {Kp : World → World → Prop} {S Sp : List α → Prop} {N : Nat} {w0 : World} (hseq : SeqStopsK (fr none) (k + 1) P gf lb (fun x => (encs x).toArray) Kp S Sp N w0)
    (hKt : ∀ {A B C : World}, Kp A B → Kp B C → Kp A C) (hKb : ∀ (W : World) (l : Nat) (o o' : Obj), w.heap.size ≤ l → W.heap[l]? = some o → o.isCells = false → o.isWalk = false → Kp W (W.putObj l o')) (hb0 : Below w0.heap.size w0 w) (hps : ∀ x, (encs x).length = ps.length) (hpn : ∀ p ∈ ps, Nat.blt p n = true)
    (I : List α → World → Prop) (Ix : Code → List α → World → Prop) (hI : OwnFrom w.heap.size I) (hIx : ∀ c, OwnFrom w.heap.size (Ix c)) (h0 : I [] w) (LB : α → σ → Fr) (F : α → σ → World → Prop) (hF : ∀ x y, OwnFrom w.heap.size (fun (_ : Unit) W => F x y W))
    (hassign : ∀ (ln : Nat) (pre : List α) (x : α) (W : World), I pre W →
      CW (some ln) k [] P n assign (Exit.then (fun a' W' => ∃ y, Holds n (LB x y) a' ∧ F x y W' ∧ KeepsFrom w.heap.size W W' ∧ Kp W W' ∧ I pre W') (fun _ _ _ => False)) (zipP ps (encs x) l) W)
    (hbody : ∀ (ln : Nat) (pre : List α) (x : α) (y : σ) (W : World), w.heap.size ≤ ln → (∃ r, W.heap[ln]? = some (.loop r)) → I pre W → F x y W → pre.length < N → CW (some ln) k [] P n body (ownPostG w.heap.size Kp I Ix (pre ++ [x]) W) (LB x y) W)
    (hdone : ∀ (D : Nat) (xs : List α) (W : World), w.heap.size ≤ D → S xs → I xs W → W.heap[D]? = some (.deferred (some [])) → QW n (lift ({ target := .collected D, args := #[] } :: mk) Q) .normal l W)
    (hstop : ∀ (D : Nat) (c : Code) (pre : List α) (W : World), w.heap.size ≤ D → Sp pre → Ix c pre W → W.heap[D]? = some (.deferred (some [])) → CW none (k + 2) ({ target := .collected D, args := #[] } :: mk) P n c Q l W) :
    CW none (k + 2) mk P n (.rangeFunc g ps.toArray assign body) Q l w := ⟨fun a ha => by
  have hd : a.defers = [] := ha.2.1
  have e0 : ∀ D : Nat, ({ up mk a with defers := { target := .collected D, args := #[] } :: (up mk a).defers } : Act) = up ({ target := .collected D, args := #[] } :: mk) a := fun D => by
    show (⟨a.tmps, _ :: (a.defers ++ mk)⟩ : Act) = ⟨a.tmps, a.defers ++ _ :: mk⟩
    rw [hd]; rfl
  refine wpIn_rangeFunc_ownH (F := fr none) rfl (by omega) (up_eval.trans (ha.ev hg)) trivial (fun args w => run_callFunc he args w) hseq hKt hKb hb0 (fun x => by simpa using hps x) I Ix hI hIx h0 (fun x a' W => ∃ y, Holds n (LB x y) a' ∧ F x y W) (fun x a' _ A B row h hg hr => by obtain ⟨y, h1, h2⟩ := h; exact ⟨y, h1, hF x y () A B row h2 hg hr⟩) ?_ ?_ ?_ ?_
  · intro ln pre x W K hi hK
    have h1 := (hassign ln pre x W hi).out _ (holds_zipP ps (encs x) l a ha hpn)
    have e : up [] ({ tmps := (ps.zip (encs x)).foldl (fun t (q : Nat × Value) => t.setIfInBounds q.1 q.2) a.tmps, defers := [] } : Act) = { tmps := (ps.toArray.zip (encs x).toArray).foldl (fun t (p, v) => t.setIfInBounds p v) (up mk a).tmps, defers := [] } := by
      show (⟨_, [] ++ []⟩ : Act) = _
      congr 1
      rw [List.zip_toArray, List.foldl_toArray]; rfl
    rw [e] at h1
    refine wpIn_mono h1 fun e a' w' q => ?_
    cases e with
    | normal => obtain ⟨y, h2, h6, h3, h4, h5⟩ := q; exact hK a' w' h3 h4 h5 ⟨y, h2, h6⟩
    | _ => exact q
  · intro ln pre x a' W hln hlr hi hax hlen
    obtain ⟨y, hax, hfy⟩ := hax
    have h1 := (hbody ln pre x y W hln hlr hi hfy hlen).out a' hax
    have e : up [] a' = a' := by
      obtain ⟨t, d⟩ := a'
      show (⟨t, d ++ []⟩ : Act) = ⟨t, d⟩
      rw [List.append_nil]
    rw [e] at h1
    exact h1
  · intro D xs W hD hS hi hW
    rw [e0]
    exact (hdone D xs W hD hS hi hW).out a ha
  · intro D c pre W hD hS hi hW
    rw [e0]
    exact (hstop D c pre W hD hS hi hW).out a ha⟩
theorem qw_assign {α σ : Type} {B : Nat} {Kp : World → World → Prop} {I : List α → World → Prop} {x : α} {pre : List α} {LB : α → σ → Fr} {F : α → σ → World → Prop} {W : World} (y : σ) (h0 : Sub (LB x y) l) (hF : F x y w) (h1 : KeepsFrom B W w) (h2 : Kp W w) (h3 : I pre w) : QW n (lift [] (Exit.then (fun a' W' => ∃ y, Holds n (LB x y) a' ∧ F x y W' ∧ KeepsFrom B W W' ∧ Kp W W' ∧ I pre W') (fun _ _ _ => False))) .normal l w := ⟨fun a ha => by
  have e : up [] a = a := by
    obtain ⟨t, d⟩ := a
    show (⟨t, d ++ []⟩ : Act) = ⟨t, d⟩
    rw [List.append_nil]
  show ∃ y, Holds n (LB x y) (up [] a) ∧ _
  rw [e]
  exact ⟨y, ha.sub h0, hF, h1, h2, h3⟩⟩
end
end Go.Proofs.YtekomjnjddhfmaaGreat.R
namespace Go.Proofs.YtekomjnjddhfmaaGreat.R
open Go.RowKit

structure LY (r : Option Nat) (m : Nat) (mk : List Deferred) (P : Program) (n : Nat) (ops : Array Oper) (Q : Exit → Act → World → Prop) (os : List Oper) (l : Fr) (w : World) : Prop where
  out : ∀ a, Holds n l a → wpListIn (fr r) m P ops Q os (up mk a) w
section
variable {r : Option Nat} {m : Nat} {mk : List Deferred} {P : Program} {n : Nat} {ops : Array Oper} {Q : Exit → Act → World → Prop} {os : List Oper} {l : Fr} {w : World}
theorem cw_regionY {i : Nat} {os : List Oper} (h : LY r m mk P n os.toArray Q os l w) : CW r m mk P n (.region i os.toArray false) Q l w := ⟨fun a ha => wpIn_region_lit (h.out a ha)⟩
theorem ly_nil (h : QW n (lift mk Q) .normal l w) : LY r m mk P n ops Q [] l w := ⟨fun a ha => wpListIn_nil (h.out a ha)⟩
theorem is_seqr (i : Nat) {os : Array Oper} {d : Bool} {y : Code} (h : CW r m mk P n (.seq (.region i os d) y) Q l w) : CW r m mk P n (.seq (.region i os d) y) Q l w := h
theorem is_seqb {i : Nat} {c y : Code} (h : CW r m mk P n (.seq (.block i c) y) Q l w) : CW r m mk P n (.seq (.block i c) y) Q l w := h
theorem is_blk {i : Nat} {c : Code} (h : CW r m mk P n (.block i c) Q l w) : CW r m mk P n (.block i c) Q l w := h
theorem exec_up {o : Oper} {a : Act} : execOp (up mk a).eval o = execOp a.eval o := by
  have e : (up mk a).eval = a.eval := by funext x; exact up_eval
  rw [e]
theorem not_defer {o : Oper} {a : Act} {v : Value} {w w' : World} (h : (execOp a.eval o).run P w = .ok (.value v) w') : ∀ c, o.op ≠ .defer c := by
  intro c e
  unfold execOp at h
  rw [e] at h
  simp only [Sem.run_bind] at h
  cases hr : (resolve a.eval c o.type).run P w with
  | ok d w1 => rw [hr] at h; simp [Result.andThen] at h
  | halt x w1 => rw [hr] at h; simp [Result.andThen] at h
theorem ly_pure {d : Nat} {op : Op} {ty : TypeId} {pos : String} {af : Array Edge} {v : Value} (hd : Nat.blt d n = true) (hv : Pv P n l ⟨some d, op, ty, pos, af, none⟩ v w) (h : LY r m mk P n ops Q os ((d, v) :: l) w) :
    LY r m mk P n ops Q (⟨some d, op, ty, pos, af, none⟩ :: os) l w := ⟨fun a ha => wpListIn_plain rfl fun K hK => by
  refine ⟨about_fr, ?_⟩
  have h1 := hv.out a ha
  rw [Oper.semAt_eq _ _ _ (not_defer h1), exec_up, h1]
  have h2 := hK _ _ (h.out _ (ha.put hd v))
  rw [up_put] at h2
  exact h2⟩
theorem ly_not {d : Nat} {op : Op} {ty : TypeId} {pos : String} {af : Array Edge} {g : Nat} {t : Nat} {b c : Bool} (hd : Nat.blt d n = true) (hg : (ops[g]?).bind (·.dst) = some t) (ht : look l t = some (.bool c)) (hc : c = !b) (h : LY r m mk P n ops Q os ((d, undef) :: l) w) :
    LY r m mk P n ops Q (⟨some d, op, ty, pos, af, some (g, b)⟩ :: os) l w := ⟨fun a ha => wpListIn_step fun K hK => by
  have hw : Region.wanted ⟨some d, op, ty, pos, af, some (g, b)⟩ (yielded ops (up mk a).tmps) = false := by
    show Region.wanted ⟨some d, op, ty, pos, af, some (g, b)⟩ (yielded ops a.tmps) = false
    simp only [Region.wanted, yielded, hg, Option.bind_some, ha.2.2 t _ ht]
    subst hc; cases b <;> rfl
  rw [if_neg (by rw [hw]; simp)]
  have h2 := hK _ _ (h.out _ (ha.put hd undef))
  rw [up_put] at h2
  exact ⟨about_fr, h2⟩⟩
theorem ly_on {d : Option Nat} {op : Op} {ty : TypeId} {pos : String} {af : Array Edge} {g : Nat} {t : Nat} {b c : Bool} (hg : (ops[g]?).bind (·.dst) = some t) (ht : look l t = some (.bool c)) (hc : c = b) (h : LY r m mk P n ops Q (⟨d, op, ty, pos, af, none⟩ :: os) l w) :
    LY r m mk P n ops Q (⟨d, op, ty, pos, af, some (g, b)⟩ :: os) l w := ⟨fun a ha => by
  have hw : Region.wanted ⟨d, op, ty, pos, af, some (g, b)⟩ (yielded ops (up mk a).tmps) = true := by
    show Region.wanted ⟨d, op, ty, pos, af, some (g, b)⟩ (yielded ops a.tmps) = true
    simp only [Region.wanted, yielded, hg, Option.bind_some, ha.2.2 t _ ht]
    subst hc; simp
  have h1 := h.out a ha
  unfold wpListIn at h1 ⊢
  rw [if_pos hw]
  rw [if_pos (by rfl)] at h1
  exact h1⟩
theorem ly_yield {d : Nat} {x : Operand} {args : List Operand} {ts : Array TypeId} {ty : TypeId} {pos : String} {af : Array Edge} {vs : List Value} {l0 : Nat} {R : Ending → World → Prop} (hd : Nat.blt d n = true) (hx : ev l x = some (.func (.yield l0) #[] #[])) (hvs : evs l args = some vs)
    (hY : YieldAt (fr r) (m - 1) P l0 vs.toArray w R) (h : ∀ e w', R e w' → ∃ v, e = .returned v ∧ LY r m mk P n ops Q os ((d, v) :: l) w') :
    LY r m mk P n ops Q (⟨some d, .call ⟨.value x, args.toArray, ts⟩, ty, pos, af, none⟩ :: os) l w := ⟨fun a ha => wpListIn_plain rfl fun K hK => by
  refine ⟨about_fr, ?_⟩
  obtain ⟨fn, tmps, assign, body, hy, hR⟩ := hY
  rw [Oper.semAt_eq _ _ _ (fun c e => by cases e), exec_up]
  have hrun : (execOp a.eval ⟨some d, .call ⟨.value x, args.toArray, ts⟩, ty, pos, af, none⟩).run P w = .ok (.round l0 fn tmps assign body) w := by
    simp [execOp, resolve, ha.ev hx, Deferred.ofValue, invoke, ha.evs hvs, hy]
  rw [hrun]
  refine ⟨deep_fr, hR.mono fun e w' q => ?_⟩
  obtain ⟨v, rfl, hl⟩ := h e w' q
  have h2 := hK _ _ (hl.out _ (ha.put hd v))
  rw [up_put] at h2
  exact h2⟩
theorem qw_endM0 {fn : Func} {R : Ending → World → Prop} (h : QW n (bodyPost P fn R) .normal l w) : QW n (lift [] (Go.Proofs.YtekomjnjddhfmaaGreat.R.postM m P fn R)) .normal l w := ⟨fun a ha => by
  have h1 := h.out a ha
  have e : (up [] a).defers = [] := by show a.defers ++ [] = []; rw [ha.2.1]; rfl
  show LeavesInM (fr none) m P fn a.tmps R (up [] a).defers .returning w
  rw [e]
  exact h1.2⟩
end
/-! ### what stays -/
section
variable {W W' : World} {row : Option Nat} {B : Nat}
theorem pt_from {N : Nat} {T : TypeId} {cs : List Value} (h : PT W N T cs) (hg : W.grownBy W' row) (hr : ∀ r, row = some r → B ≤ r ∧ ∃ o : Obj, W.heap[r]? = some o ∧ o.isCells = false) : PT W' N T cs := by
  refine (hg.block N h.lt (fun e => ?_)).trans h
  obtain ⟨_, o, ho, hc⟩ := hr N e.symm
  rw [show W.heap[N]? = _ from h] at ho
  injection ho with ho; subst ho; cases hc
theorem below_from {w0 : World} (h : Below w0.heap.size w0 W) (hB : w0.heap.size ≤ B) (hg : W.grownBy W' row) (hr : ∀ r, row = some r → B ≤ r ∧ ∃ o : Obj, W.heap[r]? = some o ∧ o.isCells = false) : Below w0.heap.size w0 W' :=
  h.grown hg h.size fun q e => Nat.le_trans hB (hr q e).1
theorem keeps_below (h : Below W.heap.size W W') : KeepsFrom B W W' := ⟨h.size, fun k _ _ hk _ => (h.block k (Array.getElem?_eq_some_iff.1 hk).1).trans hk⟩
theorem keeps_row {b : Nat} {T : TypeId} {cs : Array Value} {z : Nat × Nat} (h : W.grownBy W' (some b)) (hb : W.heap[b]? = some (.cells cs T z)) : KeepsFrom B W W' := ⟨h.size, fun k o _ hk ho => by
  refine (h.block k (Array.getElem?_eq_some_iff.1 hk).1 (fun e => ?_)).trans hk
  injection e with e; subst e
  rw [hb] at hk
  injection hk with hk; subst hk; cases ho⟩
theorem keeps_pt {N : Nat} {T : TypeId} {cs : List Value} (hp : PT W N T cs) (h : W.grownBy W' (some N)) : KeepsFrom B W W' := keeps_row h hp
end
end Go.Proofs.YtekomjnjddhfmaaGreat.R
namespace Go.Proofs.YtekomjnjddhfmaaGreat.R
open Go.RowKit Go.PlainAid

def KX (b X : Nat) (A C : World) : Prop := Below b A C ∧ ∀ (k : Nat) (cs : Array Value) (T : TypeId) (z : Nat × Nat), b ≤ k → k ≠ X → A.heap[k]? = some (.cells cs T z) → C.heap[k]? = some (.cells cs T z)
theorem KX.trans {b X : Nat} {A B C : World} (h : KX b X A B) (k : KX b X B C) : KX b X A C := ⟨h.1.trans k.1, fun q cs T z hb hx ha => k.2 q cs T z hb hx (h.2 q cs T z hb hx ha)⟩
theorem KX.of_below {b X : Nat} {A C : World} (h : Below A.heap.size A C) (hb : b ≤ A.heap.size) : KX b X A C := ⟨h.mono hb, fun q _ _ _ _ _ ha => (h.block q (Array.getElem?_eq_some_iff.1 ha).1).trans ha⟩
theorem KX.of_row {b X : Nat} {A C : World} (h : A.grownBy C (some X)) (hb : b ≤ A.heap.size) (hX : b ≤ X) : KX b X A C := ⟨(Below.refl _ _).grown h hb (fun q e => by injection e with e; omega), fun q cs T z _ hx ha => (h.block q (Array.getElem?_eq_some_iff.1 ha).1 (fun e => by injection e with e; exact hx e)).trans ha⟩
theorem KX.pt {b X N : Nat} {A C : World} {T : TypeId} {cs : List Value} (h : KX b X A C) (hp : PT A N T cs) (hb : b ≤ N) (hx : N ≠ X) : PT C N T cs := h.2 N _ _ _ hb hx hp
theorem ab_below {β : Type} {B : Nat} {J : β → World → Prop} (hJ : AbidesFrom B J) {s : β} {A C : World} (h : J s A) (hb : Below A.heap.size A C) : J s C := hJ s A C none h ⟨hb.os, hb.tape, hb.output, hb.size, fun q hq _ => hb.block q hq⟩ (fun r e => by cases e)
theorem drop_at {α : Type} {l : List α} {k : Nat} {x : α} (h : l[k]? = some x) : l.drop k = x :: l.drop (k + 1) := by
  obtain ⟨hk, rfl⟩ := List.getElem?_eq_some_iff.1 h
  exact List.drop_eq_getElem_cons hk
abbrev PtX := { p : PartT // PartIn p }
abbrev encPt (p : PartT) : List Value := [.agg #[.int .i64 p.1.1, .int .i64 p.1.2], .int .i64 p.2]
def valP (ys : List PtX) : List PartT := ys.map fun q => q.1
theorem valP_snoc (ys : List PtX) (y : PtX) : valP (ys ++ [y]) = valP ys ++ [y.1] := by simp [valP]
def Rall (L : List PartT) (ys : List PtX) : Prop := valP ys = L
def Rpre (L : List PartT) (ys : List PtX) : Prop := ∃ r, valP ys ++ r = L
theorem pre_lt {ys : List PtX} {p : PartT} {r L : List PartT} (h : valP ys ++ p :: r = L) : ys.length < L.length := by
  rw [← h]; simp [valP]
theorem pre_next {ys : List PtX} {y : PtX} {r L : List PartT} (h : valP ys ++ y.1 :: r = L) : valP (ys ++ [y]) ++ r = L := by
  rw [valP_snoc, List.append_assoc]; exact h
def bidP (b : Bid) : PartT := ((b.acct, 0), b.amt)
theorem partA_yes {a : Auc} (h : mayAu a = true) : partA a = ((a.h.seller, a.h.inst), a.h.qty) :: a.bids.map bidP := by unfold partA; rw [if_pos h]; rfl
theorem partA_no {a : Auc} (h : mayAu a = false) : partA a = [] := by unfold partA; rw [h]; rfl
theorem partO_yes {o : Ord} (h : 0 < holdsN o) : partO o = [((o.acct, holdsA o), holdsN o)] := by unfold partO; rw [if_pos h]
theorem partO_no {o : Ord} (h : ¬ 0 < holdsN o) : partO o = [] := by unfold partO; rw [if_neg h]
structure At (b N : Nat) (w0 : World) (s : SttC) (W : World) (w : World) : Prop where
  b : Below b w0 w
  p : PT w N 30 (encS s)
  z : W.heap.size ≤ w.heap.size
theorem At.mono {b N : Nat} {w0 W w w' : World} {s : SttC} (h : At b N w0 s W w) (hb : Below w.heap.size w w') (hz : b ≤ w.heap.size) : At b N w0 s W w' := ⟨h.b.trans (hb.mono hz), h.p.mono hb, Nat.le_trans h.z hb.size⟩
theorem At.kx {b N X : Nat} {w0 W w w' : World} {s : SttC} (h : At b N w0 s W w) (hb : KX b X w w') (hbN : b ≤ N) (hx : N ≠ X) : At b N w0 s W w' := ⟨h.b.trans hb.1, hb.pt h.p hbN hx, Nat.le_trans h.z hb.1.size⟩
set_option maxRecDepth 20000 in
set_option maxHeartbeats 4000000 in
theorem parts_stops {s : SttC} {t : Stt} {b N X : Nat} {w0 w1 : World} (hS : StR w0 s t) (hb : b = w0.heap.size) (h01 : Below b w0 w1) (HP : PT w1 N 30 (encS s)) (hbN : b ≤ N) (hNX : N ≠ X) (hX : X < w1.heap.size) :
    SeqStopsK (fr none) 1 Tryz.prog 77 #[.pointer (some ⟨N, 0, none⟩)] (fun x : PtX => (encPt x.1).toArray) (KX b X) (Rall (partsP t.ords t.aucs)) (Rpre (partsP t.ords t.aucs)) (partsP t.ords t.aucs).length w1 := by
  subst hb
  intro l J Jx W hW hJ hJx hY h0
  show CallsIn (fr none) 1 Tryz.prog _ [Value.func (.yield l) #[] #[], .pointer (some ⟨N, 0, none⟩)].toArray W _
  have hA : At w0.heap.size N w0 s W W := ⟨h01.trans (hW.mono h01.size), HP.mono hW, Nat.le_refl _⟩
  have hzW := hA.b.size
  have h1W := hW.size
  have hol := hS.O.le
  have hom := hS.O.max
  have hmo := hS.mo
  have hmx := hS.mx
  obtain ⟨xs, hXs, hAs⟩ := hS.X
  have hxl := hXs.le
  have hxm := hXs.max
  have hxn := hAs.1
  have hw := Below.refl W.heap.size W
  have HP1 := hA.p
  generalize hL : partsP t.ords t.aucs = L at hY
  have hL0 : valP [] ++ (t.ords.drop 0).flatMap partO ++ t.aucs.flatMap partA = L := by rw [← hL]; simp [valP, partsP]
  refine R.fn_enter _ 73 Tryz.func77 rfl rfl rfl ?_
  repeat' (first | (refine lw_pure rfl (pv_move rfl) ?_) | (refine is_cw ?_; first | (refine cw_seq ?_) | (refine cw_region ?_) | (refine cw_block ?_)) | (refine is_qw ?_; first | (with_reducible refine qw_then ?_)) | (refine lw_nil ?_) | ((refine is_load ?_; first | (refine lw_pure rfl (pv_load (t1 rfl) rfl (by first | exact PT.ld0 (HP1.mono hw) rfl | exact PT.ld (HP1.mono hw) rfl)) ?_))) | ((refine is_fa ?_; first | (refine lw_pure rfl (pv_fa (tF rfl) rfl) ?_))) | ((refine is_bi ?_; first | (refine lw_pure rfl (pv_lenl (tS rfl) rfl) ?_))))
  refine cw_loop (σ := Nat × List PtX) (fun q => [(0, .func (.yield l) #[] #[]), (1, .pointer (some ⟨N, 0, none⟩)), (12, .slice s.po s.mo s.co), (13, .int .i64 (s.mo : Nat)), (14, .int .i64 (q.1 : Nat))]) (fun q wr => q.1 ≤ s.mo ∧ At w0.heap.size N w0 s W wr ∧ J q.2 wr ∧ valP q.2 ++ (t.ords.drop q.1).flatMap partO ++ t.aucs.flatMap partA = L) (fun q => s.mo - q.1) (0, []) (by repeat' (first | exact trivial | refine ⟨rfl, ?_⟩)) ⟨Nat.zero_le _, hA, h0, hL0⟩ ?_
  clear hw HP1 hA h0 hL0
  rintro ⟨k, pre⟩ wr ⟨hk, hA, hj, hp⟩
  dsimp only at hk hj hp
  change CW none 1 [] Tryz.prog _ _ _ [(0, .func (.yield l) #[] #[]), (1, .pointer (some ⟨N, 0, none⟩)), (12, .slice s.po s.mo s.co), (13, .int .i64 (s.mo : Nat)), (14, .int .i64 (k : Nat))] wr
  have hzr := hA.b.size
  by_cases hlt : k < s.mo
  · have hxk : t.ords[k]? = some (t.ords[k]'(by omega)) := List.getElem?_eq_getElem _
    have HO := hS.O.mono hA.b
    obtain ⟨ab, ao, hpo, -, -⟩ := HO.at (by intro h; rw [h] at hmo; simp at hmo; omega)
    rw [hpo] at HO ⊢
    generalize t.ords[k]'(by omega) = x at hxk
    rw [drop_at hxk, List.flatMap_cons] at hp
    have hw := Below.refl wr.heap.size wr
    repeat' (first | (refine is_cw ?_; first | (refine cw_seq ?_) | (refine cw_region ?_) | (refine is_cd ?_; refine cw_true rfl (by first | assumption | exact decide_eq_true (by omega) | exact dec_notT (by omega)) ?_) | (refine cw_skip ?_) | (refine cw_block ?_)) | (refine is_qw ?_; first | (with_reducible refine qw_then ?_)) | (refine lw_nil ?_) | ((refine is_bin ?_; first | (refine lw_pure rfl (pv_lss rfl rfl) ?_))) | ((refine is_load ?_; first | (refine lw_pure rfl (pv_loada (tA rfl) rfl (by first | exact SlR.lda (HO.mono hw) hxk) (by rfl)) ?_))) | ((refine is_ia ?_; first | (refine lw_pure rfl (pv_ian (tS rfl) rfl rfl (by omega)) ?_))))
    refine lw_varN rfl (by first | exact tyv_29 | exact tyv_30 | exact tyv_33 | exact tyv_34 | exact tyv_36 | exact tyv_37 | exact tyv_38 | exact tyv_39 | exact tyv_40 | exact tyv_41 | exact tyv_43 | exact tyv_44 | exact tyv_45 | exact tyv_46 | exact tyv_73 | exact tyv_74 | exact tyv_80 | exact tyv_81 | exact tyv_107 | exact tyv_108 | exact tyv_123 | exact tyv_146 | exact tyv_147 | exact tyv_148 | exact tyv_149) rfl (tZ rfl) (fun _ => rfl) rfl rfl ?_; intro N4 w4 hN4 HV hb
    replace HV : PT w4 N4 41 (encO x) := HV
    replace hw := grow_trans hw hb
    clear hb
    replace hj := ab_below hJ hj hw
    replace hA := hA.mono hw hzr
    clear hw
    have hw := Below.refl w4.heap.size w4
    repeat' (first | (refine is_cw ?_; first | (refine cw_seq ?_) | (refine cw_region ?_)) | (refine is_qw ?_; first | (with_reducible refine qw_then ?_)) | (refine lw_nil ?_) | ((refine is_load ?_; first | (refine lw_pure rfl (pv_loada (tA rfl) rfl (by first | exact PT.lda (HV.mono hw)) (by rfl)) ?_))))
    refine lw_call (f := 28) (by kernel_rfl) rfl rfl (holds_c x _) ?_; rintro e w5 ⟨rfl, hb⟩; refine ⟨_, rfl, ?_⟩
    replace HV := HV.mono hb
    replace hj := ab_below hJ hj hb
    replace hA := hA.mono hb (by have := hA.b.size; omega)
    clear hw hb HO
    have hw := Below.refl w5.heap.size w5
    repeat' ((fail_if_success (refine is_seqr 4 ?_)); first | (refine lw_pure rfl (pv_move rfl) ?_) | (refine lw_pure rfl (pv_assign rfl) ?_) | (refine is_qw ?_; first | (with_reducible refine qw_then ?_)) | (refine lw_nil ?_) | (refine lw_pure rfl (pv_extract rfl rfl) ?_))
    refine cw_seq ?_
    refine cw_regionY ?_
    by_cases hh : 0 < holdsN x
    · rw [partO_yes hh] at hp
      have hin : PartIn ((x.acct, holdsA x), holdsN x) := partO_in _ (by rw [partO_yes hh]; simp)
      have hpp : valP pre ++ ((x.acct, holdsA x), holdsN x) :: ((t.ords.drop (k + 1)).flatMap partO ++ t.aucs.flatMap partA) = L := by rw [← hp]; simp
      have hd : decide (holdsN x > 0) = true := decide_eq_true hh
      repeat' (first | (refine ly_pure rfl (tyB_81 rfl rfl rfl) ?_) | (refine ly_pure rfl (pv_move rfl) ?_) | (refine ly_pure rfl (pv_gtr rfl rfl) ?_) | (refine ly_pure rfl (pv_fa (tF rfl) rfl) ?_) | (refine ly_pure rfl (pv_load (t1 rfl) rfl (by first | exact PT.ld0 (HV.mono hw) rfl | exact PT.ld (HV.mono hw) rfl)) ?_) | (refine ly_on rfl rfl (by first | assumption | exact decide_eq_true (by omega) | exact decide_eq_false (by omega) | exact dec_notT (by omega) | exact dec_notF (by omega)) ?_))
      refine ly_yield rfl rfl rfl (hY pre ⟨_, hin⟩ _ hj (pre_lt hpp)) ?_
      rintro e W' (⟨rfl, hj2, hk2⟩ | ⟨rfl, hjx⟩)
      · refine ⟨_, rfl, ?_⟩
        replace hA := hA.kx hk2 hbN hNX
        clear hw
        have hw := Below.refl W'.heap.size W'
        repeat' (first | (refine ly_pure rfl (pv_pick_t rfl (by first | assumption | exact decide_eq_true (by omega) | exact dec_notT (by omega)) rfl) ?_) | (refine ly_pure rfl (pv_not rfl) ?_) | (refine ly_on rfl rfl (by first | assumption | exact decide_eq_true (by omega) | exact decide_eq_false (by omega) | exact dec_notT (by omega) | exact dec_notF (by omega)) ?_))
        refine ly_nil ?_
        repeat' (first | (refine lw_pure rfl (pv_move rfl) ?_) | (refine is_cw ?_; first | (refine cw_region ?_) | (refine cw_false rfl rfl ?_) | (refine cw_skip ?_)) | (refine is_qw ?_; first | (with_reducible refine qw_then ?_) | (with_reducible refine qw_in ?_)) | (refine lw_nil ?_) | ((refine is_bin ?_; first | (refine lw_pure rfl (pv_inc rfl rfl (by omega)) ?_))))
        rw [← hpo]
        exact qw_round (k + 1, pre ++ [⟨_, hin⟩]) (by repeat' (first | exact trivial | refine ⟨rfl, ?_⟩)) ⟨by show k + 1 ≤ _; omega, hA, hj2, by have := pre_next (y := ⟨_, hin⟩) hpp; rw [← List.append_assoc] at this; exact this⟩ (by show s.mo - (k + 1) < s.mo - k; omega)
      · skip
        refine ⟨_, rfl, ?_⟩
        repeat' (first | (refine ly_pure rfl (pv_pick_t rfl (by first | assumption | exact decide_eq_true (by omega) | exact dec_notT (by omega)) rfl) ?_) | (refine ly_pure rfl (pv_not rfl) ?_) | (refine ly_on rfl rfl (by first | assumption | exact decide_eq_true (by omega) | exact decide_eq_false (by omega) | exact dec_notT (by omega) | exact dec_notF (by omega)) ?_))
        refine ly_nil ?_
        repeat' (first | (refine is_cw ?_; first | (refine cw_true rfl rfl ?_) | (refine cw_ret ?_)) | (refine is_qw ?_; first | (with_reducible refine qw_then ?_) | (with_reducible refine qw_then_ret ?_) | (with_reducible refine qw_in_ret ?_)))
        refine qw_retM0 (qw_ret0 rfl ⟨⟨_, rfl⟩, Or.inr ⟨_, ⟨_, pre_next hpp⟩, hjx⟩⟩)
    · rw [partO_no hh, List.nil_append] at hp
      have hd : decide (holdsN x > 0) = false := decide_eq_false hh
      repeat' (first | (refine ly_pure rfl (pv_move rfl) ?_) | (refine ly_pure rfl (pv_pick_f rfl (by first | assumption | exact decide_eq_false (by omega) | exact dec_notF (by omega)) rfl) ?_) | (refine ly_pure rfl (pv_gtr rfl rfl) ?_) | (refine ly_not rfl rfl rfl (by first | assumption | exact decide_eq_true (by omega) | exact decide_eq_false (by omega) | exact dec_notT (by omega) | exact dec_notF (by omega)) ?_))
      refine ly_nil ?_
      repeat' (first | (refine lw_pure rfl (pv_move rfl) ?_) | (refine is_cw ?_; first | (refine cw_region ?_) | (refine cw_false rfl rfl ?_) | (refine cw_skip ?_)) | (refine is_qw ?_; first | (with_reducible refine qw_then ?_) | (with_reducible refine qw_in ?_)) | (refine lw_nil ?_) | ((refine is_bin ?_; first | (refine lw_pure rfl (pv_inc rfl rfl (by omega)) ?_))))
      rw [← hpo]
      exact qw_round (k + 1, pre) (by repeat' (first | exact trivial | refine ⟨rfl, ?_⟩)) ⟨by show k + 1 ≤ _; omega, hA, hj, hp⟩ (by show s.mo - (k + 1) < s.mo - k; omega)
  · have hkl : k = s.mo := by omega
    subst hkl
    rw [List.drop_of_length_le (by omega)] at hp
    replace hp : valP pre ++ (t.aucs.drop 0).flatMap partA = L := by rw [← hp]; simp
    have hw := Below.refl wr.heap.size wr
    have HP1 := hA.p
    repeat' (first | (refine lw_pure rfl (pv_move rfl) ?_) | (refine is_cw ?_; first | (refine cw_seq ?_) | (refine cw_region ?_) | (refine is_cd ?_; refine cw_false rfl (by first | assumption | exact decide_eq_false (by omega) | exact dec_notF (by omega)) ?_) | (refine cw_block ?_) | (refine cw_exit ?_)) | (refine is_qw ?_; first | (with_reducible refine qw_then ?_) | (with_reducible refine qw_in_hit ?_) | (with_reducible refine qw_then_exit ?_)) | (refine lw_nil ?_) | ((refine is_bin ?_; first | (refine lw_pure rfl (pv_lss rfl rfl) ?_))) | ((refine is_load ?_; first | (refine lw_pure rfl (pv_load (t1 rfl) rfl (by first | exact PT.ld0 (HP1.mono hw) rfl | exact PT.ld (HP1.mono hw) rfl)) ?_))) | ((refine is_fa ?_; first | (refine lw_pure rfl (pv_fa (tF rfl) rfl) ?_))) | ((refine is_bi ?_; first | (refine lw_pure rfl (pv_lenl (tS rfl) rfl) ?_))))
    refine cw_loop (σ := Nat × List PtX) (fun q => [(0, .func (.yield l) #[] #[]), (1, .pointer (some ⟨N, 0, none⟩)), (37, .slice s.px s.mx s.cx), (38, .int .i64 (s.mx : Nat)), (39, .int .i64 (q.1 : Nat))]) (fun q wr => q.1 ≤ s.mx ∧ At w0.heap.size N w0 s W wr ∧ J q.2 wr ∧ valP q.2 ++ (t.aucs.drop q.1).flatMap partA = L) (fun q => s.mx - q.1) (0, pre) (by repeat' (first | exact trivial | refine ⟨rfl, ?_⟩)) ⟨Nat.zero_le _, hA, hj, hp⟩ ?_
    clear hw HP1 hA hj hp hzr
    clear pre
    rintro ⟨k, pre⟩ wq ⟨hk, hA, hj, hp⟩
    dsimp only at hk hj hp
    change CW none 1 [] Tryz.prog _ _ _ [(0, .func (.yield l) #[] #[]), (1, .pointer (some ⟨N, 0, none⟩)), (37, .slice s.px s.mx s.cx), (38, .int .i64 (s.mx : Nat)), (39, .int .i64 (k : Nat))] wq
    have hzr := hA.b.size
    by_cases hlt : k < s.mx
    · have hak : t.aucs[k]? = some (t.aucs[k]'(by omega)) := List.getElem?_eq_getElem _
      have HX := hXs.mono hA.b
      obtain ⟨ab, ao, hpx, -, -⟩ := HX.at (by intro h; rw [h] at hxn; simp at hxn; omega)
      rw [hpx] at HX ⊢
      generalize t.aucs[k]'(by omega) = a at hak
      rw [drop_at hak, List.flatMap_cons] at hp
      obtain ⟨x, hxk, hR⟩ := hAs.at hak
      obtain ⟨xh, ba, bm, bc⟩ := x
      obtain ⟨hh, hm, HB0⟩ := hR
      simp only at hh hm HB0
      subst hh hm
      have hbl := HB0.le
      have hbm := HB0.max
      have hw := Below.refl wq.heap.size wq
      repeat' (first | (refine is_cw ?_; first | (refine cw_seq ?_) | (refine cw_region ?_) | (refine is_cd ?_; refine cw_true rfl (by first | assumption | exact decide_eq_true (by omega) | exact dec_notT (by omega)) ?_) | (refine cw_skip ?_) | (refine cw_block ?_)) | (refine is_qw ?_; first | (with_reducible refine qw_then ?_)) | (refine lw_nil ?_) | ((refine is_bin ?_; first | (refine lw_pure rfl (pv_lss rfl rfl) ?_))) | ((refine is_load ?_; first | (refine lw_pure rfl (pv_loada (tA rfl) rfl (by first | exact SlR.lda (HX.mono hw) hxk) (by rfl)) ?_))) | ((refine is_ia ?_; first | (refine lw_pure rfl (pv_ian (tS rfl) rfl rfl (by omega)) ?_))))
      refine lw_varN rfl (by first | exact tyv_29 | exact tyv_30 | exact tyv_33 | exact tyv_34 | exact tyv_36 | exact tyv_37 | exact tyv_38 | exact tyv_39 | exact tyv_40 | exact tyv_41 | exact tyv_43 | exact tyv_44 | exact tyv_45 | exact tyv_46 | exact tyv_73 | exact tyv_74 | exact tyv_80 | exact tyv_81 | exact tyv_107 | exact tyv_108 | exact tyv_123 | exact tyv_146 | exact tyv_147 | exact tyv_148 | exact tyv_149) rfl (tZ rfl) (fun _ => rfl) rfl rfl ?_; intro N8 w8 hN8 HV hb
      replace HV : PT w8 N8 44 [.int .i64 a.h.id, .int .i64 a.h.seller, .int .i64 a.h.inst, .bool a.h.shut, .int .i64 a.h.qty, .int .i64 a.h.reserve, .int .i64 a.h.step, .int .i64 a.h.fin, .slice ba a.bids.length bc] := HV
      replace hN8 := Nat.le_trans hw.size hN8
      replace hw := grow_trans hw hb
      clear hb
      have hzq := hA.z
      have hN8X : N8 ≠ X := by omega
      replace hj := ab_below hJ hj hw
      replace hA := hA.mono hw hzr
      clear hw
      have hw := Below.refl w8.heap.size w8
      repeat' (first | (refine is_cw ?_; first | (refine cw_seq ?_) | (refine cw_region ?_)) | (refine is_qw ?_; first | (with_reducible refine qw_then ?_)) | (refine lw_nil ?_) | ((refine is_load ?_; first | (refine lw_pure rfl (pv_loada (tA rfl) rfl (by first | exact PT.lda (HV.mono hw)) (by rfl)) ?_))))
      cases hM : mayAu a with
      | false =>
        rw [partA_no hM, List.nil_append] at hp
        refine lw_call (f := 69) (by kernel_rfl) rfl rfl (amay_e hM (HB0.mono hA.b)) ?_; rintro e w9 ⟨rfl, hb⟩; refine ⟨_, rfl, ?_⟩
        replace hj := ab_below hJ hj hb
        replace hA := hA.mono hb (by have := hA.b.size; omega)
        repeat' (first | (refine lw_pure rfl (pv_move rfl) ?_) | (refine is_cw ?_; first | (refine cw_region ?_) | (refine cw_true rfl rfl ?_) | (refine cw_exit ?_)) | (refine is_qw ?_; first | (with_reducible refine qw_then ?_) | (with_reducible refine qw_in_hit ?_) | (with_reducible refine qw_then_exit ?_)) | (refine lw_nil ?_) | ((refine is_bin ?_; first | (refine lw_pure rfl (pv_inc rfl rfl (by omega)) ?_))) | ((refine is_un ?_; first | (refine lw_pure rfl (pv_not rfl) ?_))))
        rw [← hpx]
        exact qw_round (k + 1, pre) (by repeat' (first | exact trivial | refine ⟨rfl, ?_⟩)) ⟨by show k + 1 ≤ _; omega, hA, hj, hp⟩ (by show s.mx - (k + 1) < s.mx - k; omega)
      | true =>
        have hin := partA_in (a := a)
        rw [partA_yes hM] at hp hin
        refine lw_call (f := 69) (by kernel_rfl) rfl rfl (amay_e hM (HB0.mono hA.b)) ?_; rintro e w9 ⟨rfl, hb⟩; refine ⟨_, rfl, ?_⟩
        replace hj := ab_below hJ hj hb
        replace hA := hA.mono hb (by have := hA.b.size; omega)
        replace HV := HV.mono hb
        clear hw hb
        have hw := Below.refl w9.heap.size w9
        repeat' ((fail_if_success (refine is_seqr 10 ?_)); first | (refine is_cw ?_; first | (refine cw_seq ?_) | (refine cw_false rfl rfl ?_) | (refine cw_skip ?_)) | (refine is_qw ?_; first | (with_reducible refine qw_then ?_)) | (refine lw_nil ?_) | ((refine is_un ?_; first | (refine lw_pure rfl (pv_not rfl) ?_))))
        refine cw_seq ?_
        refine cw_regionY ?_
        have hin0 : PartIn ((a.h.seller, a.h.inst), a.h.qty) := hin _ List.mem_cons_self
        have hpp : valP pre ++ ((a.h.seller, a.h.inst), a.h.qty) :: (a.bids.map bidP ++ (t.aucs.drop (k + 1)).flatMap partA) = L := by rw [← hp]; simp
        repeat' (first | (refine ly_pure rfl (tyB_81 rfl rfl rfl) ?_) | (refine ly_pure rfl (pv_move rfl) ?_) | (refine ly_pure rfl (pv_fa (tF rfl) rfl) ?_) | (refine ly_pure rfl (pv_load (t1 rfl) rfl (by first | exact PT.ld0 (HV.mono hw) rfl | exact PT.ld (HV.mono hw) rfl)) ?_))
        refine ly_yield rfl rfl rfl (hY pre ⟨_, hin0⟩ _ hj (pre_lt hpp)) ?_
        rintro e W' (⟨rfl, hj2, hk2⟩ | ⟨rfl, hjx⟩)
        · refine ⟨_, rfl, ?_⟩
          replace hA := hA.kx hk2 hbN hNX
          replace HV := hk2.pt HV (by omega) hN8X
          have hpn := pre_next (y := ⟨_, hin0⟩) hpp
          clear hw hj hp hpp hk2
          have hw := Below.refl W'.heap.size W'
          repeat' (first | (refine ly_pure rfl (pv_not rfl) ?_))
          refine ly_nil ?_
          repeat' (first | (refine lw_pure rfl (pv_move rfl) ?_) | (refine is_cw ?_; first | (refine cw_seq ?_) | (refine cw_region ?_) | (refine cw_false rfl rfl ?_) | (refine cw_skip ?_) | (refine cw_block ?_)) | (refine is_qw ?_; first | (with_reducible refine qw_then ?_)) | (refine lw_nil ?_) | ((refine is_load ?_; first | (refine lw_pure rfl (pv_load (t1 rfl) rfl (by first | exact PT.ld0 (HV.mono hw) rfl | exact PT.ld (HV.mono hw) rfl)) ?_))) | ((refine is_fa ?_; first | (refine lw_pure rfl (pv_fa (tF rfl) rfl) ?_))) | ((refine is_bi ?_; first | (refine lw_pure rfl (pv_lenl (tS rfl) rfl) ?_))))
          refine cw_loop (σ := Nat × List PtX) (fun q => [(0, .func (.yield l) #[] #[]), (1, .pointer (some ⟨N, 0, none⟩)), (37, .slice (some ⟨ab, ao, none⟩) s.mx s.cx), (38, .int .i64 (s.mx : Nat)), (39, .int .i64 (k : Nat)), (57, .slice ba a.bids.length bc), (58, .int .i64 (a.bids.length : Nat)), (59, .int .i64 (q.1 : Nat))]) (fun q wz => q.1 ≤ a.bids.length ∧ At w0.heap.size N w0 s W wz ∧ J q.2 wz ∧ valP q.2 ++ ((a.bids.drop q.1).map bidP ++ (t.aucs.drop (k + 1)).flatMap partA) = L) (fun q => a.bids.length - q.1) (0, _) (by repeat' (first | exact trivial | refine ⟨rfl, ?_⟩)) ⟨Nat.zero_le _, hA, hj2, hpn⟩ ?_
          clear hw HV hA hj2 hpn hzr hN8X hN8
          rintro ⟨i, pre⟩ wz ⟨hi, hA, hj, hp⟩
          dsimp only at hi hj hp
          change CW none 1 [] Tryz.prog _ _ _ [(0, .func (.yield l) #[] #[]), (1, .pointer (some ⟨N, 0, none⟩)), (37, .slice (some ⟨ab, ao, none⟩) s.mx s.cx), (38, .int .i64 (s.mx : Nat)), (39, .int .i64 (k : Nat)), (57, .slice ba a.bids.length bc), (58, .int .i64 (a.bids.length : Nat)), (59, .int .i64 (i : Nat))] wz
          have hzr := hA.b.size
          by_cases hlt : i < a.bids.length
          · have hbk : a.bids[i]? = some (a.bids[i]'(by omega)) := List.getElem?_eq_getElem _
            have HB := HB0.mono hA.b
            obtain ⟨bb, bo, rfl, -, -⟩ := HB.at (by intro h; rw [h] at hlt; simp at hlt)
            generalize a.bids[i]'(by omega) = b at hbk
            rw [drop_at hbk, List.map_cons] at hp
            have hw := Below.refl wz.heap.size wz
            repeat' (first | (refine is_cw ?_; first | (refine cw_seq ?_) | (refine cw_region ?_) | (refine is_cd ?_; refine cw_true rfl (by first | assumption | exact decide_eq_true (by omega) | exact dec_notT (by omega)) ?_) | (refine cw_skip ?_) | (refine cw_block ?_)) | (refine is_qw ?_; first | (with_reducible refine qw_then ?_)) | (refine lw_nil ?_) | ((refine is_bin ?_; first | (refine lw_pure rfl (pv_lss rfl rfl) ?_))) | ((refine is_load ?_; first | (refine lw_pure rfl (pv_loada (tA rfl) rfl (by first | exact SlR.lda (HB.mono hw) hbk) (by rfl)) ?_))) | ((refine is_ia ?_; first | (refine lw_pure rfl (pv_ian (tS rfl) rfl rfl (by omega)) ?_))))
            refine lw_varN rfl (by first | exact tyv_29 | exact tyv_30 | exact tyv_33 | exact tyv_34 | exact tyv_36 | exact tyv_37 | exact tyv_38 | exact tyv_39 | exact tyv_40 | exact tyv_41 | exact tyv_43 | exact tyv_44 | exact tyv_45 | exact tyv_46 | exact tyv_73 | exact tyv_74 | exact tyv_80 | exact tyv_81 | exact tyv_107 | exact tyv_108 | exact tyv_123 | exact tyv_146 | exact tyv_147 | exact tyv_148 | exact tyv_149) rfl (tZ rfl) (fun _ => rfl) rfl rfl ?_; intro N10 w10 hN10 HV hb
            replace HV : PT w10 N10 46 (encD b) := HV
            replace hw := grow_trans hw hb
            clear hb
            replace hj := ab_below hJ hj hw
            replace hA := hA.mono hw hzr
            clear hw HB
            have hw := Below.refl w10.heap.size w10
            have hin1 : PartIn (bidP b) := hin _ (List.mem_cons_of_mem _ (List.mem_map.2 ⟨b, List.mem_of_getElem? hbk, rfl⟩))
            repeat' ((fail_if_success (refine is_seqr 14 ?_)); first | (refine is_qw ?_; first | (with_reducible refine qw_then ?_)) | (refine lw_nil ?_))
            refine cw_seq ?_
            refine cw_regionY ?_
            repeat' (first | (refine ly_pure rfl (tyB_81 rfl rfl rfl) ?_) | (refine ly_pure rfl (pv_move rfl) ?_) | (refine ly_pure rfl (pv_fa (tF rfl) rfl) ?_) | (refine ly_pure rfl (pv_load (t1 rfl) rfl (by first | exact PT.ld0 (HV.mono hw) rfl | exact PT.ld (HV.mono hw) rfl)) ?_))
            refine ly_yield rfl rfl rfl (hY pre ⟨bidP b, hin1⟩ _ hj (pre_lt hp)) ?_
            have hpp := hp
            rintro e W' (⟨rfl, hj2, hk2⟩ | ⟨rfl, hjx⟩)
            · refine ⟨_, rfl, ?_⟩
              replace hA := hA.kx hk2 hbN hNX
              clear hw
              have hw := Below.refl W'.heap.size W'
              repeat' (first | (refine ly_pure rfl (pv_not rfl) ?_))
              refine ly_nil ?_
              repeat' (first | (refine lw_pure rfl (pv_move rfl) ?_) | (refine is_cw ?_; first | (refine cw_region ?_) | (refine cw_false rfl rfl ?_) | (refine cw_skip ?_)) | (refine is_qw ?_; first | (with_reducible refine qw_then ?_) | (with_reducible refine qw_in ?_)) | (refine lw_nil ?_) | ((refine is_bin ?_; first | (refine lw_pure rfl (pv_inc rfl rfl (by omega)) ?_))))
              exact qw_round (i + 1, pre ++ [⟨bidP b, hin1⟩]) (by repeat' (first | exact trivial | refine ⟨rfl, ?_⟩)) ⟨by show i + 1 ≤ _; omega, hA, hj2, pre_next (y := ⟨bidP b, hin1⟩) hpp⟩ (by show a.bids.length - (i + 1) < a.bids.length - i; omega)
            · skip
              refine ⟨_, rfl, ?_⟩
              repeat' (first | (refine ly_pure rfl (pv_not rfl) ?_))
              refine ly_nil ?_
              repeat' (first | (refine is_cw ?_; first | (refine cw_true rfl rfl ?_) | (refine cw_ret ?_)) | (refine is_qw ?_; first | (with_reducible refine qw_then ?_) | (with_reducible refine qw_then_ret ?_) | (with_reducible refine qw_in_ret ?_)))
              refine qw_retM0 (qw_ret0 rfl ⟨⟨_, rfl⟩, Or.inr ⟨_, ⟨_, pre_next hpp⟩, hjx⟩⟩)
          · have hil : i = a.bids.length := by omega
            subst hil
            rw [List.drop_of_length_le (by omega), List.map_nil, List.nil_append] at hp
            repeat' (first | (refine lw_pure rfl (pv_move rfl) ?_) | (refine is_cw ?_; first | (refine cw_seq ?_) | (refine cw_region ?_) | (refine is_cd ?_; refine cw_false rfl (by first | assumption | exact decide_eq_false (by omega) | exact dec_notF (by omega)) ?_) | (refine cw_exit ?_)) | (refine is_qw ?_; first | (with_reducible refine qw_then ?_) | (with_reducible refine qw_in ?_) | (with_reducible refine qw_in_hit ?_) | (with_reducible refine qw_then_exit ?_)) | (refine lw_nil ?_) | ((refine is_bin ?_; first | (refine lw_pure rfl (pv_lss rfl rfl) ?_) | (refine lw_pure rfl (pv_inc rfl rfl (by omega)) ?_))))
            rw [← hpx]
            exact qw_round (k + 1, pre) (by repeat' (first | exact trivial | refine ⟨rfl, ?_⟩)) ⟨by show k + 1 ≤ _; omega, hA, hj, hp⟩ (by show s.mx - (k + 1) < s.mx - k; omega)
        · skip
          refine ⟨_, rfl, ?_⟩
          repeat' (first | (refine ly_pure rfl (pv_not rfl) ?_))
          refine ly_nil ?_
          repeat' (first | (refine is_cw ?_; first | (refine cw_true rfl rfl ?_) | (refine cw_ret ?_)) | (refine is_qw ?_; first | (with_reducible refine qw_then ?_) | (with_reducible refine qw_then_ret ?_) | (with_reducible refine qw_in_ret ?_)))
          refine qw_retM0 (qw_ret0 rfl ⟨⟨_, rfl⟩, Or.inr ⟨_, ⟨_, pre_next hpp⟩, hjx⟩⟩)
    · have hkl : k = s.mx := by omega
      subst hkl
      rw [List.drop_of_length_le (by omega)] at hp
      replace hp : valP pre = L := by rw [← hp]; simp
      repeat' (first | (refine is_cw ?_; first | (refine cw_seq ?_) | (refine cw_region ?_) | (refine is_cd ?_; refine cw_false rfl (by first | assumption | exact decide_eq_false (by omega) | exact dec_notF (by omega)) ?_) | (refine cw_exit ?_)) | (refine is_qw ?_; first | (with_reducible refine qw_then ?_) | (with_reducible refine qw_in_hit ?_) | (with_reducible refine qw_then_exit ?_)) | (refine lw_nil ?_) | ((refine is_bin ?_; first | (refine lw_pure rfl (pv_lss rfl rfl) ?_))))
      exact qw_endM0 (qw_end0 rfl ⟨⟨_, rfl⟩, Or.inl ⟨pre, hp, hj⟩⟩)
end Go.Proofs.YtekomjnjddhfmaaGreat.R
namespace Go.Proofs.YtekomjnjddhfmaaGreat
open Go.RowKit Go.PlainAid
set_option maxRecDepth 20000 in
theorem parts_c {s : SttC} (w : World) : Calls Tryz.prog 37 #[(.agg (encS s).toArray)] w fun e w' => (∃ N, e = .returned (.func (.func 77) #[] #[.pointer (some ⟨N, 0, none⟩)]) ∧ w.heap.size ≤ N ∧ PT w' N 30 (encS s)) ∧ Below w.heap.size w w' := by
  have hw := Below.refl w.heap.size w
  refine fn_enter 4 Tryz.func37 rfl rfl rfl ?_
  repeat' (first | (refine lw_pure rfl (pv_move rfl) ?_) | (refine lw_pure rfl (pv_assign rfl) ?_) | (refine is_cw ?_; first | (refine cw_seq ?_) | (refine cw_region ?_) | (refine cw_ret ?_)) | (refine is_qw ?_; first | (with_reducible refine qw_then ?_) | (with_reducible refine qw_then_ret ?_)) | (refine lw_nil ?_) | (refine lw_pure rfl (pv_makeFunc rfl rfl) ?_))
  refine lw_boxN rfl rfl (cs := encS s) rfl ?_; intro N2 wn hN2 HX hb; replace hN2 := Nat.le_trans hw.size hN2; replace hw := grow_trans hw hb; clear hb
  repeat' (first | (refine lw_pure rfl (pv_move rfl) ?_) | (refine lw_pure rfl (pv_assign rfl) ?_) | (refine is_cw ?_; first | (refine cw_seq ?_) | (refine cw_region ?_) | (refine cw_ret ?_)) | (refine is_qw ?_; first | (with_reducible refine qw_then ?_) | (with_reducible refine qw_then_ret ?_)) | (refine lw_nil ?_) | (refine lw_pure rfl (pv_makeFunc rfl rfl) ?_))
  exact qw_ret1 rfl rfl ⟨⟨N2, rfl, hN2, HX⟩, hw⟩
end Go.Proofs.YtekomjnjddhfmaaGreat
namespace Go.Proofs.YtekomjnjddhfmaaGreat.R
open Go.RowKit Go.PlainAid

theorem qw_as {n : Nat} {l : Fr} {w : World} {σ : Type} {B : Nat} {Kp : World → World → Prop} {J : World → Prop} {LB : σ → Fr} {F : σ → World → Prop} {W : World} (y : σ) (h0 : Sub (LB y) l) (hF : F y w) (h1 : KeepsFrom B W w) (h2 : Kp W w) (h3 : J w) : QW n (lift [] (Exit.then (fun a' W' => ∃ y, Holds n (LB y) a' ∧ F y W' ∧ KeepsFrom B W W' ∧ Kp W W' ∧ J W') (fun _ _ _ => False))) .normal l w :=
  qw_assign (LB := fun (_ : Unit) => LB) (F := fun _ => F) (I := fun (_ : List Unit) => J) (x := ()) (pre := []) y h0 hF h1 h2 h3
theorem qw_round1 {n : Nat} {l : Fr} {w : World} {α : Type} {B : Nat} {Kp : World → World → Prop} {I : List α → World → Prop} {Ix : Code → List α → World → Prop} {xs : List α} {W : World} (h1 : KeepsFrom B W w) (h2 : Kp W w) (h3 : I xs w) : QW n (lift [] (ownPostG B Kp I Ix xs W)) .normal l w := ⟨fun _ _ => ⟨h1, h2, h3⟩⟩
theorem put_keep {w W : World} {D : Nat} (hw : w.heap.size ≤ D) (hW : W.heap[D]? = some (.deferred (some []))) (hB : Below w.heap.size w W) {N : Nat} {T : TypeId} {cs : List Value} (hN : N ≠ D) (h : PT W N T cs) : Below w.heap.size w (W.putObj D (.deferred none)) ∧ PT (W.putObj D (.deferred none)) N T cs := by
  have hb := belowK_b (n₀ := w.heap.size) (w := w) (Nat.le_refl _) W D _ (.deferred none) hw hW rfl rfl
  refine ⟨hB.trans hb, ?_⟩
  have hg := grownBy_putObj' W D (.deferred none)
  exact (hg.block N h.lt (fun e => hN (by cases e; rfl))).trans h
theorem pt_kept {N N' : Nat} {T : TypeId} {cs : List Value} {w w' : World} (h : PT w N T cs) (hg : w.grownBy w' (some N')) (hne : N ≠ N') : PT w' N T cs := (hg.block N h.lt (fun e => hne (Option.some.inj e))).trans h
theorem kx_put {b X B : Nat} (hb : b ≤ B) : ∀ (W : World) (l : Nat) (o o' : Obj), B ≤ l → W.heap[l]? = some o → o.isCells = false → o.isWalk = false → KX b X W (W.putObj l o') := fun W l o o' hl ho hc hw =>
  ⟨(Below.refl _ _).grown (grownBy_putObj' W l o') (by have := (Array.getElem?_eq_some_iff.1 ho).1; omega) (fun q e => by injection e with e; omega), fun k cs T z _ _ hk => by
    by_cases hkl : k = l
    · subst hkl; rw [hk] at ho; injection ho with ho; subst ho; cases hc
    · exact ((grownBy_putObj' W l o').block k (Array.getElem?_eq_some_iff.1 hk).1 (fun e => by injection e with e; exact hkl e)).trans hk⟩
theorem zv64 (w : World) : (zeroValue 2).run Tryz.prog w = .ok (.int .i64 0) w := by kernel_rfl
def encKy (k : Int × Int) : List Value := [.int .i64 k.1, .int .i64 k.2]
theorem eql_Ky (x y : Int × Int) (w : World) : (binOp .eql 81 (.agg (encKy x).toArray) (.agg (encKy y).toArray)).run Tryz.prog w = .ok (.bool (decide (x = y))) w := by
  have hS : (Tryz.prog).underlying 81 = some (.struct ((Tryz.prog).fieldsOf 81)) := by kernel_rfl
  have hp : (Tryz.prog).stoodInHeld 81 = false := by kernel_rfl
  unfold encKy
  rw [run_eql_struct, show (10000 : Nat) = 9999 + 1 from rfl, run_equalIn_agg w 9999 81 _ _ hS hp]
  have h : (decide (x = y)) = (x.1 == y.1 && x.2 == y.2) := by
    rw [Bool.eq_iff_iff]
    cases x; cases y; simp
  rw [h]
  simp only [Program.fieldsOf, Tryz.underlying81]
  go_simp
  by_cases h1 : x.1 = y.1 <;> by_cases h2 : x.2 = y.2 <;> simp [*]
theorem pv_eqlKy {n : Nat} {l : Fr} {w : World} {d : Option Nat} {t' ty : TypeId} {x y : Operand} {pos : String} {af : Array Edge} {g : Option (Nat × Bool)} (a b : Int × Int) (hx : ev l x = some (.agg (encKy a).toArray)) (hy : ev l y = some (.agg (encKy b).toArray)) : Pv Tryz.prog n l ⟨d, .binOp .eql 81 x y t', ty, pos, af, g⟩ (.bool (decide (a = b))) w := ⟨fun A hA => by
  have h1 : (eqGuard .eql 81 x y (.agg (encKy a).toArray) (.agg (encKy b).toArray)).run Tryz.prog w = .ok () w := run_eqGuard_agg w .eql 81 x y _ _ (by kernel_rfl)
  have h2 := eql_Ky a b w
  simp [execOp, hA.ev hx, hA.ev hy, h1, h2]⟩

theorem heldL_snoc (l : List PartT) (p : PartT) (k : Int × Int) : heldL (l ++ [p]) k = heldL l k + if p.1 = k then p.2 else 0 := by
  rw [heldL_app, heldL_cons]; simp [heldL]
structure HldI (w : World) (N4 N5 N7 : Nat) (a i : Int) (pre : List PtX) (W : World) : Prop where
  b : Below w.heap.size w W
  h4 : PT W N4 3 [.int .i64 a]
  h5 : PT W N5 3 [.int .i64 i]
  h7 : PT W N7 2 [.int .i64 (heldL (valP pre) (a, i))]
theorem valP_bd (ys : List PtX) : ∀ p ∈ valP ys, 1 ≤ p.2 ∧ p.2 ≤ 1125899906842624 := fun p hp => by
  obtain ⟨q, _, rfl⟩ := List.mem_map.1 hp; exact q.2.2.2
set_option maxRecDepth 20000 in
set_option maxHeartbeats 2000000 in
theorem held_c {s : SttC} {t : Stt} {a i : Int} {w : World} (hS : StR w s t) (hN : (partsP t.ords t.aucs).length ≤ 8000) : Calls Tryz.prog 15 #[(.agg (encS s).toArray), .int .i64 a, .int .i64 i] w fun e w' => e = .returned (.int .i64 (heldP t a i)) ∧ Below w.heap.size w w' := by
  have hw := Below.refl w.heap.size w
  refine calls_of_fr (r := none) (n := 2) ?_
  show CallsIn (fr none) 2 Tryz.prog 15 (List.toArray [Value.agg (encS s).toArray, Value.int .i64 a, Value.int .i64 i]) w _
  refine R.fn_enter _ 23 Tryz.func15 rfl rfl rfl ?_
  refine cw_seq (cw_region ?_)
  refine lw_boxN rfl rfl (cs := encS s) rfl ?_; intro N3 w3 hN3 H3 hb
  replace hw := grow_trans hw hb
  clear hb
  repeat' (first | (refine lw_pure rfl (pv_move rfl) ?_) | (refine lw_pure rfl (pv_assign rfl) ?_) | (refine is_cw ?_; first | (refine cw_seq ?_) | (refine cw_region ?_) | (refine cw_true rfl rfl ?_) | (refine cw_false rfl rfl ?_) | (refine is_cd ?_; refine cw_true rfl (by first | assumption | exact decide_eq_true (by omega) | exact dec_notT (by omega)) ?_) | (refine is_cd ?_; refine cw_false rfl (by first | assumption | exact decide_eq_false (by omega) | exact dec_notF (by omega)) ?_) | (refine cw_skip ?_) | (refine cw_block ?_) | (refine cw_ret ?_)) | (refine is_qw ?_; first | (with_reducible refine qw_then ?_) | (with_reducible refine qw_in ?_) | (with_reducible refine qw_in_hit ?_) | (refine qw_in_miss rfl ?_) | (with_reducible refine qw_then_exit ?_) | (with_reducible refine qw_then_ret ?_) | (with_reducible refine qw_in_ret ?_)) | (refine lw_nil ?_) | ((refine is_bin ?_; first | (refine lw_pure rfl (pv_eql rfl rfl) ?_) | (refine lw_pure rfl (pv_inc rfl rfl (by omega)) ?_) | (refine lw_pure rfl (pv_add rfl rfl (by omega)) ?_))) | ((refine is_load ?_; first | (refine lw_pure rfl (pv_load (t1 rfl) rfl (by first | fail)) ?_) | (refine lw_pure rfl (pv_loada (tA rfl) rfl (by first | fail) (by rfl)) ?_))) | ((refine is_bd ?_; first | (refine lw_pure rfl (tyB_81 rfl rfl rfl) ?_))))
  have hz3 := hw.size
  refine lw_boxN rfl rfl (cs := [.int .i64 a]) rfl ?_; intro N4 w4 hN4 H4 hb
  replace H3 := H3.mono hb
  replace hw := grow_trans hw hb
  clear hb
  repeat' (first | (refine lw_pure rfl (pv_move rfl) ?_) | (refine lw_pure rfl (pv_assign rfl) ?_) | (refine is_cw ?_; first | (refine cw_seq ?_) | (refine cw_region ?_) | (refine cw_true rfl rfl ?_) | (refine cw_false rfl rfl ?_) | (refine is_cd ?_; refine cw_true rfl (by first | assumption | exact decide_eq_true (by omega) | exact dec_notT (by omega)) ?_) | (refine is_cd ?_; refine cw_false rfl (by first | assumption | exact decide_eq_false (by omega) | exact dec_notF (by omega)) ?_) | (refine cw_skip ?_) | (refine cw_block ?_) | (refine cw_ret ?_)) | (refine is_qw ?_; first | (with_reducible refine qw_then ?_) | (with_reducible refine qw_in ?_) | (with_reducible refine qw_in_hit ?_) | (refine qw_in_miss rfl ?_) | (with_reducible refine qw_then_exit ?_) | (with_reducible refine qw_then_ret ?_) | (with_reducible refine qw_in_ret ?_)) | (refine lw_nil ?_) | ((refine is_bin ?_; first | (refine lw_pure rfl (pv_eql rfl rfl) ?_) | (refine lw_pure rfl (pv_inc rfl rfl (by omega)) ?_) | (refine lw_pure rfl (pv_add rfl rfl (by omega)) ?_))) | ((refine is_load ?_; first | (refine lw_pure rfl (pv_load (t1 rfl) rfl (by first | fail)) ?_) | (refine lw_pure rfl (pv_loada (tA rfl) rfl (by first | fail) (by rfl)) ?_))) | ((refine is_bd ?_; first | (refine lw_pure rfl (tyB_81 rfl rfl rfl) ?_))))
  have hz4 := hw.size
  refine lw_boxN rfl rfl (cs := [.int .i64 i]) rfl ?_; intro N5 w5 hN5 H5 hb
  have hl4 := H4.lt
  replace H3 := H3.mono hb
  replace H4 := H4.mono hb
  replace hw := grow_trans hw hb
  clear hb
  repeat' (first | (refine lw_pure rfl (pv_move rfl) ?_) | (refine lw_pure rfl (pv_assign rfl) ?_) | (refine is_cw ?_; first | (refine cw_seq ?_) | (refine cw_region ?_) | (refine cw_true rfl rfl ?_) | (refine cw_false rfl rfl ?_) | (refine is_cd ?_; refine cw_true rfl (by first | assumption | exact decide_eq_true (by omega) | exact dec_notT (by omega)) ?_) | (refine is_cd ?_; refine cw_false rfl (by first | assumption | exact decide_eq_false (by omega) | exact dec_notF (by omega)) ?_) | (refine cw_skip ?_) | (refine cw_block ?_) | (refine cw_ret ?_)) | (refine is_qw ?_; first | (with_reducible refine qw_then ?_) | (with_reducible refine qw_in ?_) | (with_reducible refine qw_in_hit ?_) | (refine qw_in_miss rfl ?_) | (with_reducible refine qw_then_exit ?_) | (with_reducible refine qw_then_ret ?_) | (with_reducible refine qw_in_ret ?_)) | (refine lw_nil ?_) | ((refine is_bin ?_; first | (refine lw_pure rfl (pv_eql rfl rfl) ?_) | (refine lw_pure rfl (pv_inc rfl rfl (by omega)) ?_) | (refine lw_pure rfl (pv_add rfl rfl (by omega)) ?_))) | ((refine is_load ?_; first | (refine lw_pure rfl (pv_load (t1 rfl) rfl (by first | fail)) ?_) | (refine lw_pure rfl (pv_loada (tA rfl) rfl (by first | fail) (by rfl)) ?_))) | ((refine is_bd ?_; first | (refine lw_pure rfl (tyB_81 rfl rfl rfl) ?_))))
  have hz5 := hw.size
  refine lw_allocN rfl zv64 rfl ?_; intro N7 w7 hN7 H7 hb
  have hl5 := H5.lt
  have hl4 := H4.lt
  replace H7 : PT w7 N7 2 [.int .i64 0] := H7
  replace H3 := H3.mono hb
  replace H4 := H4.mono hb
  replace H5 := H5.mono hb
  replace hw := grow_trans hw hb
  clear hb
  have hl7 := H7.lt
  repeat' (first | (refine lw_pure rfl (pv_move rfl) ?_) | (refine lw_pure rfl (pv_assign rfl) ?_) | (refine is_cw ?_; first | (refine cw_seq ?_) | (refine cw_region ?_) | (refine cw_true rfl rfl ?_) | (refine cw_false rfl rfl ?_) | (refine is_cd ?_; refine cw_true rfl (by first | assumption | exact decide_eq_true (by omega) | exact dec_notT (by omega)) ?_) | (refine is_cd ?_; refine cw_false rfl (by first | assumption | exact decide_eq_false (by omega) | exact dec_notF (by omega)) ?_) | (refine cw_skip ?_) | (refine cw_block ?_) | (refine cw_ret ?_)) | (refine is_qw ?_; first | (with_reducible refine qw_then ?_) | (with_reducible refine qw_in ?_) | (with_reducible refine qw_in_hit ?_) | (refine qw_in_miss rfl ?_) | (with_reducible refine qw_then_exit ?_) | (with_reducible refine qw_then_ret ?_) | (with_reducible refine qw_in_ret ?_)) | (refine lw_nil ?_) | ((refine is_bin ?_; first | (refine lw_pure rfl (pv_eql rfl rfl) ?_) | (refine lw_pure rfl (pv_inc rfl rfl (by omega)) ?_) | (refine lw_pure rfl (pv_add rfl rfl (by omega)) ?_))) | ((refine is_load ?_; first | (refine lw_pure rfl (pv_load (t1 rfl) rfl (by first | exact PT.ld0 H3 rfl | exact PT.ld H3 rfl)) ?_) | (refine lw_pure rfl (pv_loada (tA rfl) rfl (by first | exact PT.lda H3) (by rfl)) ?_))) | ((refine is_bd ?_; first | (refine lw_pure rfl (tyB_81 rfl rfl rfl) ?_))))
  refine lw_call (f := 37) (by kernel_rfl) rfl rfl (parts_c _) ?_; rintro e w8 ⟨⟨N, rfl, hNN, HP⟩, hb⟩; refine ⟨_, rfl, ?_⟩
  replace H4 := H4.mono hb
  replace H5 := H5.mono hb
  replace H7 := H7.mono hb
  replace hw := grow_trans hw hb
  have hz8 := hw.size
  have hz78 := hb.size
  clear hb
  repeat' ((fail_if_success (refine is_seqb ?_)); (fail_if_success (refine is_blk ?_)); first | (refine lw_pure rfl (pv_move rfl) ?_) | (refine lw_pure rfl (pv_assign rfl) ?_) | (refine is_cw ?_; first | (refine cw_seq ?_) | (refine cw_region ?_) | (refine cw_true rfl rfl ?_) | (refine cw_false rfl rfl ?_) | (refine is_cd ?_; refine cw_true rfl (by first | assumption | exact decide_eq_true (by omega) | exact dec_notT (by omega)) ?_) | (refine is_cd ?_; refine cw_false rfl (by first | assumption | exact decide_eq_false (by omega) | exact dec_notF (by omega)) ?_) | (refine cw_skip ?_) | (refine cw_block ?_) | (refine cw_ret ?_)) | (refine is_qw ?_; first | (with_reducible refine qw_then ?_) | (with_reducible refine qw_in ?_) | (with_reducible refine qw_in_hit ?_) | (refine qw_in_miss rfl ?_) | (with_reducible refine qw_then_exit ?_) | (with_reducible refine qw_then_ret ?_) | (with_reducible refine qw_in_ret ?_)) | (refine lw_nil ?_) | ((refine is_bin ?_; first | (refine lw_pure rfl (pv_eql rfl rfl) ?_) | (refine lw_pure rfl (pv_inc rfl rfl (by omega)) ?_) | (refine lw_pure rfl (pv_add rfl rfl (by omega)) ?_))) | ((refine is_load ?_; first | (refine lw_pure rfl (pv_load (t1 rfl) rfl (by first | fail)) ?_) | (refine lw_pure rfl (pv_loada (tA rfl) rfl (by first | fail) (by rfl)) ?_))) | ((refine is_bd ?_; first | (refine lw_pure rfl (tyB_81 rfl rfl rfl) ?_))))
  refine cw_block ?_
  refine cw_range (k := 0) (σ := Nat) (ps := [12, 13]) (encs := fun x : PtX => encPt x.1) rfl (by kernel_rfl) (parts_stops (X := N7) hS rfl hw HP (by omega) (by omega) (by omega)) (fun h k => h.trans k) (kx_put hz8) (Below.refl _ _) (fun _ => rfl) (by intro p hp; simp at hp; rcases hp with rfl | rfl <;> rfl)
    (HldI w N4 N5 N7 a i) (fun _ _ _ => False) ?_ ?_ ⟨hw, H4, H5, H7⟩ (fun x y => [(4, .pointer (some ⟨N4, 0, none⟩)), (5, .pointer (some ⟨N5, 0, none⟩)), (7, .pointer (some ⟨N7, 0, none⟩)), (8, .pointer (some ⟨y, 0, none⟩)), (9, .int .i64 x.1.2)]) (fun x y W => PT W y 81 (encKy x.1.1)) (fun x y _ A C row h hg hr => pt_from h hg hr) ?_ ?_ ?_ ?_
  · rintro pre A C row ⟨q1, q2, q3, q4⟩ hg hr
    exact ⟨below_from q1 hz8 hg hr, pt_from q2 hg hr, pt_from q3 hg hr, pt_from q4 hg hr⟩
  · rintro c pre A C row h; exact h.elim
  · rintro ln pre x W ⟨q1, q2, q3, q4⟩
    have hw := Below.refl W.heap.size W
    repeat' (first | (refine lw_pure rfl (pv_move rfl) ?_) | (refine lw_pure rfl (pv_assign rfl) ?_) | (refine is_cw ?_; first | (refine cw_seq ?_) | (refine cw_region ?_) | (refine cw_true rfl rfl ?_) | (refine cw_false rfl rfl ?_) | (refine is_cd ?_; refine cw_true rfl (by first | assumption | exact decide_eq_true (by omega) | exact dec_notT (by omega)) ?_) | (refine is_cd ?_; refine cw_false rfl (by first | assumption | exact decide_eq_false (by omega) | exact dec_notF (by omega)) ?_) | (refine cw_skip ?_) | (refine cw_block ?_) | (refine cw_ret ?_)) | (refine is_qw ?_; first | (with_reducible refine qw_then ?_) | (with_reducible refine qw_in ?_) | (with_reducible refine qw_in_hit ?_) | (refine qw_in_miss rfl ?_) | (with_reducible refine qw_then_exit ?_) | (with_reducible refine qw_then_ret ?_) | (with_reducible refine qw_in_ret ?_)) | (refine lw_nil ?_) | ((refine is_bin ?_; first | (refine lw_pure rfl (pv_eql rfl rfl) ?_) | (refine lw_pure rfl (pv_inc rfl rfl (by omega)) ?_) | (refine lw_pure rfl (pv_add rfl rfl (by omega)) ?_))) | ((refine is_load ?_; first | (refine lw_pure rfl (pv_load (t1 rfl) rfl (by first | fail)) ?_) | (refine lw_pure rfl (pv_loada (tA rfl) rfl (by first | fail) (by rfl)) ?_))) | ((refine is_bd ?_; first | (refine lw_pure rfl (tyB_81 rfl rfl rfl) ?_))))
    refine lw_varN rfl (by first | exact tyv_29 | exact tyv_30 | exact tyv_33 | exact tyv_34 | exact tyv_36 | exact tyv_37 | exact tyv_38 | exact tyv_39 | exact tyv_40 | exact tyv_41 | exact tyv_43 | exact tyv_44 | exact tyv_45 | exact tyv_46 | exact tyv_73 | exact tyv_74 | exact tyv_80 | exact tyv_81 | exact tyv_107 | exact tyv_108 | exact tyv_123 | exact tyv_146 | exact tyv_147 | exact tyv_148 | exact tyv_149) rfl (tZ rfl) (fun _ => rfl) rfl rfl ?_; intro N8 w9 hN8 H8 hb
    replace H8 : PT w9 N8 81 (encKy x.1.1) := H8
    repeat' (first | (refine lw_pure rfl (pv_move rfl) ?_) | (refine lw_pure rfl (pv_assign rfl) ?_) | (refine is_cw ?_; first | (refine cw_seq ?_) | (refine cw_region ?_) | (refine cw_true rfl rfl ?_) | (refine cw_false rfl rfl ?_) | (refine is_cd ?_; refine cw_true rfl (by first | assumption | exact decide_eq_true (by omega) | exact dec_notT (by omega)) ?_) | (refine is_cd ?_; refine cw_false rfl (by first | assumption | exact decide_eq_false (by omega) | exact dec_notF (by omega)) ?_) | (refine cw_skip ?_) | (refine cw_block ?_) | (refine cw_ret ?_)) | (refine is_qw ?_; first | (with_reducible refine qw_then ?_) | (with_reducible refine qw_in ?_) | (with_reducible refine qw_in_hit ?_) | (refine qw_in_miss rfl ?_) | (with_reducible refine qw_then_exit ?_) | (with_reducible refine qw_then_ret ?_) | (with_reducible refine qw_in_ret ?_)) | (refine lw_nil ?_) | ((refine is_bin ?_; first | (refine lw_pure rfl (pv_eql rfl rfl) ?_) | (refine lw_pure rfl (pv_inc rfl rfl (by omega)) ?_) | (refine lw_pure rfl (pv_add rfl rfl (by omega)) ?_))) | ((refine is_load ?_; first | (refine lw_pure rfl (pv_load (t1 rfl) rfl (by first | fail)) ?_) | (refine lw_pure rfl (pv_loada (tA rfl) rfl (by first | fail) (by rfl)) ?_))) | ((refine is_bd ?_; first | (refine lw_pure rfl (tyB_81 rfl rfl rfl) ?_))))
    exact qw_as N8 (by repeat' (first | exact trivial | refine ⟨rfl, ?_⟩)) H8 (keeps_below hb) (KX.of_below hb q1.size) ⟨grow_trans q1 hb, q2.mono hb, q3.mono hb, q4.mono hb⟩
  · rintro ln pre x y W - - ⟨q1, q2, q3, q4⟩ hF hpl
    have hF := (hF : PT W y 81 (encKy x.1.1))
    have hq := q1.size
    have hbd := heldL_bd (k := (a, i)) (valP_bd pre)
    have hvl : (valP pre).length = pre.length := by simp [valP]
    have hxb := x.2.2.2
    have hw := Below.refl W.heap.size W
    have hsn := heldL_snoc (valP pre) x.1 (a, i)
    refine cw_block ?_
    by_cases hk : x.1.1 = (a, i)
    · rw [if_pos hk] at hsn
      repeat' (first | (refine lw_pure rfl (pv_move rfl) ?_) | (refine lw_pure rfl (pv_assign rfl) ?_) | (refine lw_pure rfl (pv_eqlKy x.1.1 (a, i) rfl rfl) ?_) | (refine is_cw ?_; first | (refine cw_seq ?_) | (refine cw_region ?_) | (refine cw_true rfl rfl ?_) | (refine cw_false rfl rfl ?_) | (refine is_cd ?_; refine cw_true rfl (by first | assumption | exact decide_eq_true (by omega) | exact dec_notT (by omega)) ?_) | (refine is_cd ?_; refine cw_false rfl (by first | assumption | exact decide_eq_false (by omega) | exact dec_notF (by omega)) ?_) | (refine cw_skip ?_) | (refine cw_block ?_) | (refine cw_ret ?_)) | (refine is_qw ?_; first | (with_reducible refine qw_then ?_) | (with_reducible refine qw_in ?_) | (with_reducible refine qw_in_hit ?_) | (refine qw_in_miss rfl ?_) | (with_reducible refine qw_then_exit ?_) | (with_reducible refine qw_then_ret ?_) | (with_reducible refine qw_in_ret ?_)) | (refine lw_nil ?_) | ((refine is_bin ?_; first | (refine lw_pure rfl (pv_eql rfl rfl) ?_) | (refine lw_pure rfl (pv_inc rfl rfl (by omega)) ?_) | (refine lw_pure rfl (pv_add rfl rfl (by omega)) ?_))) | ((refine is_load ?_; first | (refine lw_pure rfl (pv_load (t1 rfl) rfl (by first | exact PT.ld0 (hF.mono hw) rfl | exact PT.ld (hF.mono hw) rfl | exact PT.ld0 (q2.mono hw) rfl | exact PT.ld (q2.mono hw) rfl | exact PT.ld0 (q3.mono hw) rfl | exact PT.ld (q3.mono hw) rfl)) ?_) | (refine lw_pure rfl (pv_loada (tA rfl) rfl (by first | exact PT.lda (hF.mono hw) | exact PT.lda (q2.mono hw) | exact PT.lda (q3.mono hw)) (by rfl)) ?_))) | ((refine is_bd ?_; first | (refine lw_pure rfl (tyB_81 rfl rfl rfl) ?_))))
      repeat' (first | (refine lw_pure rfl (pv_move rfl) ?_) | (refine lw_pure rfl (pv_assign rfl) ?_) | (refine is_cw ?_; first | (refine cw_seq ?_) | (refine cw_region ?_) | (refine cw_true rfl rfl ?_) | (refine cw_false rfl rfl ?_) | (refine is_cd ?_; refine cw_true rfl (by first | assumption | exact decide_eq_true (by omega) | exact dec_notT (by omega)) ?_) | (refine is_cd ?_; refine cw_false rfl (by first | assumption | exact decide_eq_false (by omega) | exact dec_notF (by omega)) ?_) | (refine cw_skip ?_) | (refine cw_block ?_) | (refine cw_ret ?_)) | (refine is_qw ?_; first | (with_reducible refine qw_then ?_) | (with_reducible refine qw_in ?_) | (with_reducible refine qw_in_hit ?_) | (refine qw_in_miss rfl ?_) | (with_reducible refine qw_then_exit ?_) | (with_reducible refine qw_then_ret ?_) | (with_reducible refine qw_in_ret ?_)) | (refine lw_nil ?_) | ((refine is_bin ?_; first | (refine lw_pure rfl (pv_eql rfl rfl) ?_) | (refine lw_pure rfl (pv_inc rfl rfl (by omega)) ?_) | (refine lw_pure rfl (pv_add rfl rfl (by omega)) ?_))) | ((refine is_load ?_; first | (refine lw_pure rfl (pv_load (t1 rfl) rfl (by first | exact PT.ld0 (q4.mono hw) rfl | exact PT.ld (q4.mono hw) rfl)) ?_) | (refine lw_pure rfl (pv_loada (tA rfl) rfl (by first | exact PT.lda (q4.mono hw)) (by rfl)) ?_))) | ((refine is_bd ?_; first | (refine lw_pure rfl (tyB_81 rfl rfl rfl) ?_))))
      refine lw_store q4 (tZ rfl) rfl rfl rfl (by simp) ?_; intro w9 H9 hg hz
      have hy7 : N4 ≠ N7 ∧ N5 ≠ N7 := ⟨by omega, by omega⟩
      refine lw_nil ?_
      refine qw_in ?_
      refine qw_round1 (keeps_pt q4 hg) (KX.of_row hg hq (by omega)) ⟨q1.grown hg hq (fun q e => by injection e with e; omega), pt_kept q2 hg hy7.1, pt_kept q3 hg hy7.2, ?_⟩
      rw [valP_snoc, hsn]; exact H9
    · rw [if_neg hk, Int.add_zero] at hsn
      have hd : decide (x.1.1 = (a, i)) = false := decide_eq_false hk
      repeat' (first | (refine lw_pure rfl (pv_move rfl) ?_) | (refine lw_pure rfl (pv_assign rfl) ?_) | (refine lw_pure rfl (pv_eqlKy x.1.1 (a, i) rfl rfl) ?_) | (refine is_cw ?_; first | (refine cw_seq ?_) | (refine cw_region ?_) | (refine cw_true rfl rfl ?_) | (refine cw_false rfl rfl ?_) | (refine is_cd ?_; refine cw_true rfl (by first | assumption | exact decide_eq_true (by omega) | exact dec_notT (by omega)) ?_) | (refine is_cd ?_; refine cw_false rfl (by first | assumption | exact decide_eq_false (by omega) | exact dec_notF (by omega)) ?_) | (refine cw_skip ?_) | (refine cw_block ?_) | (refine cw_ret ?_)) | (refine is_qw ?_; first | (with_reducible refine qw_then ?_) | (with_reducible refine qw_in ?_) | (with_reducible refine qw_in_hit ?_) | (refine qw_in_miss rfl ?_) | (with_reducible refine qw_then_exit ?_) | (with_reducible refine qw_then_ret ?_) | (with_reducible refine qw_in_ret ?_)) | (refine lw_nil ?_) | ((refine is_bin ?_; first | (refine lw_pure rfl (pv_eql rfl rfl) ?_) | (refine lw_pure rfl (pv_inc rfl rfl (by omega)) ?_) | (refine lw_pure rfl (pv_add rfl rfl (by omega)) ?_))) | ((refine is_load ?_; first | (refine lw_pure rfl (pv_load (t1 rfl) rfl (by first | exact PT.ld0 (hF.mono hw) rfl | exact PT.ld (hF.mono hw) rfl | exact PT.ld0 (q2.mono hw) rfl | exact PT.ld (q2.mono hw) rfl | exact PT.ld0 (q3.mono hw) rfl | exact PT.ld (q3.mono hw) rfl)) ?_) | (refine lw_pure rfl (pv_loada (tA rfl) rfl (by first | exact PT.lda (hF.mono hw) | exact PT.lda (q2.mono hw) | exact PT.lda (q3.mono hw)) (by rfl)) ?_))) | ((refine is_bd ?_; first | (refine lw_pure rfl (tyB_81 rfl rfl rfl) ?_))))
      refine qw_round1 (keeps_below hw) (KX.of_below hw hq) ⟨q1, q2, q3, ?_⟩
      rw [valP_snoc, hsn]; exact q4
  · rintro D ys W hD hS' ⟨q1, q2, q3, q4⟩ hW
    have hD7 : N7 ≠ D := by omega
    refine qw_in ?_
    refine qw_then ?_
    have hw := Below.refl W.heap.size W
    repeat' (first | (refine lw_pure rfl (pv_move rfl) ?_) | (refine lw_pure rfl (pv_assign rfl) ?_) | (refine is_cw ?_; first | (refine cw_seq ?_) | (refine cw_region ?_) | (refine cw_true rfl rfl ?_) | (refine cw_false rfl rfl ?_) | (refine is_cd ?_; refine cw_true rfl (by first | assumption | exact decide_eq_true (by omega) | exact dec_notT (by omega)) ?_) | (refine is_cd ?_; refine cw_false rfl (by first | assumption | exact decide_eq_false (by omega) | exact dec_notF (by omega)) ?_) | (refine cw_skip ?_) | (refine cw_block ?_) | (refine cw_ret ?_)) | (refine is_qw ?_; first | (with_reducible refine qw_then ?_) | (with_reducible refine qw_in ?_) | (with_reducible refine qw_in_hit ?_) | (refine qw_in_miss rfl ?_) | (with_reducible refine qw_then_exit ?_) | (with_reducible refine qw_then_ret ?_) | (with_reducible refine qw_in_ret ?_)) | (refine lw_nil ?_) | ((refine is_bin ?_; first | (refine lw_pure rfl (pv_eql rfl rfl) ?_) | (refine lw_pure rfl (pv_inc rfl rfl (by omega)) ?_) | (refine lw_pure rfl (pv_add rfl rfl (by omega)) ?_))) | ((refine is_load ?_; first | (refine lw_pure rfl (pv_load (t1 rfl) rfl (by first | exact PT.ld0 (q4.mono hw) rfl | exact PT.ld (q4.mono hw) rfl)) ?_) | (refine lw_pure rfl (pv_loada (tA rfl) rfl (by first | exact PT.lda (q4.mono hw)) (by rfl)) ?_))) | ((refine is_bd ?_; first | (refine lw_pure rfl (tyB_81 rfl rfl rfl) ?_))))
    obtain ⟨h8, -⟩ := put_keep (Nat.le_trans hz8 hD) hW q1 hD7 q4
    have hv : heldP t a i = heldL (valP ys) (a, i) := by unfold heldP; rw [(show valP ys = partsP t.ords t.aucs from hS')]
    exact qw_retM1 hW (qw_ret1 rfl rfl ⟨by rw [hv], h8⟩)
  · rintro D c pre W hD hS' h; exact h.elim
end Go.Proofs.YtekomjnjddhfmaaGreat.R
namespace Go.Proofs.YtekomjnjddhfmaaGreat
open Go.RowKit

section
variable {n : Nat} {l : Fr} {P : Program} {w : World} {Q : Exit → Act → World → Prop} {ops : Array Oper} {U : World → Prop} {fuel : Nat} {listed : Array Bool} {f : Nat}
theorem fw_act (i : Nat) {o : Oper} (hr : Region.ready .any ops listed = [i]) (ho : ops[i]? = some o) (hg : guardOn ops l o.guard = true) (hd : inD o.dst n = true)
    (h : Act1 P n l o w fun v w' => U w' ∧ (U w' → FW P n ops Q f U fuel (listed.setIfInBounds i true) (putD o.dst v l) w')) : FW P n ops Q f U (fuel + 1) listed l w := ⟨fun a ha => by
  refine ⟨fun h0 => (by rw [hr] at h0; cases h0), fun j hj => ?_⟩
  rw [hr, List.mem_singleton] at hj; subst hj
  unfold wpOp; rw [ho]
  dsimp only
  rw [if_pos (wanted_of ha hg)]
  exact Or.inl (h.out a ha _ _ fun v w' hZ => ⟨fun _ => hZ.1, (hZ.2 hZ.1).out _ (ha.putD hd v)⟩)⟩
theorem act_pv {d : Option Nat} {op : Op} {ty : TypeId} {pos : String} {af : Array Edge} {g : Option (Nat × Bool)} {v : Value} {Z : Value → World → Prop} (hv : Pv P n l ⟨d, op, ty, pos, af, g⟩ v w) (h : Z v w) : Act1 P n l ⟨d, op, ty, pos, af, g⟩ w Z := ⟨fun a ha K Q hK => by
  unfold Oper.wp; rw [hv.out a ha]; exact hK _ _ h⟩
end
section
variable {α : Type} {enc : α → List Value} {k : Nat} {T t : TypeId} {base : Nat} {w : World} {g cap : Nat} {xs : List α} {P : Program} {n : Nat} {l : Fr} {Q : Exit → Act → World → Prop} {ops : Array Oper} {os : List Oper} {ty : TypeId} {pos : String} {af : Array Edge} {x y : Operand}
theorem flat_set (hk : ∀ x, (enc x).length = k) : ∀ {xs : List α} {i : Nat} {a u : α} {f : Nat} {v : Value}, xs[i]? = some a → enc u = (enc a).set f v → f < k → (xs.set i u).flatMap enc = (xs.flatMap enc).set (i * k + f) v
  | [], _, _, _, _, _, h, _, _ => by simp at h
  | b :: r, 0, a, u, f, v, h, hu, hf => by
    simp at h; subst h
    rw [List.set_cons_zero, List.flatMap_cons, List.flatMap_cons, hu, Nat.zero_mul, Nat.zero_add, List.set_append_left _ _ (by rw [hk]; exact hf)]
  | b :: r, i + 1, a, u, f, v, h, hu, hf => by
    have h' : r[i]? = some a := by simpa using h
    rw [List.set_cons_succ, List.flatMap_cons, List.flatMap_cons, flat_set hk h' hu hf, List.set_append_right _ _ (by rw [hk, Nat.add_mul]; omega), hk]
    congr 2
    rw [Nat.add_mul]; omega
theorem lw_storeF (hk : ∀ x, (enc x).length = k) (ht : sizeB P t 1 = true) {i f o : Nat} {v : Value} {a u : α} (hx : ev l x = some (.pointer (some ⟨g, o, none⟩))) (ho : o = i * k + f) (hy : ev l y = some v) (h1 : v.oneCell' = true) (hO : Own enc k T base w (.slice (some ⟨g, 0, none⟩) xs.length cap) xs) (ha : xs[i]? = some a) (hu : enc u = (enc a).set f v) (hf : f < k)
    (h : ∀ w', Own enc k T base w' (.slice (some ⟨g, 0, none⟩) xs.length cap) (xs.set i u) → w.grownBy w' (some g) → w'.heap.size = w.heap.size → LW P n ops Q os l w') : LW P n ops Q (⟨none, .store t x y, ty, pos, af, none⟩ :: os) l w := by
  subst ho
  obtain ⟨cur, hb, hg, hle, hmax, hsz, htk⟩ := Own.heap' hO
  have hi : i < xs.length := (List.getElem?_eq_some_iff.1 ha).1
  have hik : i * k + f < xs.length * k := by
    have := Nat.mul_le_mul_right k (show i + 1 ≤ xs.length from hi); rw [Nat.add_mul, Nat.one_mul] at this; omega
  have hck : xs.length * k ≤ cap * k := Nat.mul_le_mul_right k hle
  have hp : PT w g T cur.toList := by unfold PT; simpa using hg
  obtain ⟨w', a1, b1, c1, e1⟩ := sv_store (P := P) (n := n) (l := l) (d := none) (ty := ty) (pos := pos) (af := af) (g := none) hp ht hx hy h1 (by rw [Array.length_toList, hsz]; omega)
  refine lw_skip a1 (h w' ⟨by rw [flat_len enc k hk, List.length_set], Or.inr ⟨g, cap, (cur.toList.set (i * k + f) v).toArray, by rw [List.length_set], hb, b1, by rw [List.length_set]; exact hle, hmax, by simp [hsz], ?_⟩⟩ c1 e1)
  rw [List.length_set, flat_set hk ha hu hf, ← htk]
  simp only [List.take_set]
end
end Go.Proofs.YtekomjnjddhfmaaGreat
namespace Go.Proofs.YtekomjnjddhfmaaGreat
open Go.RowKit Go.PlainAid Go.Maps Go.WideMaps Go.ChangeShapes Go.WideShapes

def kX (k : KeyX) : Value := .agg #[.int .i64 (k.1.val : Int), .int .i64 (k.2.val : Int)]
def vX (n : Int) : Value := .int .i64 n
theorem wfX {a : Int} (h : 0 ≤ a ∧ a ≤ 255) : (Lit.int .i64 a).wf = true := by
  simp only [Lit.wf, Bool.and_eq_true, decide_eq_true_eq]
  exact ⟨show (-9223372036854775808 : Int) ≤ a by omega, show a ≤ (9223372036854775807 : Int) by omega⟩
theorem keyLits_intX {n : Nat} {a : Int} (wa : (Lit.int .i64 a).wf = true) : (Tryz.prog).keyLits (n + 1) 3 [.int .i64 a] = some [.int .i64 a] := by
  unfold Program.keyLits
  simp only [Tryz.underlying3]
  rw [if_pos ⟨trivial, wa⟩]
theorem cells_X : (Tryz.prog).cellsOf 81 = 2 := by kernel_rfl
theorem cells_intX : (Tryz.prog).cellsOf 3 = 1 := by kernel_rfl
theorem keyLits_X {n : Nat} {a s : Int} (wa : (Lit.int .i64 a).wf = true) (ws : (Lit.int .i64 s).wf = true) : ∃ ls, (Tryz.prog).keyLits (n + 2) 81 [.int .i64 a, .int .i64 s] = some ls := by
  unfold Program.keyLits
  simp only [Tryz.underlying81, cells_X]
  rw [if_pos ⟨rfl, by simp⟩]
  simp [List.mapM_cons, cells_intX, keyLits_intX wa, keyLits_intX ws]
theorem types_sizeX : ∃ m, (Tryz.prog).types.size = m + 1 := ⟨((Tryz.prog).types.size - 1), by kernel_rfl⟩
theorem keyOf_X {a s : Int} (wa : (Lit.int .i64 a).wf = true) (ws : (Lit.int .i64 s).wf = true) : ∃ l, keyOf Tryz.prog 81 (.agg #[.int .i64 a, .int .i64 s]) = some l := by
  have h1 : (Tryz.prog).keyType 81 = true := by kernel_rfl
  have h2 : Value.formed Tryz.prog 81 (.agg #[.int .i64 a, .int .i64 s]) = true := by kernel_rfl
  obtain ⟨m, hm⟩ := types_sizeX
  obtain ⟨ls, hls⟩ := keyLits_X (n := m) wa ws
  unfold keyOf
  simp only [Tryz.underlying81, h1, h2]
  rw [if_pos (show (true && true) = true from rfl), hm]
  show ∃ l, (((Tryz.prog).keyLits (m + 2) 81 [.int .i64 a, .int .i64 s]).map fun ls => Lit.string (keyBytes ls)) = some l
  rw [hls]
  exact ⟨_, rfl⟩
theorem keyX : KeyE Tryz.prog 81 kX := ⟨Keyed.of_law (deep_law_gate (by kernel_rfl) (of_decide_eq_true (by kernel_rfl)) (of_decide_eq_true (by kernel_rfl)) (by kernel_rfl) (by kernel_rfl)), fun k => keyOf_X (wfX (by have := k.1.isLt; omega)) (wfX (by have := k.2.isLt; omega)), fun a b h => by
  simp only [kX, Value.agg.injEq, Array.mk.injEq, List.cons.injEq, Value.int.injEq, true_and, and_true] at h
  exact Prod.ext (Fin.ext (by omega)) (Fin.ext (by omega))⟩
theorem zX (w : World) : (zeroValue 2).run Tryz.prog w = .ok (vX 0) w := by kernel_rfl
theorem zvM (w : World) : (zeroValue 137).run Tryz.prog w = .ok (.map none) w := by kernel_rfl
theorem kX_of {a i : Int} (ha : 0 ≤ a ∧ a ≤ 255) (hi : 0 ≤ i ∧ i ≤ 255) : kX (kk a i) = .agg #[.int .i64 a, .int .i64 i] := by
  unfold kX kk
  have e1 : ((Fin.ofNat 256 a.toNat).val : Int) = a := by show ((a.toNat % 256 : Nat) : Int) = a; omega
  have e2 : ((Fin.ofNat 256 i.toNat).val : Int) = i := by show ((i.toNat % 256 : Nat) : Int) = i; omega
  rw [e1, e2]
section
variable {P : Program} {n : Nat} {l : Fr} {w : World} {B : Nat} {Q : Exit → Act → World → Prop} {ops : Array Oper} {os : List Oper} {d : Option Nat} {ty : TypeId} {pos : String} {af : Array Edge} {g : Option (Nat × Bool)} {x y : Operand} {m : List (KeyX × Int)}
theorem pv_lookX {a i c : Int} (ha : 0 ≤ a ∧ a ≤ 255) (hi : 0 ≤ i ∧ i ≤ 255) (hc : (getM m (kk a i)).getD 0 = c) (hx : ev l x = some (.map (some B))) (hy : ev l y = some (.agg #[.int .i64 a, .int .i64 i])) (h : Mp kX vX w B m) : Pv Tryz.prog n l ⟨d, .lookup 137 x y false, ty, pos, af, g⟩ (.int .i64 c) w := by
  have h2 := pv_lookupM (P := Tryz.prog) (n := n) (l := l) (w := w) (d := d) (ty := ty) (pos := pos) (af := af) (g := g) (k := kk a i) Tryz.underlying137 keyX zX hx (by rw [kX_of ha hi]; exact hy) h
  rw [hc] at h2; exact h2
theorem lw_delX {ts : Array TypeId} {a i : Int} (ha : 0 ≤ a ∧ a ≤ 255) (hi : 0 ≤ i ∧ i ≤ 255) (hts : ts[0]? = some 137) (hx : ev l x = some (.map (some B))) (hy : ev l y = some (.agg #[.int .i64 a, .int .i64 i])) (h : Mp kX vX w B m)
    (hc : ∀ w', Mp kX vX w' B (delM m (kk a i)) → w.grownBy w' (some B) → w'.heap.size = w.heap.size → LW Tryz.prog n ops Q os l w') : LW Tryz.prog n ops Q (⟨none, .call ⟨.builtin .delete, #[x, y], ts⟩, ty, pos, af, none⟩ :: os) l w := ⟨fun A hA => wpList_plain rfl fun K hK => by
  obtain ⟨v, w', e1, _, e3, e4, e5⟩ := some_deleteM (P := Tryz.prog) (n := n) (l := l) (d := none) (ty := ty) (pos := pos) (af := af) (g := none) (k := kk a i) hts Tryz.underlying137 keyX hx (by rw [kX_of ha hi]; exact hy) h A hA
  unfold Oper.wp; rw [e1]; exact hK _ _ ((hc w' e3 e4 e5).out _ hA)⟩
end
end Go.Proofs.YtekomjnjddhfmaaGreat
namespace Go.Proofs.YtekomjnjddhfmaaGreat.R
open Go.RowKit Go.PlainAid
theorem cw_drawnF {r : Option Nat} {m : Nat} {mk : List Deferred} {P : Program} {n : Nat} {Q : Exit → Act → World → Prop} {l : Fr} {w : World} {i : Nat} {ops : Array Oper} (f : Nat) (U : World → Prop) (hm : P.follows .mixedOrders = true) (hNP : NoPanic Q) [hQ : NoOut Q] (h : NoPanic (lift mk Q) → FW P n ops (lift mk Q) f U ops.size (Array.replicate ops.size false) l w.drew) (hd : noDefer ops = true := by rfl) : CW r m mk P n (.region i ops true) Q l w := ⟨fun a ha =>
  wpIn_region_draw fun t => by
    have h1 := wpAny_of_F _ _ _ _ ((h (NoPanicL hNP)).out a ha)
    have h2 := wpAny_sound ops.size t _ a _ h1
    simp only [Region.schedule, hm, Bool.true_or, if_true]
    exact ops_in hd _ _ _ h2⟩
end Go.Proofs.YtekomjnjddhfmaaGreat.R
namespace Go.Proofs.YtekomjnjddhfmaaGreat.R
open Go.RowKit Go.PlainAid

theorem keeps_low {B M : Nat} {W W' : World} (h : W.grownBy W' (some M)) (hM : M < B) : KeepsFrom B W W' := ⟨h.size, fun k o hk ho _ => (h.block k (Array.getElem?_eq_some_iff.1 ho).1 (fun e => by injection e with e; omega)).trans ho⟩
theorem mp_touch {w : World} {M : Nat} {m : List (KeyX × Int)} {k : KeyX} {s : Nat} (h : MpS kX vX w M m k s) : Mp kX vX w M m := by
  obtain ⟨es, clk, h1, h2, _⟩ := h; exact ⟨es, clk, h1, h2⟩
structure MU (W : World) (N3 N4 M : Nat) (a i c : Int) (w : World) : Prop where
  g : W.grownBy w (some M)
  t3 : PT w N3 137 [.map (some M)]
  t4 : PT w N4 81 [.int .i64 a, .int .i64 i]
  m : ∃ m, Mp kX vX w M m ∧ (getM m (kk a i)).getD 0 = c
structure HmI (w : World) (N3 M : Nat) (pre : List PtX) (W : World) : Prop where
  b : Below w.heap.size w W
  h3 : PT W N3 137 [.map (some M)]
  m : ∃ m, Mp kX vX W M m ∧ MapIs m (valP pre) []
theorem pt_grown {N M : Nat} {T : TypeId} {cs : List Value} {w w' : World} {m : List (KeyX × Int)} (h : PT w N T cs) (hg : w.grownBy w' (some M)) (hm : Mp kX vX w M m) : PT w' N T cs := by
  obtain ⟨es, clk, hE, _⟩ := hm
  refine (hg.block N h.lt (fun e => ?_)).trans h
  injection e with e
  subst e
  have h1 := hE.heap
  rw [h] at h1; cases h1
structure HtI (t : Stt) (w : World) (N3 M D : Nat) (L : List PartT) (k : Nat) (m : List (KeyX × Int)) (W : World) : Prop where
  b : Below w.heap.size w W
  h3 : PT W N3 137 [.map (some M)]
  mp : Mp kX vX W M m
  i : MapIs m L ((t.rows.take k).map fun r => (r.acct, r.asset))
  d : W.heap[D]? = some (.deferred (some []))
  n : ∀ (j : Nat) r, j < k → t.rows[j]? = some r → heldP t r.acct r.asset = r.held
theorem put_below {w W : World} {D : Nat} (hw : w.heap.size ≤ D) (hW : W.heap[D]? = some (.deferred (some []))) (hB : Below w.heap.size w W) : Below w.heap.size w (W.putObj D (.deferred none)) :=
  hB.trans (belowK_b (n₀ := w.heap.size) (w := w) (Nat.le_refl _) W D _ (.deferred none) hw hW rfl rfl)
set_option maxRecDepth 20000 in
set_option maxHeartbeats 4000000 in
theorem heldR_c {s : SttC} {t : Stt} {w : World} (hS : StR w s t) (hr : MayR t.rows) (hN : (partsP t.ords t.aucs).length ≤ 8000) : Calls Tryz.prog 76 #[(.agg (encS s).toArray)] w fun e w' => e = .returned (.bool (heldB t)) ∧ Below w.heap.size w w' := by
  have hw := Below.refl w.heap.size w
  have hmr := hS.mr
  have hrl := hS.R.le
  have hrm := hS.R.max
  refine calls_of_fr (r := none) (n := 2) ?_
  show CallsIn (fr none) 2 Tryz.prog 76 (List.toArray [Value.agg (encS s).toArray]) w _
  refine R.fn_enter _ 45 Tryz.func76 rfl rfl rfl ?_
  refine cw_seq (cw_region ?_)
  refine lw_boxN rfl rfl (cs := encS s) rfl ?_; intro N1 w1 hN1 H1 hb
  have hl1 := H1.lt
  replace hw := grow_trans hw hb
  clear hb
  repeat' (first | (refine lw_pure rfl (pv_move rfl) ?_) | (refine lw_pure rfl (pv_assign rfl) ?_) | (refine is_cw ?_; first | (refine cw_seq ?_) | (refine cw_region ?_) | (refine cw_true rfl rfl ?_) | (refine cw_false rfl rfl ?_) | (refine is_cd ?_; refine cw_true rfl (by first | assumption | exact decide_eq_true (by omega) | exact dec_notT (by omega)) ?_) | (refine is_cd ?_; refine cw_false rfl (by first | assumption | exact decide_eq_false (by omega) | exact dec_notF (by omega)) ?_) | (refine cw_skip ?_) | (refine cw_block ?_) | (refine cw_exit ?_) | (refine cw_ret ?_)) | (refine is_qw ?_; first | (with_reducible refine qw_then ?_) | (with_reducible refine qw_in ?_) | (with_reducible refine qw_in_hit ?_) | (refine qw_in_miss rfl ?_) | (with_reducible refine qw_then_exit ?_) | (with_reducible refine qw_then_ret ?_) | (with_reducible refine qw_in_ret ?_)) | (refine lw_nil ?_) | ((refine is_bin ?_; first | (refine lw_pure rfl (pv_lss rfl rfl) ?_) | (refine lw_pure rfl (pv_eql rfl rfl) ?_) | (refine lw_pure rfl (pv_neq rfl rfl) ?_) | (refine lw_pure rfl (pv_inc rfl rfl (by omega)) ?_) | (refine lw_pure rfl (pv_add rfl rfl (by omega)) ?_))) | ((refine is_load ?_; first | (refine lw_pure rfl (pv_load (t1 rfl) rfl (by first | fail)) ?_) | (refine lw_pure rfl (pv_loada (tA rfl) rfl (by first | fail) (by rfl)) ?_))) | ((refine is_fa ?_; first | (refine lw_pure rfl (pv_fa (tF rfl) rfl) ?_))) | ((refine is_ia ?_; first | (refine lw_pure rfl (pv_ian (tS rfl) rfl rfl (by omega)) ?_) | (refine lw_pure rfl (pv_ia (tS rfl) rfl rfl (by omega)) ?_))) | ((refine is_bi ?_; first | (refine lw_pure rfl (pv_lenl (tS rfl) rfl) ?_) | (refine lw_pure rfl (pv_lens (tStr rfl) rfl) ?_))) | ((refine is_bd ?_; first | (refine lw_pure rfl (tyB_81 rfl rfl rfl) ?_))) | (refine lw_pure rfl (pv_extract rfl rfl) ?_))
  have hz1 := hw.size
  refine lw_makeMap kX vX rfl ?_; intro M w2 hM HM hb
  replace H1 := H1.mono hb
  replace hw := grow_trans hw hb
  clear hb
  repeat' (first | (refine lw_pure rfl (pv_move rfl) ?_) | (refine lw_pure rfl (pv_assign rfl) ?_) | (refine is_cw ?_; first | (refine cw_seq ?_) | (refine cw_region ?_) | (refine cw_true rfl rfl ?_) | (refine cw_false rfl rfl ?_) | (refine is_cd ?_; refine cw_true rfl (by first | assumption | exact decide_eq_true (by omega) | exact dec_notT (by omega)) ?_) | (refine is_cd ?_; refine cw_false rfl (by first | assumption | exact decide_eq_false (by omega) | exact dec_notF (by omega)) ?_) | (refine cw_skip ?_) | (refine cw_block ?_) | (refine cw_exit ?_) | (refine cw_ret ?_)) | (refine is_qw ?_; first | (with_reducible refine qw_then ?_) | (with_reducible refine qw_in ?_) | (with_reducible refine qw_in_hit ?_) | (refine qw_in_miss rfl ?_) | (with_reducible refine qw_then_exit ?_) | (with_reducible refine qw_then_ret ?_) | (with_reducible refine qw_in_ret ?_)) | (refine lw_nil ?_) | ((refine is_bin ?_; first | (refine lw_pure rfl (pv_lss rfl rfl) ?_) | (refine lw_pure rfl (pv_eql rfl rfl) ?_) | (refine lw_pure rfl (pv_neq rfl rfl) ?_) | (refine lw_pure rfl (pv_inc rfl rfl (by omega)) ?_) | (refine lw_pure rfl (pv_add rfl rfl (by omega)) ?_))) | ((refine is_load ?_; first | (refine lw_pure rfl (pv_load (t1 rfl) rfl (by first | fail)) ?_) | (refine lw_pure rfl (pv_loada (tA rfl) rfl (by first | fail) (by rfl)) ?_))) | ((refine is_fa ?_; first | (refine lw_pure rfl (pv_fa (tF rfl) rfl) ?_))) | ((refine is_ia ?_; first | (refine lw_pure rfl (pv_ian (tS rfl) rfl rfl (by omega)) ?_) | (refine lw_pure rfl (pv_ia (tS rfl) rfl rfl (by omega)) ?_))) | ((refine is_bi ?_; first | (refine lw_pure rfl (pv_lenl (tS rfl) rfl) ?_) | (refine lw_pure rfl (pv_lens (tStr rfl) rfl) ?_))) | ((refine is_bd ?_; first | (refine lw_pure rfl (tyB_81 rfl rfl rfl) ?_))) | (refine lw_pure rfl (pv_extract rfl rfl) ?_))
  have hz2 := hw.size
  have hMl := HM.bound
  refine lw_allocN rfl zvM rfl ?_; intro N3 w3 hN3 H3 hb
  replace H1 := H1.mono hb
  replace HM := HM.mono hb
  replace hw := grow_trans hw hb
  clear hb
  have hz3 := hw.size
  refine lw_store (cs := [.map none]) H3 (tZ rfl) rfl rfl rfl (by simp) ?_; intro w4 H3 hg hzz
  replace H3 : PT w4 N3 137 [.map (some M)] := H3
  replace H1 := pt_kept H1 hg (by omega)
  replace HM := HM.kept hg (fun e => by injection e with e; omega)
  replace hw := hw.grown hg hz3 (fun q e => by injection e with e; omega)
  clear hg
  have hl3 := H3.lt
  repeat' (first | (refine lw_pure rfl (pv_move rfl) ?_) | (refine lw_pure rfl (pv_assign rfl) ?_) | (refine is_cw ?_; first | (refine cw_seq ?_) | (refine cw_region ?_) | (refine cw_true rfl rfl ?_) | (refine cw_false rfl rfl ?_) | (refine is_cd ?_; refine cw_true rfl (by first | assumption | exact decide_eq_true (by omega) | exact dec_notT (by omega)) ?_) | (refine is_cd ?_; refine cw_false rfl (by first | assumption | exact decide_eq_false (by omega) | exact dec_notF (by omega)) ?_) | (refine cw_skip ?_) | (refine cw_block ?_) | (refine cw_exit ?_) | (refine cw_ret ?_)) | (refine is_qw ?_; first | (with_reducible refine qw_then ?_) | (with_reducible refine qw_in ?_) | (with_reducible refine qw_in_hit ?_) | (refine qw_in_miss rfl ?_) | (with_reducible refine qw_then_exit ?_) | (with_reducible refine qw_then_ret ?_) | (with_reducible refine qw_in_ret ?_)) | (refine lw_nil ?_) | ((refine is_bin ?_; first | (refine lw_pure rfl (pv_lss rfl rfl) ?_) | (refine lw_pure rfl (pv_eql rfl rfl) ?_) | (refine lw_pure rfl (pv_neq rfl rfl) ?_) | (refine lw_pure rfl (pv_inc rfl rfl (by omega)) ?_) | (refine lw_pure rfl (pv_add rfl rfl (by omega)) ?_))) | ((refine is_load ?_; first | (refine lw_pure rfl (pv_load (t1 rfl) rfl (by first | exact PT.ld0 H1 rfl | exact PT.ld H1 rfl)) ?_) | (refine lw_pure rfl (pv_loada (tA rfl) rfl (by first | exact PT.lda H1) (by rfl)) ?_))) | ((refine is_fa ?_; first | (refine lw_pure rfl (pv_fa (tF rfl) rfl) ?_))) | ((refine is_ia ?_; first | (refine lw_pure rfl (pv_ian (tS rfl) rfl rfl (by omega)) ?_) | (refine lw_pure rfl (pv_ia (tS rfl) rfl rfl (by omega)) ?_))) | ((refine is_bi ?_; first | (refine lw_pure rfl (pv_lenl (tS rfl) rfl) ?_) | (refine lw_pure rfl (pv_lens (tStr rfl) rfl) ?_))) | ((refine is_bd ?_; first | (refine lw_pure rfl (tyB_81 rfl rfl rfl) ?_))) | (refine lw_pure rfl (pv_extract rfl rfl) ?_))
  refine lw_call (f := 37) (by kernel_rfl) rfl rfl (parts_c _) ?_; rintro e w8 ⟨⟨N, rfl, hNN, HP⟩, hb⟩; refine ⟨_, rfl, ?_⟩
  replace H1 := H1.mono hb
  replace H3 := H3.mono hb
  replace HM := HM.mono hb
  replace hw := grow_trans hw hb
  have hz8 := hw.size
  have hz78 := hb.size
  clear hb
  repeat' ((fail_if_success (refine is_seqb ?_)); (fail_if_success (refine is_blk ?_)); first | (refine lw_pure rfl (pv_move rfl) ?_) | (refine lw_pure rfl (pv_assign rfl) ?_) | (refine is_cw ?_; first | (refine cw_seq ?_) | (refine cw_region ?_) | (refine cw_true rfl rfl ?_) | (refine cw_false rfl rfl ?_) | (refine is_cd ?_; refine cw_true rfl (by first | assumption | exact decide_eq_true (by omega) | exact dec_notT (by omega)) ?_) | (refine is_cd ?_; refine cw_false rfl (by first | assumption | exact decide_eq_false (by omega) | exact dec_notF (by omega)) ?_) | (refine cw_skip ?_) | (refine cw_block ?_) | (refine cw_exit ?_) | (refine cw_ret ?_)) | (refine is_qw ?_; first | (with_reducible refine qw_then ?_) | (with_reducible refine qw_in ?_) | (with_reducible refine qw_in_hit ?_) | (refine qw_in_miss rfl ?_) | (with_reducible refine qw_then_exit ?_) | (with_reducible refine qw_then_ret ?_) | (with_reducible refine qw_in_ret ?_)) | (refine lw_nil ?_) | ((refine is_bin ?_; first | (refine lw_pure rfl (pv_lss rfl rfl) ?_) | (refine lw_pure rfl (pv_eql rfl rfl) ?_) | (refine lw_pure rfl (pv_neq rfl rfl) ?_) | (refine lw_pure rfl (pv_inc rfl rfl (by omega)) ?_) | (refine lw_pure rfl (pv_add rfl rfl (by omega)) ?_))) | ((refine is_load ?_; first | (refine lw_pure rfl (pv_load (t1 rfl) rfl (by first | fail)) ?_) | (refine lw_pure rfl (pv_loada (tA rfl) rfl (by first | fail) (by rfl)) ?_))) | ((refine is_fa ?_; first | (refine lw_pure rfl (pv_fa (tF rfl) rfl) ?_))) | ((refine is_ia ?_; first | (refine lw_pure rfl (pv_ian (tS rfl) rfl rfl (by omega)) ?_) | (refine lw_pure rfl (pv_ia (tS rfl) rfl rfl (by omega)) ?_))) | ((refine is_bi ?_; first | (refine lw_pure rfl (pv_lenl (tS rfl) rfl) ?_) | (refine lw_pure rfl (pv_lens (tStr rfl) rfl) ?_))) | ((refine is_bd ?_; first | (refine lw_pure rfl (tyB_81 rfl rfl rfl) ?_))) | (refine lw_pure rfl (pv_extract rfl rfl) ?_))
  refine cw_block ?_
  refine cw_range (k := 0) (σ := Nat) (ps := [12, 13]) (encs := fun x : PtX => encPt x.1) rfl (by kernel_rfl) (parts_stops (X := M) hS rfl hw HP (by omega) (by omega) (by omega)) (fun h k => h.trans k) (kx_put hz8) (Below.refl _ _) (fun _ => rfl) (by intro p hp; simp at hp; rcases hp with rfl | rfl <;> rfl)
    (fun pre W => PT W N1 30 (encS s) ∧ HmI w N3 M pre W) (fun _ _ _ => False) ?_ ?_ ⟨H1, hw, H3, [], HM, MapIs.nil⟩ (fun x y => [(1, .pointer (some ⟨N1, 0, none⟩)), (3, .pointer (some ⟨N3, 0, none⟩)), (4, .pointer (some ⟨y, 0, none⟩)), (5, .int .i64 x.1.2)]) (fun x y W => PT W y 81 (encKy x.1.1) ∧ y ≠ M) (fun x y _ A C row h hg hr => ⟨pt_from h.1 hg hr, h.2⟩) ?_ ?_ ?_ ?_
  · rintro pre A C row ⟨q0, q1, q2, m, q3, q4⟩ hg hr
    refine ⟨pt_from q0 hg hr, below_from q1 hz8 hg hr, pt_from q2 hg hr, m, q3.kept hg (fun e => ?_), q4⟩
    have := (hr _ e).1
    omega
  · rintro c pre A C row h; exact h.elim
  · rintro ln pre x W ⟨q0, q1, q2, m, q3, q4⟩
    have hw := Below.refl W.heap.size W
    have hMW := q3.bound
    repeat' (first | (refine lw_pure rfl (pv_move rfl) ?_) | (refine lw_pure rfl (pv_assign rfl) ?_) | (refine is_cw ?_; first | (refine cw_seq ?_) | (refine cw_region ?_) | (refine cw_true rfl rfl ?_) | (refine cw_false rfl rfl ?_) | (refine is_cd ?_; refine cw_true rfl (by first | assumption | exact decide_eq_true (by omega) | exact dec_notT (by omega)) ?_) | (refine is_cd ?_; refine cw_false rfl (by first | assumption | exact decide_eq_false (by omega) | exact dec_notF (by omega)) ?_) | (refine cw_skip ?_) | (refine cw_block ?_) | (refine cw_exit ?_) | (refine cw_ret ?_)) | (refine is_qw ?_; first | (with_reducible refine qw_then ?_) | (with_reducible refine qw_in ?_) | (with_reducible refine qw_in_hit ?_) | (refine qw_in_miss rfl ?_) | (with_reducible refine qw_then_exit ?_) | (with_reducible refine qw_then_ret ?_) | (with_reducible refine qw_in_ret ?_)) | (refine lw_nil ?_) | ((refine is_bin ?_; first | (refine lw_pure rfl (pv_lss rfl rfl) ?_) | (refine lw_pure rfl (pv_eql rfl rfl) ?_) | (refine lw_pure rfl (pv_neq rfl rfl) ?_) | (refine lw_pure rfl (pv_inc rfl rfl (by omega)) ?_) | (refine lw_pure rfl (pv_add rfl rfl (by omega)) ?_))) | ((refine is_load ?_; first | (refine lw_pure rfl (pv_load (t1 rfl) rfl (by first | fail)) ?_) | (refine lw_pure rfl (pv_loada (tA rfl) rfl (by first | fail) (by rfl)) ?_))) | ((refine is_fa ?_; first | (refine lw_pure rfl (pv_fa (tF rfl) rfl) ?_))) | ((refine is_ia ?_; first | (refine lw_pure rfl (pv_ian (tS rfl) rfl rfl (by omega)) ?_) | (refine lw_pure rfl (pv_ia (tS rfl) rfl rfl (by omega)) ?_))) | ((refine is_bi ?_; first | (refine lw_pure rfl (pv_lenl (tS rfl) rfl) ?_) | (refine lw_pure rfl (pv_lens (tStr rfl) rfl) ?_))) | ((refine is_bd ?_; first | (refine lw_pure rfl (tyB_81 rfl rfl rfl) ?_))) | (refine lw_pure rfl (pv_extract rfl rfl) ?_))
    refine lw_varN rfl (by first | exact tyv_29 | exact tyv_30 | exact tyv_33 | exact tyv_34 | exact tyv_36 | exact tyv_37 | exact tyv_38 | exact tyv_39 | exact tyv_40 | exact tyv_41 | exact tyv_43 | exact tyv_44 | exact tyv_45 | exact tyv_46 | exact tyv_73 | exact tyv_74 | exact tyv_80 | exact tyv_81 | exact tyv_107 | exact tyv_108 | exact tyv_123 | exact tyv_146 | exact tyv_147 | exact tyv_148 | exact tyv_149) rfl (tZ rfl) (fun _ => rfl) rfl rfl ?_; intro N4 w9 hN4 H4 hb
    replace H4 : PT w9 N4 81 (encKy x.1.1) := H4
    repeat' (first | (refine lw_pure rfl (pv_move rfl) ?_) | (refine lw_pure rfl (pv_assign rfl) ?_) | (refine is_cw ?_; first | (refine cw_seq ?_) | (refine cw_region ?_) | (refine cw_true rfl rfl ?_) | (refine cw_false rfl rfl ?_) | (refine is_cd ?_; refine cw_true rfl (by first | assumption | exact decide_eq_true (by omega) | exact dec_notT (by omega)) ?_) | (refine is_cd ?_; refine cw_false rfl (by first | assumption | exact decide_eq_false (by omega) | exact dec_notF (by omega)) ?_) | (refine cw_skip ?_) | (refine cw_block ?_) | (refine cw_exit ?_) | (refine cw_ret ?_)) | (refine is_qw ?_; first | (with_reducible refine qw_then ?_) | (with_reducible refine qw_in ?_) | (with_reducible refine qw_in_hit ?_) | (refine qw_in_miss rfl ?_) | (with_reducible refine qw_then_exit ?_) | (with_reducible refine qw_then_ret ?_) | (with_reducible refine qw_in_ret ?_)) | (refine lw_nil ?_) | ((refine is_bin ?_; first | (refine lw_pure rfl (pv_lss rfl rfl) ?_) | (refine lw_pure rfl (pv_eql rfl rfl) ?_) | (refine lw_pure rfl (pv_neq rfl rfl) ?_) | (refine lw_pure rfl (pv_inc rfl rfl (by omega)) ?_) | (refine lw_pure rfl (pv_add rfl rfl (by omega)) ?_))) | ((refine is_load ?_; first | (refine lw_pure rfl (pv_load (t1 rfl) rfl (by first | fail)) ?_) | (refine lw_pure rfl (pv_loada (tA rfl) rfl (by first | fail) (by rfl)) ?_))) | ((refine is_fa ?_; first | (refine lw_pure rfl (pv_fa (tF rfl) rfl) ?_))) | ((refine is_ia ?_; first | (refine lw_pure rfl (pv_ian (tS rfl) rfl rfl (by omega)) ?_) | (refine lw_pure rfl (pv_ia (tS rfl) rfl rfl (by omega)) ?_))) | ((refine is_bi ?_; first | (refine lw_pure rfl (pv_lenl (tS rfl) rfl) ?_) | (refine lw_pure rfl (pv_lens (tStr rfl) rfl) ?_))) | ((refine is_bd ?_; first | (refine lw_pure rfl (tyB_81 rfl rfl rfl) ?_))) | (refine lw_pure rfl (pv_extract rfl rfl) ?_))
    exact qw_as N4 (by repeat' (first | exact trivial | refine ⟨rfl, ?_⟩)) ⟨H4, by omega⟩ (keeps_below hb) (KX.of_below hb q1.size) ⟨q0.mono hb, grow_trans q1 hb, q2.mono hb, m, q3.mono hb, q4⟩
  · rintro ln pre x y W - - ⟨q0, q1, q2, m, q3, q4⟩ hF hpl
    obtain ⟨hF, hyM⟩ := (hF : PT W y 81 (encKy x.1.1) ∧ y ≠ M)
    have hx1 := x.2.1
    have hx2 := x.2.2.1
    have hx3 := x.2.2.2
    have hq := q1.size
    have hbd := heldL_bd (k := x.1.1) (valP_bd pre)
    have hvl : (valP pre).length = pre.length := by simp [valP]
    have hv := q4.val (a := x.1.1.1) (i := x.1.1.2) (by omega) (by omega) (by simp)
    have hadd := q4.add (p := x.1) x.2
    have hw := Below.refl W.heap.size W
    replace hv : (getM m (kk x.1.1.1 x.1.1.2)).getD 0 = heldL (valP pre) x.1.1 := hv
    generalize hz : heldL (valP pre) x.1.1 = z at hbd hv
    refine cw_block ?_
    refine cw_drawnF 7 (MU W N3 y M x.1.1.1 x.1.1.2 z) (by kernel_rfl) (by repeat (first | exact NoPanic.body | with_reducible refine NoPanic.then ?_ | with_reducible refine NoPanic.inBlock ?_)) (fun hNP => ?_)
    have hU : MU W N3 y M x.1.1.1 x.1.1.2 z W.drew := ⟨⟨rfl, rfl, rfl, Nat.le_refl _, fun _ _ _ => rfl⟩, q2.mono (below_drew _), hF.mono (below_drew _), m, q3.mono (below_drew _), hv⟩
    refine fw_take 0 rfl (by kernel_rfl) rfl rfl (by kernel_rfl) (by kernel_rfl) (by kernel_rfl) hNP hU rfl (fun w' hq => pv_load (t1 rfl) rfl (PT.ld hq.t3 rfl)) ?_
    refine fw_take 1 rfl (by kernel_rfl) rfl rfl (by kernel_rfl) (by kernel_rfl) (by kernel_rfl) hNP hU rfl (fun w' hq => pv_loada (tA rfl) rfl (PT.lda hq.t4) (by rfl)) ?_
    refine fw_take 2 rfl (by kernel_rfl) rfl rfl (by kernel_rfl) (by kernel_rfl) (by kernel_rfl) hNP hU rfl (fun w' hq => by obtain ⟨m', hm1, hm2⟩ := hq.m; exact pv_lookX (by omega) (by omega) hm2 rfl rfl hm1) ?_
    refine fw_take 3 rfl (by kernel_rfl) rfl rfl (by kernel_rfl) (by kernel_rfl) (by kernel_rfl) hNP hU rfl (fun w' hq => pv_move rfl) ?_
    refine fw_take 4 rfl (by kernel_rfl) rfl rfl (by kernel_rfl) (by kernel_rfl) (by kernel_rfl) hNP hU rfl (fun w' hq => pv_add rfl rfl (by omega)) ?_
    refine fw_act 5 (by kernel_rfl) rfl rfl rfl ?_
    refine act_some (some_entryM (k := kk x.1.1.1 x.1.1.2) Tryz.underlying137 keyX zX rfl (by rw [kX_of (by omega) (by omega)]; rfl) (q3.mono (below_drew _))) ?_
    rintro v w5 ⟨sl, rfl, hMS, hg5, hz5⟩
    have hg5b : W.grownBy w5 (some M) := ⟨hg5.os, hg5.tape, hg5.output, hg5.size, hg5.block⟩
    have hlk : (getM (touchM m (kk x.1.1.1 x.1.1.2) 0) (kk x.1.1.1 x.1.1.2)).getD 0 = z := by rw [getM_touch, if_pos rfl]; simpa using hv
    refine ⟨⟨hg5b, pt_grown q2 hg5b q3, pt_grown hF hg5b q3, _, mp_touch hMS, hlk⟩, fun hU => ?_⟩
    refine fw_take 6 rfl (by kernel_rfl) rfl rfl (by kernel_rfl) (by kernel_rfl) (by kernel_rfl) hNP hU rfl (fun w' hq => pv_extract rfl rfl) ?_
    refine fw_last (by kernel_rfl) rfl rfl rfl rfl (by kernel_rfl) ?_
    refine act_svs (some_entryStoreM (v := z + x.1.2) rfl rfl rfl hMS) ?_
    rintro w6 ⟨hM6, hg6, hz6⟩
    have hg7 : W.grownBy w6 (some M) := ⟨hg6.os.trans hg5b.os, hg6.tape.trans hg5b.tape, hg6.output.trans hg5b.output, Nat.le_trans hg5b.size hg6.size, fun q hq1 hne => (hg6.block q (Nat.lt_of_lt_of_le hq1 hg5b.size) hne).trans (hg5b.block q hq1 hne)⟩
    refine qw_in ?_
    refine qw_round1 (keeps_low hg7 (by omega)) (KX.of_row hg7 hq (by omega)) ⟨pt_grown q0 hg7 q3, q1.grown hg7 hq (fun q e => by injection e with e; omega), pt_grown q2 hg7 q3, _, hM6, ?_⟩
    rw [valP_snoc, putM_touch]
    rw [hv] at hadd
    exact hadd
  · rintro D ys W hD hS' ⟨q0, q1, q2, m, q3, q4⟩ hW
    rw [(show valP ys = partsP t.ords t.aucs from hS')] at q4
    have hLin := @partsP_in t.ords t.aucs
    generalize hL : partsP t.ords t.aucs = L at q4 hLin
    have hDM : D ≠ M := by omega
    have hwD : w.heap.size ≤ D := by omega
    have hDl := (Array.getElem?_eq_some_iff.1 hW).1
    have hMl2 := q3.bound
    clear hw
    refine qw_in ?_
    refine qw_then ?_
    have hw := Below.refl W.heap.size W
    repeat' (first | (refine lw_pure rfl (pv_move rfl) ?_) | (refine lw_pure rfl (pv_assign rfl) ?_) | (refine is_cw ?_; first | (refine cw_seq ?_) | (refine cw_region ?_) | (refine cw_true rfl rfl ?_) | (refine cw_false rfl rfl ?_) | (refine is_cd ?_; refine cw_true rfl (by first | assumption | exact decide_eq_true (by omega) | exact dec_notT (by omega)) ?_) | (refine is_cd ?_; refine cw_false rfl (by first | assumption | exact decide_eq_false (by omega) | exact dec_notF (by omega)) ?_) | (refine cw_skip ?_) | (refine cw_block ?_) | (refine cw_exit ?_) | (refine cw_ret ?_)) | (refine is_qw ?_; first | (with_reducible refine qw_then ?_) | (with_reducible refine qw_in ?_) | (with_reducible refine qw_in_hit ?_) | (refine qw_in_miss rfl ?_) | (with_reducible refine qw_then_exit ?_) | (with_reducible refine qw_then_ret ?_) | (with_reducible refine qw_in_ret ?_)) | (refine lw_nil ?_) | ((refine is_bin ?_; first | (refine lw_pure rfl (pv_lss rfl rfl) ?_) | (refine lw_pure rfl (pv_eql rfl rfl) ?_) | (refine lw_pure rfl (pv_neq rfl rfl) ?_) | (refine lw_pure rfl (pv_inc rfl rfl (by omega)) ?_) | (refine lw_pure rfl (pv_add rfl rfl (by omega)) ?_))) | ((refine is_load ?_; first | (refine lw_pure rfl (pv_load (t1 rfl) rfl (by first | exact PT.ld0 (q0.mono hw) rfl | exact PT.ld (q0.mono hw) rfl)) ?_) | (refine lw_pure rfl (pv_loada (tA rfl) rfl (by first | exact PT.lda (q0.mono hw)) (by rfl)) ?_))) | ((refine is_fa ?_; first | (refine lw_pure rfl (pv_fa (tF rfl) rfl) ?_))) | ((refine is_ia ?_; first | (refine lw_pure rfl (pv_ian (tS rfl) rfl rfl (by omega)) ?_) | (refine lw_pure rfl (pv_ia (tS rfl) rfl rfl (by omega)) ?_))) | ((refine is_bi ?_; first | (refine lw_pure rfl (pv_lenl (tS rfl) rfl) ?_) | (refine lw_pure rfl (pv_lens (tStr rfl) rfl) ?_))) | ((refine is_bd ?_; first | (refine lw_pure rfl (tyB_81 rfl rfl rfl) ?_))) | (refine lw_pure rfl (pv_extract rfl rfl) ?_))
    refine cw_loop (σ := Nat × List (KeyX × Int)) (fun q => [(3, .pointer (some ⟨N3, 0, none⟩)), (22, .slice s.pr s.mr s.cr), (23, .int .i64 (s.mr : Nat)), (24, .int .i64 (q.1 : Nat))]) (fun q wr => q.1 ≤ s.mr ∧ HtI t w N3 M D L q.1 q.2 wr) (fun q => s.mr - q.1) (0, m) (by repeat' (first | exact trivial | refine ⟨rfl, ?_⟩)) ⟨Nat.zero_le _, q1, q2, q3, q4, hW, fun j r hj => by simp at hj⟩ ?_
    clear hw q0 q1 q2 q3 q4 hW hDl hMl2
    clear m
    rintro ⟨k, m⟩ wr ⟨hk, q1, q2, q3, q4, hW, hn⟩
    dsimp only at hk q3 q4 hn
    change CW none 2 _ Tryz.prog _ _ _ [(3, .pointer (some ⟨N3, 0, none⟩)), (22, .slice s.pr s.mr s.cr), (23, .int .i64 (s.mr : Nat)), (24, .int .i64 (k : Nat))] wr
    have hzr := q1.size
    by_cases hlt : k < s.mr
    · have hxk : t.rows[k]? = some (t.rows[k]'(by omega)) := List.getElem?_eq_getElem _
      have HR := hS.R.mono q1
      obtain ⟨ab, ao, hpr, -, -⟩ := HR.at (by intro h; rw [h] at hmr; simp at hmr; omega)
      rw [hpr] at HR ⊢
      generalize t.rows[k]'(by omega) = r at hxk
      have hok := (hr.1 r (List.mem_of_getElem? hxk)).1
      rw [there_iff] at hok
      have hnk : (r.acct, r.asset) ∉ (t.rows.take k).map fun r => (r.acct, r.asset) := by
        intro hm
        obtain ⟨u, hu, he⟩ := List.mem_map.1 hm
        obtain ⟨j, hj⟩ := List.mem_iff_getElem?.1 hu
        have hjk : j < k := by have := (List.getElem?_eq_some_iff.1 hj).1; rw [List.length_take] at this; omega
        rw [List.getElem?_take_of_lt hjk] at hj
        have := pw_get hr.2.1 hjk hj hxk
        rw [Prod.mk.injEq] at he
        unfold keyLt at this; omega
      have hv := q4.val (a := r.acct) (i := r.asset) (by omega) (by omega) hnk
      have hdel := q4.del (a := r.acct) (i := r.asset) (by omega) (by omega)
      have hhp : heldP t r.acct r.asset = heldL L (r.acct, r.asset) := by unfold heldP; rw [hL]
      have hw := Below.refl wr.heap.size wr
      repeat' (first | (refine lw_pure rfl (pv_move rfl) ?_) | (refine lw_pure rfl (pv_assign rfl) ?_) | (refine is_cw ?_; first | (refine cw_seq ?_) | (refine cw_region ?_) | (refine cw_true rfl rfl ?_) | (refine cw_false rfl rfl ?_) | (refine is_cd ?_; refine cw_true rfl (by first | assumption | exact decide_eq_true (by omega) | exact dec_notT (by omega)) ?_) | (refine is_cd ?_; refine cw_false rfl (by first | assumption | exact decide_eq_false (by omega) | exact dec_notF (by omega)) ?_) | (refine cw_skip ?_) | (refine cw_block ?_) | (refine cw_exit ?_) | (refine cw_ret ?_)) | (refine is_qw ?_; first | (with_reducible refine qw_then ?_) | (with_reducible refine qw_in ?_) | (with_reducible refine qw_in_hit ?_) | (refine qw_in_miss rfl ?_) | (with_reducible refine qw_then_exit ?_) | (with_reducible refine qw_then_ret ?_) | (with_reducible refine qw_in_ret ?_)) | (refine lw_nil ?_) | ((refine is_bin ?_; first | (refine lw_pure rfl (pv_lss rfl rfl) ?_) | (refine lw_pure rfl (pv_eql rfl rfl) ?_) | (refine lw_pure rfl (pv_neq rfl rfl) ?_) | (refine lw_pure rfl (pv_inc rfl rfl (by omega)) ?_) | (refine lw_pure rfl (pv_add rfl rfl (by omega)) ?_))) | ((refine is_load ?_; first | (refine lw_pure rfl (pv_load (t1 rfl) rfl (by first | exact SlR.ld (HR.mono hw) hxk rfl | exact SlR.ld1 (HR.mono hw) hxk rfl)) ?_) | (refine lw_pure rfl (pv_loada (tA rfl) rfl (by first | exact SlR.lda (HR.mono hw) hxk) (by rfl)) ?_))) | ((refine is_fa ?_; first | (refine lw_pure rfl (pv_fa (tF rfl) rfl) ?_))) | ((refine is_ia ?_; first | (refine lw_pure rfl (pv_ian (tS rfl) rfl rfl (by omega)) ?_) | (refine lw_pure rfl (pv_ia (tS rfl) rfl rfl (by omega)) ?_))) | ((refine is_bi ?_; first | (refine lw_pure rfl (pv_lenl (tS rfl) rfl) ?_) | (refine lw_pure rfl (pv_lens (tStr rfl) rfl) ?_))) | ((refine is_bd ?_; first | (refine lw_pure rfl (tyB_81 rfl rfl rfl) ?_))) | (refine lw_pure rfl (pv_extract rfl rfl) ?_))
      refine lw_varN rfl (by first | exact tyv_29 | exact tyv_30 | exact tyv_33 | exact tyv_34 | exact tyv_36 | exact tyv_37 | exact tyv_38 | exact tyv_39 | exact tyv_40 | exact tyv_41 | exact tyv_43 | exact tyv_44 | exact tyv_45 | exact tyv_46 | exact tyv_73 | exact tyv_74 | exact tyv_80 | exact tyv_81 | exact tyv_107 | exact tyv_108 | exact tyv_123 | exact tyv_146 | exact tyv_147 | exact tyv_148 | exact tyv_149) rfl (tZ rfl) (fun _ => rfl) rfl rfl ?_; intro N7 w7 hN7 H7 hb
      replace H7 : PT w7 N7 39 (encR r) := H7
      replace hw := grow_trans hw hb
      clear hb
      repeat' (first | (refine lw_pure rfl (pv_move rfl) ?_) | (refine lw_pure rfl (pv_assign rfl) ?_) | (refine is_cw ?_; first | (refine cw_seq ?_) | (refine cw_region ?_) | (refine cw_true rfl rfl ?_) | (refine cw_false rfl rfl ?_) | (refine is_cd ?_; refine cw_true rfl (by first | assumption | exact decide_eq_true (by omega) | exact dec_notT (by omega)) ?_) | (refine is_cd ?_; refine cw_false rfl (by first | assumption | exact decide_eq_false (by omega) | exact dec_notF (by omega)) ?_) | (refine cw_skip ?_) | (refine cw_block ?_) | (refine cw_exit ?_) | (refine cw_ret ?_)) | (refine is_qw ?_; first | (with_reducible refine qw_then ?_) | (with_reducible refine qw_in ?_) | (with_reducible refine qw_in_hit ?_) | (refine qw_in_miss rfl ?_) | (with_reducible refine qw_then_exit ?_) | (with_reducible refine qw_then_ret ?_) | (with_reducible refine qw_in_ret ?_)) | (refine lw_nil ?_) | ((refine is_bin ?_; first | (refine lw_pure rfl (pv_lss rfl rfl) ?_) | (refine lw_pure rfl (pv_eql rfl rfl) ?_) | (refine lw_pure rfl (pv_neq rfl rfl) ?_) | (refine lw_pure rfl (pv_inc rfl rfl (by omega)) ?_) | (refine lw_pure rfl (pv_add rfl rfl (by omega)) ?_))) | ((refine is_load ?_; first | (refine lw_pure rfl (pv_load (t1 rfl) rfl (by first | exact PT.ld0 H7 rfl | exact PT.ld H7 rfl)) ?_) | (refine lw_pure rfl (pv_loada (tA rfl) rfl (by first | exact PT.lda H7) (by rfl)) ?_))) | ((refine is_fa ?_; first | (refine lw_pure rfl (pv_fa (tF rfl) rfl) ?_))) | ((refine is_ia ?_; first | (refine lw_pure rfl (pv_ian (tS rfl) rfl rfl (by omega)) ?_) | (refine lw_pure rfl (pv_ia (tS rfl) rfl rfl (by omega)) ?_))) | ((refine is_bi ?_; first | (refine lw_pure rfl (pv_lenl (tS rfl) rfl) ?_) | (refine lw_pure rfl (pv_lens (tStr rfl) rfl) ?_))) | ((refine is_bd ?_; first | (refine lw_pure rfl (tyB_81 rfl rfl rfl) ?_))) | (refine lw_pure rfl (pv_extract rfl rfl) ?_))
      refine lw_varN rfl (by first | exact tyv_29 | exact tyv_30 | exact tyv_33 | exact tyv_34 | exact tyv_36 | exact tyv_37 | exact tyv_38 | exact tyv_39 | exact tyv_40 | exact tyv_41 | exact tyv_43 | exact tyv_44 | exact tyv_45 | exact tyv_46 | exact tyv_73 | exact tyv_74 | exact tyv_80 | exact tyv_81 | exact tyv_107 | exact tyv_108 | exact tyv_123 | exact tyv_146 | exact tyv_147 | exact tyv_148 | exact tyv_149) rfl (tZ rfl) (fun _ => rfl) rfl rfl ?_; intro N8 w9 hN8 H8 hb
      replace H8 : PT w9 N8 81 [.int .i64 r.acct, .int .i64 r.asset] := H8
      replace H7 := H7.mono hb
      replace hw := grow_trans hw hb
      clear hb
      have hMlr := q3.bound
      replace q1 := grow_trans q1 hw
      replace q2 := q2.mono hw
      replace q3 := q3.mono hw
      have hDl := (Array.getElem?_eq_some_iff.1 hW).1
      replace hW := (hw.block D hDl).trans hW
      clear hw
      have hw := Below.refl w9.heap.size w9
      by_cases he : heldL L (r.acct, r.asset) = r.held
      · repeat' (first | (refine lw_pure rfl (pv_move rfl) ?_) | (refine lw_pure rfl (pv_assign rfl) ?_) | (refine is_cw ?_; first | (refine cw_seq ?_) | (refine cw_region ?_) | (refine cw_true rfl rfl ?_) | (refine cw_false rfl rfl ?_) | (refine is_cd ?_; refine cw_true rfl (by first | assumption | exact decide_eq_true (by omega) | exact dec_notT (by omega)) ?_) | (refine is_cd ?_; refine cw_false rfl (by first | assumption | exact decide_eq_false (by omega) | exact dec_notF (by omega)) ?_) | (refine cw_skip ?_) | (refine cw_block ?_) | (refine cw_exit ?_) | (refine cw_ret ?_)) | (refine is_qw ?_; first | (with_reducible refine qw_then ?_) | (with_reducible refine qw_in ?_) | (with_reducible refine qw_in_hit ?_) | (refine qw_in_miss rfl ?_) | (with_reducible refine qw_then_exit ?_) | (with_reducible refine qw_then_ret ?_) | (with_reducible refine qw_in_ret ?_)) | (refine lw_nil ?_) | ((refine is_bin ?_; first | (refine lw_pure rfl (pv_lss rfl rfl) ?_) | (refine lw_pure rfl (pv_eql rfl rfl) ?_) | (refine lw_pure rfl (pv_neq rfl rfl) ?_) | (refine lw_pure rfl (pv_inc rfl rfl (by omega)) ?_) | (refine lw_pure rfl (pv_add rfl rfl (by omega)) ?_))) | ((refine is_load ?_; first | (refine lw_pure rfl (pv_load (t1 rfl) rfl (by first | fail)) ?_) | (refine lw_pure rfl (pv_loada (tA rfl) rfl (by first | fail) (by rfl)) ?_))) | ((refine is_fa ?_; first | (refine lw_pure rfl (pv_fa (tF rfl) rfl) ?_))) | ((refine is_ia ?_; first | (refine lw_pure rfl (pv_ian (tS rfl) rfl rfl (by omega)) ?_) | (refine lw_pure rfl (pv_ia (tS rfl) rfl rfl (by omega)) ?_))) | ((refine is_bi ?_; first | (refine lw_pure rfl (pv_lenl (tS rfl) rfl) ?_) | (refine lw_pure rfl (pv_lens (tStr rfl) rfl) ?_))) | ((refine is_bd ?_; first | (refine lw_pure rfl (tyB_81 rfl rfl rfl) ?_))) | (refine lw_pure rfl (pv_extract rfl rfl) ?_))
        refine cw_drawn (fun w' => Below w9.heap.size w9 w') (by kernel_rfl) (by repeat (first | exact NoPanic.body | with_reducible refine NoPanic.then ?_ | with_reducible refine NoPanic.inBlock ?_)) (fun hNP => ?_)
        have hS := hw.drew
        first | (refine at0 0 rfl (fun w' hq => pv_load (t1 rfl) rfl (by first | exact PT.ld0 (q2.mono hq) rfl | exact PT.ld (q2.mono hq) rfl | exact PT.ld0 (H7.mono hq) rfl | exact PT.ld (H7.mono hq) rfl | exact PT.ld0 (H8.mono hq) rfl | exact PT.ld (H8.mono hq) rfl)) ?_) | (refine at0 0 rfl (fun w' hq => pv_loada (tA rfl) rfl (by first | exact PT.lda (q2.mono hq) | exact PT.lda (H7.mono hq) | exact PT.lda (H8.mono hq)) (by rfl)) ?_)
        first | (refine at0 1 rfl (fun w' hq => pv_load (t1 rfl) rfl (by first | exact PT.ld0 (q2.mono hq) rfl | exact PT.ld (q2.mono hq) rfl | exact PT.ld0 (H7.mono hq) rfl | exact PT.ld (H7.mono hq) rfl | exact PT.ld0 (H8.mono hq) rfl | exact PT.ld (H8.mono hq) rfl)) ?_) | (refine at0 1 rfl (fun w' hq => pv_loada (tA rfl) rfl (by first | exact PT.lda (q2.mono hq) | exact PT.lda (H7.mono hq) | exact PT.lda (H8.mono hq)) (by rfl)) ?_)
        (refine at0 2 rfl (fun w' hq => pv_lookX (by omega) (by omega) hv rfl rfl (q3.mono hq)) ?_)
        (refine at0 3 rfl (fun w' hq => pv_fa (tF rfl) rfl) ?_)
        first | (refine at0 4 rfl (fun w' hq => pv_load (t1 rfl) rfl (by first | exact PT.ld0 (q2.mono hq) rfl | exact PT.ld (q2.mono hq) rfl | exact PT.ld0 (H7.mono hq) rfl | exact PT.ld (H7.mono hq) rfl | exact PT.ld0 (H8.mono hq) rfl | exact PT.ld (H8.mono hq) rfl)) ?_) | (refine at0 4 rfl (fun w' hq => pv_loada (tA rfl) rfl (by first | exact PT.lda (q2.mono hq) | exact PT.lda (H7.mono hq) | exact PT.lda (H8.mono hq)) (by rfl)) ?_)
        first | (refine at0 5 rfl (fun w' hq => pv_lss rfl rfl) ?_) | (refine at0 5 rfl (fun w' hq => pv_eql rfl rfl) ?_) | (refine at0 5 rfl (fun w' hq => pv_neq rfl rfl) ?_) | (refine at0 5 rfl (fun w' hq => pv_inc rfl rfl (by omega)) ?_) | (refine at0 5 rfl (fun w' hq => pv_add rfl rfl (by omega)) ?_)
        refine aw_done (by kernel_rfl) ?_
        replace hw := hS; clear hS hNP
        repeat' (first | (refine lw_pure rfl (pv_move rfl) ?_) | (refine lw_pure rfl (pv_assign rfl) ?_) | (refine is_cw ?_; first | (refine cw_seq ?_) | (refine cw_region ?_) | (refine cw_true rfl rfl ?_) | (refine cw_false rfl rfl ?_) | (refine is_cd ?_; refine cw_true rfl (by first | assumption | exact decide_eq_true (by omega) | exact dec_notT (by omega)) ?_) | (refine is_cd ?_; refine cw_false rfl (by first | assumption | exact decide_eq_false (by omega) | exact dec_notF (by omega)) ?_) | (refine cw_skip ?_) | (refine cw_block ?_) | (refine cw_exit ?_) | (refine cw_ret ?_)) | (refine is_qw ?_; first | (with_reducible refine qw_then ?_) | (with_reducible refine qw_in ?_) | (with_reducible refine qw_in_hit ?_) | (refine qw_in_miss rfl ?_) | (with_reducible refine qw_then_exit ?_) | (with_reducible refine qw_then_ret ?_) | (with_reducible refine qw_in_ret ?_)) | (refine lw_nil ?_) | ((refine is_bin ?_; first | (refine lw_pure rfl (pv_lss rfl rfl) ?_) | (refine lw_pure rfl (pv_eql rfl rfl) ?_) | (refine lw_pure rfl (pv_neq rfl rfl) ?_) | (refine lw_pure rfl (pv_inc rfl rfl (by omega)) ?_) | (refine lw_pure rfl (pv_add rfl rfl (by omega)) ?_))) | ((refine is_load ?_; first | (refine lw_pure rfl (pv_load (t1 rfl) rfl (by first | exact PT.ld0 (q2.mono hw) rfl | exact PT.ld (q2.mono hw) rfl | exact PT.ld0 (H8.mono hw) rfl | exact PT.ld (H8.mono hw) rfl)) ?_) | (refine lw_pure rfl (pv_loada (tA rfl) rfl (by first | exact PT.lda (q2.mono hw) | exact PT.lda (H8.mono hw)) (by rfl)) ?_))) | ((refine is_fa ?_; first | (refine lw_pure rfl (pv_fa (tF rfl) rfl) ?_))) | ((refine is_ia ?_; first | (refine lw_pure rfl (pv_ian (tS rfl) rfl rfl (by omega)) ?_) | (refine lw_pure rfl (pv_ia (tS rfl) rfl rfl (by omega)) ?_))) | ((refine is_bi ?_; first | (refine lw_pure rfl (pv_lenl (tS rfl) rfl) ?_) | (refine lw_pure rfl (pv_lens (tStr rfl) rfl) ?_))) | ((refine is_bd ?_; first | (refine lw_pure rfl (tyB_81 rfl rfl rfl) ?_))) | (refine lw_pure rfl (pv_extract rfl rfl) ?_))
        replace q3 := q3.mono hw
        replace q1 := grow_trans q1 hw
        replace q2 := q2.mono hw
        have hDl := (Array.getElem?_eq_some_iff.1 hW).1
        replace hW := (hw.block D hDl).trans hW
        refine lw_delX (a := r.acct) (i := r.asset) (by omega) (by omega) rfl rfl rfl q3 ?_; intro w10 hM2 hg hz10
        repeat' (first | (refine lw_pure rfl (pv_move rfl) ?_) | (refine lw_pure rfl (pv_assign rfl) ?_) | (refine is_cw ?_; first | (refine cw_seq ?_) | (refine cw_region ?_) | (refine cw_true rfl rfl ?_) | (refine cw_false rfl rfl ?_) | (refine is_cd ?_; refine cw_true rfl (by first | assumption | exact decide_eq_true (by omega) | exact dec_notT (by omega)) ?_) | (refine is_cd ?_; refine cw_false rfl (by first | assumption | exact decide_eq_false (by omega) | exact dec_notF (by omega)) ?_) | (refine cw_skip ?_) | (refine cw_block ?_) | (refine cw_exit ?_) | (refine cw_ret ?_)) | (refine is_qw ?_; first | (with_reducible refine qw_then ?_) | (with_reducible refine qw_in ?_) | (with_reducible refine qw_in_hit ?_) | (refine qw_in_miss rfl ?_) | (with_reducible refine qw_then_exit ?_) | (with_reducible refine qw_then_ret ?_) | (with_reducible refine qw_in_ret ?_)) | (refine lw_nil ?_) | ((refine is_bin ?_; first | (refine lw_pure rfl (pv_lss rfl rfl) ?_) | (refine lw_pure rfl (pv_eql rfl rfl) ?_) | (refine lw_pure rfl (pv_neq rfl rfl) ?_) | (refine lw_pure rfl (pv_inc rfl rfl (by omega)) ?_) | (refine lw_pure rfl (pv_add rfl rfl (by omega)) ?_))) | ((refine is_load ?_; first | (refine lw_pure rfl (pv_load (t1 rfl) rfl (by first | fail)) ?_) | (refine lw_pure rfl (pv_loada (tA rfl) rfl (by first | fail) (by rfl)) ?_))) | ((refine is_fa ?_; first | (refine lw_pure rfl (pv_fa (tF rfl) rfl) ?_))) | ((refine is_ia ?_; first | (refine lw_pure rfl (pv_ian (tS rfl) rfl rfl (by omega)) ?_) | (refine lw_pure rfl (pv_ia (tS rfl) rfl rfl (by omega)) ?_))) | ((refine is_bi ?_; first | (refine lw_pure rfl (pv_lenl (tS rfl) rfl) ?_) | (refine lw_pure rfl (pv_lens (tStr rfl) rfl) ?_))) | ((refine is_bd ?_; first | (refine lw_pure rfl (tyB_81 rfl rfl rfl) ?_))) | (refine lw_pure rfl (pv_extract rfl rfl) ?_))
        rw [← hpr]
        refine qw_round (k + 1, delM m (kk r.acct r.asset)) (by repeat' (first | exact trivial | refine ⟨rfl, ?_⟩)) ⟨by show k + 1 ≤ _; omega, q1.grown hg q1.size (fun q e => by injection e with e; omega), pt_grown q2 hg q3, hM2, ?_, (hg.block D (Array.getElem?_eq_some_iff.1 hW).1 (fun e => by injection e with e; exact hDM e)).trans hW, fun j u hj hu => ?_⟩ (by show s.mr - (k + 1) < s.mr - k; omega)
        · show MapIs _ L ((t.rows.take (k + 1)).map _)
          rw [List.take_add_one, hxk]; simpa using hdel
        · by_cases hjk : j = k
          · subst hjk; rw [hxk] at hu; injection hu with hu; subst hu; rw [hhp]; exact he
          · exact hn j u (by have : j < k + 1 := hj; omega) hu
      · repeat' (first | (refine lw_pure rfl (pv_move rfl) ?_) | (refine lw_pure rfl (pv_assign rfl) ?_) | (refine is_cw ?_; first | (refine cw_seq ?_) | (refine cw_region ?_) | (refine cw_true rfl rfl ?_) | (refine cw_false rfl rfl ?_) | (refine is_cd ?_; refine cw_true rfl (by first | assumption | exact decide_eq_true (by omega) | exact dec_notT (by omega)) ?_) | (refine is_cd ?_; refine cw_false rfl (by first | assumption | exact decide_eq_false (by omega) | exact dec_notF (by omega)) ?_) | (refine cw_skip ?_) | (refine cw_block ?_) | (refine cw_exit ?_) | (refine cw_ret ?_)) | (refine is_qw ?_; first | (with_reducible refine qw_then ?_) | (with_reducible refine qw_in ?_) | (with_reducible refine qw_in_hit ?_) | (refine qw_in_miss rfl ?_) | (with_reducible refine qw_then_exit ?_) | (with_reducible refine qw_then_ret ?_) | (with_reducible refine qw_in_ret ?_)) | (refine lw_nil ?_) | ((refine is_bin ?_; first | (refine lw_pure rfl (pv_lss rfl rfl) ?_) | (refine lw_pure rfl (pv_eql rfl rfl) ?_) | (refine lw_pure rfl (pv_neq rfl rfl) ?_) | (refine lw_pure rfl (pv_inc rfl rfl (by omega)) ?_) | (refine lw_pure rfl (pv_add rfl rfl (by omega)) ?_))) | ((refine is_load ?_; first | (refine lw_pure rfl (pv_load (t1 rfl) rfl (by first | fail)) ?_) | (refine lw_pure rfl (pv_loada (tA rfl) rfl (by first | fail) (by rfl)) ?_))) | ((refine is_fa ?_; first | (refine lw_pure rfl (pv_fa (tF rfl) rfl) ?_))) | ((refine is_ia ?_; first | (refine lw_pure rfl (pv_ian (tS rfl) rfl rfl (by omega)) ?_) | (refine lw_pure rfl (pv_ia (tS rfl) rfl rfl (by omega)) ?_))) | ((refine is_bi ?_; first | (refine lw_pure rfl (pv_lenl (tS rfl) rfl) ?_) | (refine lw_pure rfl (pv_lens (tStr rfl) rfl) ?_))) | ((refine is_bd ?_; first | (refine lw_pure rfl (tyB_81 rfl rfl rfl) ?_))) | (refine lw_pure rfl (pv_extract rfl rfl) ?_))
        refine cw_drawn (fun w' => Below w9.heap.size w9 w') (by kernel_rfl) (by repeat (first | exact NoPanic.body | with_reducible refine NoPanic.then ?_ | with_reducible refine NoPanic.inBlock ?_)) (fun hNP => ?_)
        have hS := hw.drew
        first | (refine at0 0 rfl (fun w' hq => pv_load (t1 rfl) rfl (by first | exact PT.ld0 (q2.mono hq) rfl | exact PT.ld (q2.mono hq) rfl | exact PT.ld0 (H7.mono hq) rfl | exact PT.ld (H7.mono hq) rfl | exact PT.ld0 (H8.mono hq) rfl | exact PT.ld (H8.mono hq) rfl)) ?_) | (refine at0 0 rfl (fun w' hq => pv_loada (tA rfl) rfl (by first | exact PT.lda (q2.mono hq) | exact PT.lda (H7.mono hq) | exact PT.lda (H8.mono hq)) (by rfl)) ?_)
        first | (refine at0 1 rfl (fun w' hq => pv_load (t1 rfl) rfl (by first | exact PT.ld0 (q2.mono hq) rfl | exact PT.ld (q2.mono hq) rfl | exact PT.ld0 (H7.mono hq) rfl | exact PT.ld (H7.mono hq) rfl | exact PT.ld0 (H8.mono hq) rfl | exact PT.ld (H8.mono hq) rfl)) ?_) | (refine at0 1 rfl (fun w' hq => pv_loada (tA rfl) rfl (by first | exact PT.lda (q2.mono hq) | exact PT.lda (H7.mono hq) | exact PT.lda (H8.mono hq)) (by rfl)) ?_)
        (refine at0 2 rfl (fun w' hq => pv_lookX (by omega) (by omega) hv rfl rfl (q3.mono hq)) ?_)
        (refine at0 3 rfl (fun w' hq => pv_fa (tF rfl) rfl) ?_)
        first | (refine at0 4 rfl (fun w' hq => pv_load (t1 rfl) rfl (by first | exact PT.ld0 (q2.mono hq) rfl | exact PT.ld (q2.mono hq) rfl | exact PT.ld0 (H7.mono hq) rfl | exact PT.ld (H7.mono hq) rfl | exact PT.ld0 (H8.mono hq) rfl | exact PT.ld (H8.mono hq) rfl)) ?_) | (refine at0 4 rfl (fun w' hq => pv_loada (tA rfl) rfl (by first | exact PT.lda (q2.mono hq) | exact PT.lda (H7.mono hq) | exact PT.lda (H8.mono hq)) (by rfl)) ?_)
        first | (refine at0 5 rfl (fun w' hq => pv_lss rfl rfl) ?_) | (refine at0 5 rfl (fun w' hq => pv_eql rfl rfl) ?_) | (refine at0 5 rfl (fun w' hq => pv_neq rfl rfl) ?_) | (refine at0 5 rfl (fun w' hq => pv_inc rfl rfl (by omega)) ?_) | (refine at0 5 rfl (fun w' hq => pv_add rfl rfl (by omega)) ?_)
        refine aw_done (by kernel_rfl) ?_
        replace hw := hS; clear hS hNP
        repeat' (first | (refine lw_pure rfl (pv_move rfl) ?_) | (refine lw_pure rfl (pv_assign rfl) ?_) | (refine is_cw ?_; first | (refine cw_seq ?_) | (refine cw_region ?_) | (refine cw_true rfl rfl ?_) | (refine cw_false rfl rfl ?_) | (refine is_cd ?_; refine cw_true rfl (by first | assumption | exact decide_eq_true (by omega) | exact dec_notT (by omega)) ?_) | (refine is_cd ?_; refine cw_false rfl (by first | assumption | exact decide_eq_false (by omega) | exact dec_notF (by omega)) ?_) | (refine cw_skip ?_) | (refine cw_block ?_) | (refine cw_exit ?_) | (refine cw_ret ?_)) | (refine is_qw ?_; first | (with_reducible refine qw_then ?_) | (with_reducible refine qw_in ?_) | (with_reducible refine qw_in_hit ?_) | (refine qw_in_miss rfl ?_) | (with_reducible refine qw_then_exit ?_) | (with_reducible refine qw_then_ret ?_) | (with_reducible refine qw_in_ret ?_)) | (refine lw_nil ?_) | ((refine is_bin ?_; first | (refine lw_pure rfl (pv_lss rfl rfl) ?_) | (refine lw_pure rfl (pv_eql rfl rfl) ?_) | (refine lw_pure rfl (pv_neq rfl rfl) ?_) | (refine lw_pure rfl (pv_inc rfl rfl (by omega)) ?_) | (refine lw_pure rfl (pv_add rfl rfl (by omega)) ?_))) | ((refine is_load ?_; first | (refine lw_pure rfl (pv_load (t1 rfl) rfl (by first | fail)) ?_) | (refine lw_pure rfl (pv_loada (tA rfl) rfl (by first | fail) (by rfl)) ?_))) | ((refine is_fa ?_; first | (refine lw_pure rfl (pv_fa (tF rfl) rfl) ?_))) | ((refine is_ia ?_; first | (refine lw_pure rfl (pv_ian (tS rfl) rfl rfl (by omega)) ?_) | (refine lw_pure rfl (pv_ia (tS rfl) rfl rfl (by omega)) ?_))) | ((refine is_bi ?_; first | (refine lw_pure rfl (pv_lenl (tS rfl) rfl) ?_) | (refine lw_pure rfl (pv_lens (tStr rfl) rfl) ?_))) | ((refine is_bd ?_; first | (refine lw_pure rfl (tyB_81 rfl rfl rfl) ?_))) | (refine lw_pure rfl (pv_extract rfl rfl) ?_))
        have hf : heldB t = false := by
          have : (t.rows.all fun r => decide (heldP t r.acct r.asset = r.held)) = false := by
            rw [List.all_eq_false]; exact ⟨r, List.mem_of_getElem? hxk, by rw [hhp]; simpa using he⟩
          unfold heldB; rw [this]; rfl
        replace q1 := grow_trans q1 hw
        have hDl := (Array.getElem?_eq_some_iff.1 hW).1
        replace hW := (hw.block D hDl).trans hW
        exact qw_retM1 hW (qw_ret1 rfl rfl ⟨by rw [hf], put_below hwD hW q1⟩)
    · have hkl : k = s.mr := by omega
      subst hkl
      rw [List.take_of_length_le (by omega)] at q4
      have hw := Below.refl wr.heap.size wr
      repeat' (first | (refine lw_pure rfl (pv_move rfl) ?_) | (refine lw_pure rfl (pv_assign rfl) ?_) | (refine lw_pure rfl (pv_lenM rfl Tryz.underlying137 rfl q3) ?_) | (refine is_cw ?_; first | (refine cw_seq ?_) | (refine cw_region ?_) | (refine cw_true rfl rfl ?_) | (refine cw_false rfl rfl ?_) | (refine is_cd ?_; refine cw_true rfl (by first | assumption | exact decide_eq_true (by omega) | exact dec_notT (by omega)) ?_) | (refine is_cd ?_; refine cw_false rfl (by first | assumption | exact decide_eq_false (by omega) | exact dec_notF (by omega)) ?_) | (refine cw_skip ?_) | (refine cw_block ?_) | (refine cw_exit ?_) | (refine cw_ret ?_)) | (refine is_qw ?_; first | (with_reducible refine qw_then ?_) | (with_reducible refine qw_in ?_) | (with_reducible refine qw_in_hit ?_) | (refine qw_in_miss rfl ?_) | (with_reducible refine qw_then_exit ?_) | (with_reducible refine qw_then_ret ?_) | (with_reducible refine qw_in_ret ?_)) | (refine lw_nil ?_) | ((refine is_bin ?_; first | (refine lw_pure rfl (pv_lss rfl rfl) ?_) | (refine lw_pure rfl (pv_eql rfl rfl) ?_) | (refine lw_pure rfl (pv_neq rfl rfl) ?_) | (refine lw_pure rfl (pv_inc rfl rfl (by omega)) ?_) | (refine lw_pure rfl (pv_add rfl rfl (by omega)) ?_))) | ((refine is_load ?_; first | (refine lw_pure rfl (pv_load (t1 rfl) rfl (by first | exact PT.ld0 (q2.mono hw) rfl | exact PT.ld (q2.mono hw) rfl)) ?_) | (refine lw_pure rfl (pv_loada (tA rfl) rfl (by first | exact PT.lda (q2.mono hw)) (by rfl)) ?_))) | ((refine is_fa ?_; first | (refine lw_pure rfl (pv_fa (tF rfl) rfl) ?_))) | ((refine is_ia ?_; first | (refine lw_pure rfl (pv_ian (tS rfl) rfl rfl (by omega)) ?_) | (refine lw_pure rfl (pv_ia (tS rfl) rfl rfl (by omega)) ?_))) | ((refine is_bi ?_; first | (refine lw_pure rfl (pv_lenl (tS rfl) rfl) ?_) | (refine lw_pure rfl (pv_lens (tStr rfl) rfl) ?_))) | ((refine is_bd ?_; first | (refine lw_pure rfl (tyB_81 rfl rfl rfl) ?_))) | (refine lw_pure rfl (pv_extract rfl rfl) ?_))
      have hl0 := q4.len0 hLin
      have hf : heldB t = decide (m.length = 0) := by
        rw [Bool.eq_iff_iff, decide_eq_true_eq, hl0]
        unfold heldB
        rw [hL]
        simp only [Bool.and_eq_true, List.all_eq_true, decide_eq_true_eq, List.any_eq_true]
        constructor
        · rintro ⟨-, h2⟩ p hp
          obtain ⟨r, hrm, hi⟩ := h2 p hp
          rw [isKey_iff] at hi
          exact List.mem_map.2 ⟨r, hrm, by rw [hi.1, hi.2]⟩
        · intro h
          refine ⟨all_get fun j r hj => hn j r (by have := (List.getElem?_eq_some_iff.1 hj).1; omega) hj, fun p hp => ?_⟩
          obtain ⟨r, hrm, he⟩ := List.mem_map.1 (h p hp)
          exact ⟨r, hrm, isKey_iff.2 ⟨congrArg Prod.fst he, congrArg Prod.snd he⟩⟩
      refine qw_retM1 hW (qw_ret1 rfl rfl ⟨ret_bool ?_, put_below hwD hW q1⟩)
      rw [hf, decide_eq_decide]; omega
  · rintro D c pre W hD hS' h; exact h.elim
end Go.Proofs.YtekomjnjddhfmaaGreat.R
namespace Go.Proofs.YtekomjnjddhfmaaGreat
open Go.RowKit Go.PlainAid

theorem flat_few {α β : Type} {f : α → List β} {c : Nat} : ∀ (l : List α), (∀ x ∈ l, (f x).length ≤ c) → (l.flatMap f).length ≤ l.length * c
  | [], _ => by simp
  | x :: l, h => by
    have h1 := h x List.mem_cons_self
    have h2 := flat_few l (fun y hy => h y (List.mem_cons_of_mem _ hy))
    rw [List.flatMap_cons, List.length_append, List.length_cons, Nat.succ_mul]; omega
theorem partO_len (o : Ord) : (partO o).length ≤ 1 := by unfold partO; split <;> simp
theorem partA_len (a : Auc) : (partA a).length ≤ 17 := by
  unfold partA
  split
  · rename_i h
    have h2 := (mayAu_iff.1 h).2.1
    unfold mannB at h2
    simp only [List.length_cons, List.length_map]
    split at h2
    · simp at h2; omega
    · simp at h2; omega
  · simp
theorem parts_few {os : List Ord} {us : List Auc} (h1 : mayO os = true) (h2 : mayAus us = true) : (partsP os us).length ≤ 8000 := by
  have a1 := flat_few (f := partO) (c := 1) os (fun x _ => partO_len x)
  have a2 := flat_few (f := partA) (c := 17) us (fun x _ => partA_len x)
  have b1 := (mayO_iff.1 h1).1
  have b2 := (mayAus_iff.1 h2).2.2
  unfold partsP
  rw [List.length_append]; omega
structure StOk (t : Stt) : Prop where
  a : ∀ x ∈ t.accs, x.name.size ≤ 140737488355328
  i : ∀ x ∈ t.inss, x.name.size ≤ 140737488355328
  al : t.accs.length ≤ 1048576
  il : t.inss.length ≤ 1048576
  r : In64R t.rows
structure RuC where
  word : ByteArray
  f : FuncId
def encRu (r : RuC) : List Value := [.string r.word, .func (.func r.f) #[] #[]]
theorem encRu_len (r : RuC) : (encRu r).length = 2 := rfl
def rulesL : List RuC := [⟨wNums, 70⟩, ⟨wAccs, 71⟩, ⟨wInss, 72⟩, ⟨wRows, 73⟩, ⟨wOrds, 74⟩, ⟨wAucs, 75⟩, ⟨wHeld, 76⟩]
def rulesB (t : Stt) : List Bool := [numsB t, accsB t.accs, inssB t.inss, rowsB t, ordsB t, aucsB t, heldB t]
theorem check_no {t : Stt} {k : Nat} {r : RuC} (hr : rulesL[k]? = some r) (hb : (rulesB t)[k]? = some false) (hn : ∀ j, j < k → (rulesB t)[j]? = some true) : checkF t = r.word := by
  have h0 := hn 0; have h1 := hn 1; have h2 := hn 2; have h3 := hn 3; have h4 := hn 4; have h5 := hn 5
  unfold rulesB at *
  unfold checkF
  rcases k with _ | _ | _ | _ | _ | _ | _ | k <;> simp [rulesL] at * <;> subst hr <;> simp [*]
theorem check_yes {t : Stt} (hn : ∀ j, j < 7 → (rulesB t)[j]? = some true) : checkF t = ByteArray.empty := by
  have h0 := hn 0; have h1 := hn 1; have h2 := hn 2; have h3 := hn 3; have h4 := hn 4; have h5 := hn 5; have h6 := hn 6
  unfold rulesB at *
  unfold checkF
  simp at *
  simp [*]
set_option maxRecDepth 20000 in
theorem rule_enters {k : Nat} {r : RuC} (hr : rulesL[k]? = some r) : entersB Tryz.prog r.f = true := by
  have hm := List.mem_of_getElem? hr
  simp only [rulesL, List.mem_cons, List.not_mem_nil, or_false] at hm
  rcases hm with rfl | rfl | rfl | rfl | rfl | rfl | rfl
  · exact (by kernel_rfl : entersB Tryz.prog 70 = true)
  · exact (by kernel_rfl : entersB Tryz.prog 71 = true)
  · exact (by kernel_rfl : entersB Tryz.prog 72 = true)
  · exact (by kernel_rfl : entersB Tryz.prog 73 = true)
  · exact (by kernel_rfl : entersB Tryz.prog 74 = true)
  · exact (by kernel_rfl : entersB Tryz.prog 75 = true)
  · exact (by kernel_rfl : entersB Tryz.prog 76 = true)
theorem rule_c {s : SttC} {t : Stt} {k : Nat} {r : RuC} {b : Bool} {w : World} (hS : StR w s t) (hok : StOk t) (hr : rulesL[k]? = some r) (hb : (rulesB t)[k]? = some b) (hn : ∀ j, j < k → (rulesB t)[j]? = some true) : Calls Tryz.prog r.f (#[] ++ [Value.agg (encS s).toArray].toArray ++ #[]) w fun e w' => e = .returned (.bool b) ∧ Below w.heap.size w w' := by
  have h2 := hn 2; have h3 := hn 3; have h4 := hn 4; have h5 := hn 5
  unfold rulesB at *
  rcases k with _ | _ | _ | _ | _ | _ | _ | k <;> simp [rulesL] at hr hb h2 h3 h4 h5 <;> subst hr hb
  · exact numbers_c hS
  · exact accounts_c hS hok.a hok.al
  · exact instruments_c hS hok.i hok.il
  · exact rows_c hS hok.r
  · exact orders_c hS h2
  · exact auctions_c hS
  · have g3 : mayR t.rows = true := by unfold rowsB at h3; rw [Bool.and_eq_true] at h3; exact h3.1
    have g4 : mayO t.ords = true := by unfold ordsB at h4; rw [Bool.and_eq_true] at h4; exact h4.1
    have g5 : mayAus t.aucs = true := by unfold aucsB at h5; rw [Bool.and_eq_true] at h5; exact h5.1
    exact R.heldR_c hS (mayR_iff.1 g3) (parts_few g4 g5)
theorem elemRu : ElemT Tryz.prog 71 74 2 24 := elem_of Tryz.underlying71 (by kernel_rfl) (by omega)
set_option maxRecDepth 20000 in
theorem rules_c (w : World) : Calls Tryz.prog 34 #[] w fun e w' => (∃ N, e = .returned (.slice (some ⟨N, 0, none⟩) 7 7) ∧ SlR encRu 2 w' (some ⟨N, 0, none⟩) 7 rulesL) ∧ Below w.heap.size w w' := by
  have hw := Below.refl w.heap.size w
  refine fn_enter 9 Tryz.func34 rfl rfl rfl ?_
  repeat' (first | (refine lw_pure rfl (pv_move rfl) ?_) | (refine lw_pure rfl (pv_assign rfl) ?_) | (refine is_cw ?_; first | (refine cw_seq ?_) | (refine cw_region ?_) | (refine cw_ret ?_)) | (refine is_qw ?_; first | (with_reducible refine qw_then ?_) | (with_reducible refine qw_then_ret ?_)) | (refine lw_nil ?_) | ((refine is_bd ?_; first | (refine lw_pure rfl (tyB_74 rfl rfl rfl) ?_))))
  refine lw_bs (vs := rulesL.map fun r => .agg (encRu r).toArray) (cs := rulesL.flatMap encRu) elemRu rfl rfl rfl (by omega) (by omega) rfl (by simp [rulesL, encRu, Value.cells]) ?_; intro w1 HB hb hz
  replace hw := grow_trans hw hb
  repeat' (first | (refine lw_pure rfl (pv_move rfl) ?_) | (refine lw_pure rfl (pv_assign rfl) ?_) | (refine is_cw ?_; first | (refine cw_seq ?_) | (refine cw_region ?_) | (refine cw_ret ?_)) | (refine is_qw ?_; first | (with_reducible refine qw_then ?_) | (with_reducible refine qw_then_ret ?_)) | (refine lw_nil ?_) | ((refine is_bd ?_; first | (refine lw_pure rfl (tyB_74 rfl rfl rfl) ?_))))
  exact qw_ret1 rfl rfl ⟨⟨_, rfl, HB.slR encRu_len rfl (by simp)⟩, hw⟩
set_option maxRecDepth 20000 in
set_option maxHeartbeats 2000000 in
theorem check_c {s : SttC} {t : Stt} {w : World} (hS : StR w s t) (hok : StOk t) : Calls Tryz.prog 9 #[(.agg (encS s).toArray)] w fun e w' => e = .returned (.string (checkF t)) ∧ Below w.heap.size w w' := by
  have hE := Ext.refl w
  have hw := Below.refl w.heap.size w
  refine fn_enter 19 Tryz.func9 rfl rfl rfl ?_
  repeat' (first | (refine lw_pure rfl (pv_move rfl) ?_) | (refine lw_pure rfl (pv_assign rfl) ?_) | (refine is_cw ?_; first | (refine cw_seq ?_) | (refine cw_region ?_) | (refine cw_true rfl rfl ?_) | (refine cw_false rfl rfl ?_) | (refine is_cd ?_; refine cw_true rfl (by first | assumption | exact decide_eq_true (by omega) | exact dec_notT (by omega)) ?_) | (refine is_cd ?_; refine cw_false rfl (by first | assumption | exact decide_eq_false (by omega) | exact dec_notF (by omega)) ?_) | (refine cw_skip ?_) | (refine cw_block ?_) | (refine cw_exit ?_) | (refine cw_ret ?_)) | (refine is_qw ?_; first | (with_reducible refine qw_then ?_) | (with_reducible refine qw_in ?_) | (with_reducible refine qw_in_hit ?_) | (refine qw_in_miss rfl ?_) | (with_reducible refine qw_then_exit ?_) | (with_reducible refine qw_then_ret ?_) | (with_reducible refine qw_in_ret ?_)) | (refine lw_nil ?_) | ((refine is_bin ?_; first | (refine lw_pure rfl (pv_lss rfl rfl) ?_) | (refine lw_pure rfl (pv_inc rfl rfl (by omega)) ?_) | (refine lw_pure rfl (pv_add rfl rfl (by omega)) ?_))) | ((refine is_load ?_; first | (refine lw_pure rfl (pv_load (t1 rfl) rfl (by first | fail)) ?_) | (refine lw_pure rfl (pv_loada (tA rfl) rfl (by first | fail) (by rfl)) ?_))) | ((refine is_fa ?_; first | (refine lw_pure rfl (pv_fa (tF rfl) rfl) ?_))) | ((refine is_ia ?_; first | (refine lw_pure rfl (pv_ian (tS rfl) rfl rfl (by omega)) ?_) | (refine lw_pure rfl (pv_ia (tS rfl) rfl rfl (by omega)) ?_))) | ((refine is_un ?_; first | (refine lw_pure rfl (pv_not rfl) ?_))) | ((refine is_bi ?_; first | (refine lw_pure rfl (pv_lenl (tS rfl) rfl) ?_) | (refine lw_pure rfl (pv_lens (tStr rfl) rfl) ?_))))
  refine lw_boxN rfl rfl (cs := encS s) rfl ?_; intro N2 wn hN2 HX hb; replace hN2 := Nat.le_trans hw.size hN2; replace hw := grow_trans hw hb; clear hb
  replace hE := hE.mono hw; replace hS := hS.mono hw; clear hw; have hw := Below.refl wn.heap.size wn
  repeat' (first | (refine lw_pure rfl (pv_move rfl) ?_) | (refine lw_pure rfl (pv_assign rfl) ?_) | (refine is_cw ?_; first | (refine cw_seq ?_) | (refine cw_region ?_) | (refine cw_true rfl rfl ?_) | (refine cw_false rfl rfl ?_) | (refine is_cd ?_; refine cw_true rfl (by first | assumption | exact decide_eq_true (by omega) | exact dec_notT (by omega)) ?_) | (refine is_cd ?_; refine cw_false rfl (by first | assumption | exact decide_eq_false (by omega) | exact dec_notF (by omega)) ?_) | (refine cw_skip ?_) | (refine cw_block ?_) | (refine cw_exit ?_) | (refine cw_ret ?_)) | (refine is_qw ?_; first | (with_reducible refine qw_then ?_) | (with_reducible refine qw_in ?_) | (with_reducible refine qw_in_hit ?_) | (refine qw_in_miss rfl ?_) | (with_reducible refine qw_then_exit ?_) | (with_reducible refine qw_then_ret ?_) | (with_reducible refine qw_in_ret ?_)) | (refine lw_nil ?_) | ((refine is_bin ?_; first | (refine lw_pure rfl (pv_lss rfl rfl) ?_) | (refine lw_pure rfl (pv_inc rfl rfl (by omega)) ?_) | (refine lw_pure rfl (pv_add rfl rfl (by omega)) ?_))) | ((refine is_load ?_; first | (refine lw_pure rfl (pv_load (t1 rfl) rfl (by first | fail)) ?_) | (refine lw_pure rfl (pv_loada (tA rfl) rfl (by first | fail) (by rfl)) ?_))) | ((refine is_fa ?_; first | (refine lw_pure rfl (pv_fa (tF rfl) rfl) ?_))) | ((refine is_ia ?_; first | (refine lw_pure rfl (pv_ian (tS rfl) rfl rfl (by omega)) ?_) | (refine lw_pure rfl (pv_ia (tS rfl) rfl rfl (by omega)) ?_))) | ((refine is_un ?_; first | (refine lw_pure rfl (pv_not rfl) ?_))) | ((refine is_bi ?_; first | (refine lw_pure rfl (pv_lenl (tS rfl) rfl) ?_) | (refine lw_pure rfl (pv_lens (tStr rfl) rfl) ?_))))
  refine lw_call (f := 34) (by kernel_rfl) rfl rfl (rules_c _) ?_; rintro e w1 ⟨⟨NR, rfl, HR⟩, hb⟩; refine ⟨_, rfl, ?_⟩; replace hw := grow_trans hw hb; clear hb
  replace hE := hE.mono hw; replace hS := hS.mono hw; replace HX := HX.mono hw; clear hw; have hw := Below.refl w1.heap.size w1
  repeat' (first | (refine lw_pure rfl (pv_move rfl) ?_) | (refine lw_pure rfl (pv_assign rfl) ?_) | (refine is_cw ?_; first | (refine cw_seq ?_) | (refine cw_region ?_) | (refine cw_true rfl rfl ?_) | (refine cw_false rfl rfl ?_) | (refine is_cd ?_; refine cw_true rfl (by first | assumption | exact decide_eq_true (by omega) | exact dec_notT (by omega)) ?_) | (refine is_cd ?_; refine cw_false rfl (by first | assumption | exact decide_eq_false (by omega) | exact dec_notF (by omega)) ?_) | (refine cw_skip ?_) | (refine cw_block ?_) | (refine cw_exit ?_) | (refine cw_ret ?_)) | (refine is_qw ?_; first | (with_reducible refine qw_then ?_) | (with_reducible refine qw_in ?_) | (with_reducible refine qw_in_hit ?_) | (refine qw_in_miss rfl ?_) | (with_reducible refine qw_then_exit ?_) | (with_reducible refine qw_then_ret ?_) | (with_reducible refine qw_in_ret ?_)) | (refine lw_nil ?_) | ((refine is_bin ?_; first | (refine lw_pure rfl (pv_lss rfl rfl) ?_) | (refine lw_pure rfl (pv_inc rfl rfl (by omega)) ?_) | (refine lw_pure rfl (pv_add rfl rfl (by omega)) ?_))) | ((refine is_load ?_; first | (refine lw_pure rfl (pv_load (t1 rfl) rfl (by first | fail)) ?_) | (refine lw_pure rfl (pv_loada (tA rfl) rfl (by first | fail) (by rfl)) ?_))) | ((refine is_fa ?_; first | (refine lw_pure rfl (pv_fa (tF rfl) rfl) ?_))) | ((refine is_ia ?_; first | (refine lw_pure rfl (pv_ian (tS rfl) rfl rfl (by omega)) ?_) | (refine lw_pure rfl (pv_ia (tS rfl) rfl rfl (by omega)) ?_))) | ((refine is_un ?_; first | (refine lw_pure rfl (pv_not rfl) ?_))) | ((refine is_bi ?_; first | (refine lw_pure rfl (pv_lenl (tS rfl) rfl) ?_) | (refine lw_pure rfl (pv_lens (tStr rfl) rfl) ?_))))
  refine cw_loop (σ := Nat) (fun k => [(1, .pointer (some ⟨N2, 0, none⟩)), (5, .slice (some ⟨NR, 0, none⟩) 7 7), (6, .int .i64 7), (7, .int .i64 (k : Nat))]) (fun k wr => k ≤ 7 ∧ Below w1.heap.size w1 wr ∧ ∀ j, j < k → (rulesB t)[j]? = some true) (fun k => 7 - k) 0 (by repeat' (first | exact trivial | refine ⟨rfl, ?_⟩)) ⟨by omega, hw, fun j hj => by omega⟩ ?_
  clear hw
  rintro k wr ⟨hk, hw, hn⟩
  by_cases hlt : k < 7
  · have hrk : rulesL[k]? = some (rulesL[k]'(by simp [rulesL]; omega)) := List.getElem?_eq_getElem _
    have hbk : (rulesB t)[k]? = some ((rulesB t)[k]'(by simp [rulesB]; omega)) := List.getElem?_eq_getElem _
    generalize rulesL[k]'_ = r at hrk
    generalize (rulesB t)[k]'_ = b at hbk
    have hG := Ext.mk hw
    replace hE := hE.mono hw; replace hS := hS.mono hw; replace HX := HX.mono hw; replace HR := HR.mono hw; clear hw; have hw := Below.refl wr.heap.size wr
    repeat' (first | (refine lw_pure rfl (pv_move rfl) ?_) | (refine lw_pure rfl (pv_assign rfl) ?_) | (refine is_cw ?_; first | (refine cw_seq ?_) | (refine cw_region ?_) | (refine cw_true rfl rfl ?_) | (refine cw_false rfl rfl ?_) | (refine is_cd ?_; refine cw_true rfl (by first | assumption | exact decide_eq_true (by omega) | exact dec_notT (by omega)) ?_) | (refine is_cd ?_; refine cw_false rfl (by first | assumption | exact decide_eq_false (by omega) | exact dec_notF (by omega)) ?_) | (refine cw_skip ?_) | (refine cw_block ?_) | (refine cw_exit ?_) | (refine cw_ret ?_)) | (refine is_qw ?_; first | (with_reducible refine qw_then ?_) | (with_reducible refine qw_in ?_) | (with_reducible refine qw_in_hit ?_) | (refine qw_in_miss rfl ?_) | (with_reducible refine qw_then_exit ?_) | (with_reducible refine qw_then_ret ?_) | (with_reducible refine qw_in_ret ?_)) | (refine lw_nil ?_) | ((refine is_bin ?_; first | (refine lw_pure rfl (pv_lss rfl rfl) ?_) | (refine lw_pure rfl (pv_inc rfl rfl (by omega)) ?_) | (refine lw_pure rfl (pv_add rfl rfl (by omega)) ?_))) | ((refine is_load ?_; first | (refine lw_pure rfl (pv_load (t1 rfl) rfl (by first | exact SlR.ld (HR.mono hw) hrk rfl | exact SlR.ld1 (HR.mono hw) hrk rfl)) ?_) | (refine lw_pure rfl (pv_loada (tA rfl) rfl (by first | exact SlR.lda (HR.mono hw) hrk) (by rfl)) ?_))) | ((refine is_fa ?_; first | (refine lw_pure rfl (pv_fa (tF rfl) rfl) ?_))) | ((refine is_ia ?_; first | (refine lw_pure rfl (pv_ian (tS rfl) rfl rfl (by omega)) ?_) | (refine lw_pure rfl (pv_ia (tS rfl) rfl rfl (by omega)) ?_))) | ((refine is_un ?_; first | (refine lw_pure rfl (pv_not rfl) ?_))) | ((refine is_bi ?_; first | (refine lw_pure rfl (pv_lenl (tS rfl) rfl) ?_) | (refine lw_pure rfl (pv_lens (tStr rfl) rfl) ?_))))
    refine lw_varN rfl (by first | exact tyv_29 | exact tyv_30 | exact tyv_33 | exact tyv_34 | exact tyv_36 | exact tyv_37 | exact tyv_38 | exact tyv_39 | exact tyv_40 | exact tyv_41 | exact tyv_43 | exact tyv_44 | exact tyv_45 | exact tyv_46 | exact tyv_73 | exact tyv_74 | exact tyv_80 | exact tyv_81 | exact tyv_107 | exact tyv_108 | exact tyv_123 | exact tyv_146 | exact tyv_147 | exact tyv_148 | exact tyv_149) rfl (tZ rfl) (fun _ => rfl) rfl rfl ?_; intro N4 w4 hN4 H4 hb
    replace H4 : PT w4 N4 74 (encRu r) := H4
    replace hw := grow_trans hw hb
    clear hb
    replace hE := hE.mono hw; replace hG := hG.mono hw; replace hS := hS.mono hw; replace HX := HX.mono hw; clear hw; have hw := Below.refl w4.heap.size w4
    repeat' (first | (refine lw_pure rfl (pv_move rfl) ?_) | (refine lw_pure rfl (pv_assign rfl) ?_) | (refine is_load ?_; refine lw_pure rfl (pv_load (t := 47) (by kernel_rfl) rfl (by first | exact PT.ld0 (H4.mono hw) rfl | exact PT.ld (H4.mono hw) rfl)) ?_) | (refine is_cw ?_; first | (refine cw_seq ?_) | (refine cw_region ?_) | (refine cw_true rfl rfl ?_) | (refine cw_false rfl rfl ?_) | (refine is_cd ?_; refine cw_true rfl (by first | assumption | exact decide_eq_true (by omega) | exact dec_notT (by omega)) ?_) | (refine is_cd ?_; refine cw_false rfl (by first | assumption | exact decide_eq_false (by omega) | exact dec_notF (by omega)) ?_) | (refine cw_skip ?_) | (refine cw_block ?_) | (refine cw_exit ?_) | (refine cw_ret ?_)) | (refine is_qw ?_; first | (with_reducible refine qw_then ?_) | (with_reducible refine qw_in ?_) | (with_reducible refine qw_in_hit ?_) | (refine qw_in_miss rfl ?_) | (with_reducible refine qw_then_exit ?_) | (with_reducible refine qw_then_ret ?_) | (with_reducible refine qw_in_ret ?_)) | (refine lw_nil ?_) | ((refine is_bin ?_; first | (refine lw_pure rfl (pv_lss rfl rfl) ?_) | (refine lw_pure rfl (pv_inc rfl rfl (by omega)) ?_) | (refine lw_pure rfl (pv_add rfl rfl (by omega)) ?_))) | ((refine is_load ?_; first | (refine lw_pure rfl (pv_load (t1 rfl) rfl (by first | exact PT.ld0 (H4.mono hw) rfl | exact PT.ld (H4.mono hw) rfl | exact PT.ld0 (HX.mono hw) rfl | exact PT.ld (HX.mono hw) rfl)) ?_) | (refine lw_pure rfl (pv_loada (tA rfl) rfl (by first | exact PT.lda (H4.mono hw) | exact PT.lda (HX.mono hw)) (by rfl)) ?_))) | ((refine is_fa ?_; first | (refine lw_pure rfl (pv_fa (tF rfl) rfl) ?_))) | ((refine is_ia ?_; first | (refine lw_pure rfl (pv_ian (tS rfl) rfl rfl (by omega)) ?_) | (refine lw_pure rfl (pv_ia (tS rfl) rfl rfl (by omega)) ?_))) | ((refine is_un ?_; first | (refine lw_pure rfl (pv_not rfl) ?_))) | ((refine is_bi ?_; first | (refine lw_pure rfl (pv_lenl (tS rfl) rfl) ?_) | (refine lw_pure rfl (pv_lens (tStr rfl) rfl) ?_))))
    refine lw_callv (f := r.f) rfl (rule_enters hrk) rfl rfl (rule_c (hS.mono hw) hok hrk hbk hn) ?_; rintro e w5 ⟨rfl, hb⟩; refine ⟨_, rfl, ?_⟩; replace hw := grow_trans hw hb; clear hb
    replace hn : ∀ j, j < k → (rulesB t)[j]? = some true := hn
    cases b with
    | true =>
      repeat' (first | (refine lw_pure rfl (pv_move rfl) ?_) | (refine lw_pure rfl (pv_assign rfl) ?_) | (refine is_cw ?_; first | (refine cw_seq ?_) | (refine cw_region ?_) | (refine cw_true rfl rfl ?_) | (refine cw_false rfl rfl ?_) | (refine is_cd ?_; refine cw_true rfl (by first | assumption | exact decide_eq_true (by omega) | exact dec_notT (by omega)) ?_) | (refine is_cd ?_; refine cw_false rfl (by first | assumption | exact decide_eq_false (by omega) | exact dec_notF (by omega)) ?_) | (refine cw_skip ?_) | (refine cw_block ?_) | (refine cw_exit ?_) | (refine cw_ret ?_)) | (refine is_qw ?_; first | (with_reducible refine qw_then ?_) | (with_reducible refine qw_in ?_) | (with_reducible refine qw_in_hit ?_) | (refine qw_in_miss rfl ?_) | (with_reducible refine qw_then_exit ?_) | (with_reducible refine qw_then_ret ?_) | (with_reducible refine qw_in_ret ?_)) | (refine lw_nil ?_) | ((refine is_bin ?_; first | (refine lw_pure rfl (pv_lss rfl rfl) ?_) | (refine lw_pure rfl (pv_inc rfl rfl (by omega)) ?_) | (refine lw_pure rfl (pv_add rfl rfl (by omega)) ?_))) | ((refine is_load ?_; first | (refine lw_pure rfl (pv_load (t1 rfl) rfl (by first | fail)) ?_) | (refine lw_pure rfl (pv_loada (tA rfl) rfl (by first | fail) (by rfl)) ?_))) | ((refine is_fa ?_; first | (refine lw_pure rfl (pv_fa (tF rfl) rfl) ?_))) | ((refine is_ia ?_; first | (refine lw_pure rfl (pv_ian (tS rfl) rfl rfl (by omega)) ?_) | (refine lw_pure rfl (pv_ia (tS rfl) rfl rfl (by omega)) ?_))) | ((refine is_un ?_; first | (refine lw_pure rfl (pv_not rfl) ?_))) | ((refine is_bi ?_; first | (refine lw_pure rfl (pv_lenl (tS rfl) rfl) ?_) | (refine lw_pure rfl (pv_lens (tStr rfl) rfl) ?_))))
      refine qw_round (k + 1) (by repeat' (first | exact trivial | refine ⟨rfl, ?_⟩)) ⟨by omega, (hG.mono hw).b, fun j hj => ?_⟩ (by omega)
      by_cases hjk : j = k
      · subst hjk; exact hbk
      · exact hn j (by omega)
    | false =>
      rw [check_no hrk hbk hn]
      repeat' (first | (refine lw_pure rfl (pv_move rfl) ?_) | (refine lw_pure rfl (pv_assign rfl) ?_) | (refine is_cw ?_; first | (refine cw_seq ?_) | (refine cw_region ?_) | (refine cw_true rfl rfl ?_) | (refine cw_false rfl rfl ?_) | (refine is_cd ?_; refine cw_true rfl (by first | assumption | exact decide_eq_true (by omega) | exact dec_notT (by omega)) ?_) | (refine is_cd ?_; refine cw_false rfl (by first | assumption | exact decide_eq_false (by omega) | exact dec_notF (by omega)) ?_) | (refine cw_skip ?_) | (refine cw_block ?_) | (refine cw_exit ?_) | (refine cw_ret ?_)) | (refine is_qw ?_; first | (with_reducible refine qw_then ?_) | (with_reducible refine qw_in ?_) | (with_reducible refine qw_in_hit ?_) | (refine qw_in_miss rfl ?_) | (with_reducible refine qw_then_exit ?_) | (with_reducible refine qw_then_ret ?_) | (with_reducible refine qw_in_ret ?_)) | (refine lw_nil ?_) | ((refine is_bin ?_; first | (refine lw_pure rfl (pv_lss rfl rfl) ?_) | (refine lw_pure rfl (pv_inc rfl rfl (by omega)) ?_) | (refine lw_pure rfl (pv_add rfl rfl (by omega)) ?_))) | ((refine is_load ?_; first | (refine lw_pure rfl (pv_load (t1 rfl) rfl (by first | exact PT.ld0 (H4.mono hw) rfl | exact PT.ld (H4.mono hw) rfl)) ?_) | (refine lw_pure rfl (pv_loada (tA rfl) rfl (by first | exact PT.lda (H4.mono hw)) (by rfl)) ?_))) | ((refine is_fa ?_; first | (refine lw_pure rfl (pv_fa (tF rfl) rfl) ?_))) | ((refine is_ia ?_; first | (refine lw_pure rfl (pv_ian (tS rfl) rfl rfl (by omega)) ?_) | (refine lw_pure rfl (pv_ia (tS rfl) rfl rfl (by omega)) ?_))) | ((refine is_un ?_; first | (refine lw_pure rfl (pv_not rfl) ?_))) | ((refine is_bi ?_; first | (refine lw_pure rfl (pv_lenl (tS rfl) rfl) ?_) | (refine lw_pure rfl (pv_lens (tStr rfl) rfl) ?_))))
      exact qw_ret1 rfl rfl ⟨rfl, (hE.mono hw).b⟩
  · have hk7 : k = 7 := by omega
    subst hk7
    rw [check_yes hn]
    repeat' (first | (refine lw_pure rfl (pv_move rfl) ?_) | (refine lw_pure rfl (pv_assign rfl) ?_) | (refine is_cw ?_; first | (refine cw_seq ?_) | (refine cw_region ?_) | (refine cw_true rfl rfl ?_) | (refine cw_false rfl rfl ?_) | (refine is_cd ?_; refine cw_true rfl (by first | assumption | exact decide_eq_true (by omega) | exact dec_notT (by omega)) ?_) | (refine is_cd ?_; refine cw_false rfl (by first | assumption | exact decide_eq_false (by omega) | exact dec_notF (by omega)) ?_) | (refine cw_skip ?_) | (refine cw_block ?_) | (refine cw_exit ?_) | (refine cw_ret ?_)) | (refine is_qw ?_; first | (with_reducible refine qw_then ?_) | (with_reducible refine qw_in ?_) | (with_reducible refine qw_in_hit ?_) | (refine qw_in_miss rfl ?_) | (with_reducible refine qw_then_exit ?_) | (with_reducible refine qw_then_ret ?_) | (with_reducible refine qw_in_ret ?_)) | (refine lw_nil ?_) | ((refine is_bin ?_; first | (refine lw_pure rfl (pv_lss rfl rfl) ?_) | (refine lw_pure rfl (pv_inc rfl rfl (by omega)) ?_) | (refine lw_pure rfl (pv_add rfl rfl (by omega)) ?_))) | ((refine is_load ?_; first | (refine lw_pure rfl (pv_load (t1 rfl) rfl (by first | fail)) ?_) | (refine lw_pure rfl (pv_loada (tA rfl) rfl (by first | fail) (by rfl)) ?_))) | ((refine is_fa ?_; first | (refine lw_pure rfl (pv_fa (tF rfl) rfl) ?_))) | ((refine is_ia ?_; first | (refine lw_pure rfl (pv_ian (tS rfl) rfl rfl (by omega)) ?_) | (refine lw_pure rfl (pv_ia (tS rfl) rfl rfl (by omega)) ?_))) | ((refine is_un ?_; first | (refine lw_pure rfl (pv_not rfl) ?_))) | ((refine is_bi ?_; first | (refine lw_pure rfl (pv_lenl (tS rfl) rfl) ?_) | (refine lw_pure rfl (pv_lens (tStr rfl) rfl) ?_))))
    exact qw_ret1 rfl rfl ⟨rfl, (hE.mono hw).b⟩
theorem check_e {s : SttC} {t : Stt} {x : ByteArray} {w : World} (h : checkF t = x) (hS : StR w s t) (hok : StOk t) : Calls Tryz.prog 9 #[(.agg (encS s).toArray)] w fun e w' => e = .returned (.string x) ∧ Below w.heap.size w w' := by
  subst h; exact check_c hS hok
set_option maxRecDepth 20000 in
theorem may_S {s : SttC} {t : Stt} {w : World} (hS : StR w s t) (hok : StOk t) : Calls Tryz.prog 11 #[(.agg (encS s).toArray)] w fun e w' => e = .returned (.bool (decide (checkF t = ByteArray.empty))) ∧ Below w.heap.size w w' := by
  have hE := Ext.refl w
  have hw := Below.refl w.heap.size w
  refine fn_enter 6 Tryz.func11 rfl rfl rfl ?_
  repeat' (first | (refine lw_pure rfl (pv_move rfl) ?_) | (refine lw_pure rfl (pv_assign rfl) ?_) | (refine is_cw ?_; first | (refine cw_seq ?_) | (refine cw_region ?_) | (refine cw_ret ?_)) | (refine is_qw ?_; first | (with_reducible refine qw_then ?_) | (with_reducible refine qw_then_ret ?_)) | (refine lw_nil ?_) | ((refine is_bin ?_; first | (refine lw_pure rfl (pv_eql rfl rfl) ?_) | (refine lw_pure rfl (pv_seqlD rfl rfl) ?_))) | ((refine is_load ?_; first | (refine lw_pure rfl (pv_load (t1 rfl) rfl (by first | fail)) ?_) | (refine lw_pure rfl (pv_loada (tA rfl) rfl (by first | fail) (by rfl)) ?_))))
  refine lw_boxN rfl rfl (cs := encS s) rfl ?_; intro N2 wn hN2 HX hb; replace hN2 := Nat.le_trans hw.size hN2; replace hw := grow_trans hw hb; clear hb
  replace hE := hE.mono hw; replace hS := hS.mono hw; clear hw; have hw := Below.refl wn.heap.size wn
  repeat' (first | (refine lw_pure rfl (pv_move rfl) ?_) | (refine lw_pure rfl (pv_assign rfl) ?_) | (refine lw_call (f := 9) (by kernel_rfl) rfl rfl (check_c (hS.mono hw) hok) ?_; rintro e w1 ⟨rfl, hb⟩; refine ⟨_, rfl, ?_⟩; replace hw := grow_trans hw hb; clear hb) | (refine is_cw ?_; first | (refine cw_seq ?_) | (refine cw_region ?_) | (refine cw_ret ?_)) | (refine is_qw ?_; first | (with_reducible refine qw_then ?_) | (with_reducible refine qw_then_ret ?_)) | (refine lw_nil ?_) | ((refine is_bin ?_; first | (refine lw_pure rfl (pv_eql rfl rfl) ?_) | (refine lw_pure rfl (pv_seqlD rfl rfl) ?_))) | ((refine is_load ?_; first | (refine lw_pure rfl (pv_load (t1 rfl) rfl (by first | exact PT.ld0 (HX.mono hw) rfl | exact PT.ld (HX.mono hw) rfl)) ?_) | (refine lw_pure rfl (pv_loada (tA rfl) rfl (by first | exact PT.lda (HX.mono hw)) (by rfl)) ?_))))
  exact qw_ret1 rfl rfl ⟨rfl, (hE.mono hw).b⟩

theorem pt_keptN {N N' : Nat} {T : TypeId} {cs : List Value} {w w' : World} (h : PT w N T cs) (hg : w.grownBy w' (some N')) (hne : N ≠ N') : PT w' N T cs := (hg.block N h.lt (fun e => hne (Option.some.inj e))).trans h
section
variable {k nb : Nat} {P : Program} {n : Nat} {l : Fr} {w : World} {Q : Exit → Act → World → Prop} {ops : Array Oper} {os : List Oper} {d : Nat} {ty : TypeId} {pos : String} {af : Array Edge} {S T : TypeId}
theorem lw_bsN (E : ElemT P S T k nb) {m : Nat} {ps : List (Nat × Operand)} {vs cs : List Value} (hd : Nat.blt d n = true) (hps : ps.map (·.1) = List.range m) (hvs : evs l (ps.map (·.2)) = some vs) (hp : 0 < m) (hs : m * k ≤ 16777216) (hcs : (vs.flatMap fun v => v.cells.toList) = cs) (h1 : ∀ v ∈ vs, v.cells.size = k)
    (h : ∀ N w', w.heap.size ≤ N → PT w' N T cs → Below w.heap.size w w' → LW P n ops Q os ((d, .slice (some ⟨N, 0, none⟩) m m) :: l) w') :
    LW P n ops Q (⟨some d, .buildSlice S m ps.toArray, ty, pos, af, none⟩ :: os) l w :=
  lw_bs E hd hps hvs hp hs hcs h1 fun w' hp hb _ => h _ w' (Nat.le_refl _) hp hb
end
abbrev emptyC : SttC := ⟨0, 0, 1, 1, none, 0, 0, none, 0, 0, none, 0, 0, none, 0, 0, none, 0, 0⟩
abbrev emptyT : Stt := ⟨0, 0, 1, 1, [], [], [], [], []⟩
theorem emptyR (w : World) : StR w emptyC emptyT := ⟨⟨rfl, rfl, rfl, rfl⟩, rfl, rfl, rfl, rfl, rfl, SlR.nil _, SlR.nil _, SlR.nil _, SlR.nil _, ⟨[], SlR.nil _, AusR.nil _⟩⟩
theorem emptyOk : StOk emptyT := ⟨(fun x h => by cases h), (fun x h => by cases h), by simp, by simp, (fun r h => by cases h)⟩
abbrev smallC (NA NI NR : Nat) : SttC := ⟨0, 0, 1, 1, some ⟨NA, 0, none⟩, 1, 1, some ⟨NI, 0, none⟩, 1, 1, some ⟨NR, 0, none⟩, 2, 2, none, 0, 0, none, 0, 0⟩
def accA : Acc := ⟨⟨#[97]⟩, true⟩
def insG : Ins := ⟨⟨#[103, 111, 108, 100]⟩, 2, false⟩
abbrev smallT : Stt := ⟨0, 0, 1, 1, [accA], [insG], [⟨0, 0, -5, 0⟩, ⟨1, 0, 5, 0⟩], [], []⟩
abbrev smallU : Stt := ⟨0, 0, 1, 1, [accA], [insG], [⟨1, 0, 5, 0⟩], [], []⟩
abbrev smallV : Stt := ⟨0, 0, 1, 1, [accA], [insG], [⟨0, 0, -5, 0⟩, ⟨1, 0, 0, 5⟩], [], []⟩
theorem smallOk (rs : List Row) (h : In64R rs) : StOk ⟨0, 0, 1, 1, [accA], [insG], rs, [], []⟩ := ⟨(fun x h => by simp at h; subst h; simp [accA, ByteArray.size]), (fun x h => by simp at h; subst h; simp [insG, ByteArray.size]), by simp, by simp, h⟩
theorem rows_in {rs : List Row} (h : (rs.all fun r => decide ((-9223372036854775808 ≤ r.free ∧ r.free ≤ 9223372036854775807) ∧ (-9223372036854775808 ≤ r.held ∧ r.held ≤ 9223372036854775807))) = true) : In64R rs := fun r hr => by simpa using List.all_eq_true.1 h r hr
theorem chk0 : checkF emptyT = ByteArray.empty := by kernel_rfl
theorem chk1 : checkF smallT = ByteArray.empty := by kernel_rfl
theorem chk2 : checkF smallU = wRows := by kernel_rfl
theorem chk3 : checkF smallV = wHeld := by kernel_rfl
theorem StR.setR {w : World} {s : SttC} {t : Stt} (h : StR w s t) {a : Option Addr} {c : Nat} {l : List Row} {m : Nat} (hm : l.length = m) (HR : SlR encR 4 w a c l) : StR w { s with pr := a, mr := m, cr := c } { t with rows := l } := ⟨h.n, h.ma, h.mi, hm, h.mo, h.mx, h.A, h.I, HR, h.O, h.X⟩
set_option maxRecDepth 20000 in
theorem empty_c (w : World) : Calls Tryz.prog 33 #[] w fun e w' => e = .returned ((.agg (encS emptyC).toArray)) ∧ Below w.heap.size w w' := by
  have hw := Below.refl w.heap.size w
  refine fn_enter 2 Tryz.func33 rfl rfl rfl ?_
  repeat' (first | (refine is_cw ?_; first | (refine cw_seq ?_) | (refine cw_region ?_)))
  refine lw_allocN rfl (by first | exact tyv_29 | exact tyv_30 | exact tyv_33 | exact tyv_34 | exact tyv_36 | exact tyv_37 | exact tyv_38 | exact tyv_39 | exact tyv_40 | exact tyv_41 | exact tyv_43 | exact tyv_44 | exact tyv_45 | exact tyv_46 | exact tyv_73 | exact tyv_74 | exact tyv_80 | exact tyv_81 | exact tyv_107 | exact tyv_108 | exact tyv_123 | exact tyv_146 | exact tyv_147 | exact tyv_148 | exact tyv_149) rfl ?_; intro N0 w0 hN0 H0 hb
  replace hw := grow_trans hw hb
  clear hb
  repeat' (first | (refine is_cw ?_; first | (refine cw_seq ?_) | (refine cw_region ?_)) | (refine is_qw ?_; first | (with_reducible refine qw_then ?_)) | (refine lw_nil ?_) | ((refine is_bd ?_; first | (refine lw_pure rfl (tyB_30 rfl rfl rfl) ?_))))
  refine lw_storea (vs := encS emptyC) H0 (tZ rfl) rfl rfl rfl rfl (by simp [Value.oneCell']) ?_; intro w3 H2 hg hz
  replace hw := st_hw hw hg hN0
  repeat' (first | (refine is_cw ?_; first | (refine cw_ret ?_)) | (refine is_qw ?_; first | (with_reducible refine qw_then ?_)) | (refine lw_nil ?_))
  exact qw_retc rfl rfl (agg_ld (tA rfl) rfl (fun i u hu => H2.ld0 hu)) ⟨rfl, hw⟩
set_option maxRecDepth 20000 in
set_option maxHeartbeats 2000000 in
theorem small_c (w : World) : Calls Tryz.prog 32 #[] w fun e w' => (∃ NA NI NR, e = .returned ((.agg (encS (smallC NA NI NR)).toArray)) ∧ StR w' (smallC NA NI NR) smallT) ∧ Below w.heap.size w w' := by
  have hw := Below.refl w.heap.size w
  refine fn_enter 14 Tryz.func32 rfl rfl rfl ?_
  repeat' (first | (refine is_cw ?_; first | (refine cw_seq ?_) | (refine cw_region ?_)))
  refine lw_allocN rfl (by first | exact tyv_29 | exact tyv_30 | exact tyv_33 | exact tyv_34 | exact tyv_36 | exact tyv_37 | exact tyv_38 | exact tyv_39 | exact tyv_40 | exact tyv_41 | exact tyv_43 | exact tyv_44 | exact tyv_45 | exact tyv_46 | exact tyv_73 | exact tyv_74 | exact tyv_80 | exact tyv_81 | exact tyv_107 | exact tyv_108 | exact tyv_123 | exact tyv_146 | exact tyv_147 | exact tyv_148 | exact tyv_149) rfl ?_; intro N0 w0 hN0 H0 hb
  replace hw := grow_trans hw hb
  clear hb
  repeat' (first | (refine is_cw ?_; first | (refine cw_seq ?_) | (refine cw_region ?_)) | (refine is_qw ?_; first | (with_reducible refine qw_then ?_)) | (refine lw_nil ?_))
  refine lw_call (f := 33) (by kernel_rfl) rfl rfl (empty_c _) ?_; rintro e w1 ⟨rfl, hb⟩; refine ⟨_, rfl, ?_⟩
  replace H0 := H0.mono hb
  have hl0 := H0.lt
  replace hw := grow_trans hw hb
  clear hb
  skip
  refine lw_varN rfl (by first | exact tyv_29 | exact tyv_30 | exact tyv_33 | exact tyv_34 | exact tyv_36 | exact tyv_37 | exact tyv_38 | exact tyv_39 | exact tyv_40 | exact tyv_41 | exact tyv_43 | exact tyv_44 | exact tyv_45 | exact tyv_46 | exact tyv_73 | exact tyv_74 | exact tyv_80 | exact tyv_81 | exact tyv_107 | exact tyv_108 | exact tyv_123 | exact tyv_146 | exact tyv_147 | exact tyv_148 | exact tyv_149) rfl (tZ rfl) (fun _ => rfl) rfl rfl ?_; intro N1 w2 hN1 H1 hb
  replace H1 : PT w2 N1 30 (encS emptyC) := H1
  replace H0 := H0.mono hb
  have hn01 : N0 ≠ N1 := by omega
  replace hN1 := Nat.le_trans hw.size hN1
  replace hw := grow_trans hw hb
  clear hb
  repeat' (first | (refine is_cw ?_; first | (refine cw_seq ?_) | (refine cw_region ?_)) | (refine is_qw ?_; first | (with_reducible refine qw_then ?_)) | (refine lw_nil ?_) | ((refine is_bd ?_; first | (refine lw_pure rfl (tyB_34 rfl rfl rfl) ?_))))
  have hl0 := H0.lt
  have hl1 := H1.lt
  refine lw_bsN (vs := [.agg (encA accA).toArray]) (cs := encA accA) elemA rfl rfl rfl (by omega) (by omega) rfl (by simp [Value.cells, encA]) ?_; intro NA w3 hNA HA hb
  have hlX := HA.lt
  have hzs := hw.size
  replace H0 := H0.mono hb
  replace H1 := H1.mono hb
  replace hw := grow_trans hw hb
  clear hb
  repeat' (first | ((refine is_fa ?_; first | (refine lw_pure rfl (pv_fa (tF rfl) rfl) ?_))))
  refine lw_store H1 (tZ rfl) rfl rfl rfl (by simp) ?_; intro w4 H1 hg hz4
  replace H1 : PT w4 N1 30 (encS ⟨0, 0, 1, 1, some ⟨NA, 0, none⟩, 1, 1, none, 0, 0, none, 0, 0, none, 0, 0, none, 0, 0⟩) := H1
  replace H0 := pt_keptN H0 hg hn01
  replace HA := pt_keptN HA hg (by omega)
  replace hw := st_hw hw hg hN1
  clear hg hz4
  repeat' (first | (refine is_cw ?_; first | (refine cw_seq ?_) | (refine cw_region ?_)) | (refine is_qw ?_; first | (with_reducible refine qw_then ?_)) | (refine lw_nil ?_) | ((refine is_bd ?_; first | (refine lw_pure rfl (tyB_37 rfl rfl rfl) ?_))))
  have hl0 := H0.lt
  have hl1 := H1.lt
  have hlA := HA.lt
  refine lw_bsN (vs := [.agg (encN insG).toArray]) (cs := encN insG) elemIn rfl rfl rfl (by omega) (by omega) rfl (by simp [Value.cells, encN]) ?_; intro NI w3 hNI HI hb
  have hlX := HI.lt
  have hzs := hw.size
  replace H0 := H0.mono hb
  replace H1 := H1.mono hb
  replace HA := HA.mono hb
  replace hw := grow_trans hw hb
  clear hb
  repeat' (first | ((refine is_fa ?_; first | (refine lw_pure rfl (pv_fa (tF rfl) rfl) ?_))))
  refine lw_store H1 (tZ rfl) rfl rfl rfl (by simp) ?_; intro w4 H1 hg hz4
  replace H1 : PT w4 N1 30 (encS ⟨0, 0, 1, 1, some ⟨NA, 0, none⟩, 1, 1, some ⟨NI, 0, none⟩, 1, 1, none, 0, 0, none, 0, 0, none, 0, 0⟩) := H1
  replace H0 := pt_keptN H0 hg hn01
  replace HI := pt_keptN HI hg (by omega)
  replace HA := pt_keptN HA hg (by omega)
  replace hw := st_hw hw hg hN1
  clear hg hz4
  repeat' (first | (refine is_cw ?_; first | (refine cw_seq ?_) | (refine cw_region ?_)) | (refine is_qw ?_; first | (with_reducible refine qw_then ?_)) | (refine lw_nil ?_) | ((refine is_bd ?_; first | (refine lw_pure rfl (tyB_39 rfl rfl rfl) ?_))))
  have hl0 := H0.lt
  have hl1 := H1.lt
  have hlA := HA.lt
  have hlI := HI.lt
  refine lw_bsN (vs := [.agg (encR ⟨0, 0, -5, 0⟩).toArray, .agg (encR ⟨1, 0, 5, 0⟩).toArray]) (cs := encR ⟨0, 0, -5, 0⟩ ++ encR ⟨1, 0, 5, 0⟩) elemR rfl rfl rfl (by omega) (by omega) rfl (by simp [Value.cells, encR]) ?_; intro NR w3 hNR HR hb
  have hlX := HR.lt
  have hzs := hw.size
  replace H0 := H0.mono hb
  replace H1 := H1.mono hb
  replace HA := HA.mono hb
  replace HI := HI.mono hb
  replace hw := grow_trans hw hb
  clear hb
  repeat' (first | ((refine is_fa ?_; first | (refine lw_pure rfl (pv_fa (tF rfl) rfl) ?_))))
  refine lw_store H1 (tZ rfl) rfl rfl rfl (by simp) ?_; intro w4 H1 hg hz4
  replace H1 : PT w4 N1 30 (encS (smallC NA NI NR)) := H1
  replace H0 := pt_keptN H0 hg hn01
  replace HR := pt_keptN HR hg (by omega)
  replace HA := pt_keptN HA hg (by omega)
  replace HI := pt_keptN HI hg (by omega)
  replace hw := st_hw hw hg hN1
  clear hg hz4
  repeat' (first | (refine is_cw ?_; first | (refine cw_seq ?_) | (refine cw_region ?_)) | (refine is_qw ?_; first | (with_reducible refine qw_then ?_)) | (refine lw_nil ?_))
  repeat' (first | ((refine is_load ?_; first | (refine lw_pure rfl (pv_loada (tA rfl) rfl (by first | exact PT.lda H1) (by rfl)) ?_))))
  refine lw_storea (vs := encS (smallC NA NI NR)) H0 (tZ rfl) rfl rfl rfl rfl (by simp [Value.oneCell']) ?_; intro w9 H9 hg hz
  have hl0 := H0.lt
  replace HA := pt_keptN HA hg (by omega)
  replace HI := pt_keptN HI hg (by omega)
  replace HR := pt_keptN HR hg (by omega)
  replace hw := st_hw hw hg hN0
  repeat' (first | (refine is_cw ?_; first | (refine cw_ret ?_)) | (refine is_qw ?_; first | (with_reducible refine qw_then ?_)) | (refine lw_nil ?_))
  exact qw_retc rfl rfl (agg_ld (tA rfl) rfl (fun i u hu => H9.ld0 hu)) ⟨⟨NA, NI, NR, rfl, ⟨rfl, rfl, rfl, rfl⟩, rfl, rfl, rfl, rfl, rfl, HA.slR (xs := [accA]) encA_len rfl (by simp), HI.slR (xs := [insG]) encN_len rfl (by simp), HR.slR (xs := [⟨0, 0, -5, 0⟩, ⟨1, 0, 5, 0⟩]) encR_len rfl (by simp), SlR.nil _, ⟨[], SlR.nil _, AusR.nil _⟩⟩, hw⟩
theorem may_t {s : SttC} {t : Stt} {w : World} (h : checkF t = ByteArray.empty) (hS : StR w s t) (hok : StOk t) : Calls Tryz.prog 11 #[(.agg (encS s).toArray)] w fun e w' => e = .returned (.bool true) ∧ Below w.heap.size w w' := by
  have := may_S hS hok; rw [decide_eq_true h] at this; exact this
set_option maxRecDepth 20000 in
set_option maxHeartbeats 2000000 in
theorem works_c (w : World) : Calls Tryz.prog 8 #[] w fun e w' => e = .returned (.bool true) ∧ Below w.heap.size w w' := by
  have hw := Below.refl w.heap.size w
  refine fn_enter 49 Tryz.func8 rfl rfl rfl ?_
  repeat' (first | (refine lw_pure rfl (pv_assign rfl) ?_) | (refine is_cw ?_; first | (refine cw_seq ?_) | (refine cw_region ?_)) | (refine is_qw ?_; first | (with_reducible refine qw_then ?_)) | (refine lw_nil ?_))
  refine lw_call (f := 32) (by kernel_rfl) rfl rfl (small_c _) ?_; rintro e w1 ⟨⟨NA1, NI1, NR1, rfl, hS1⟩, hb⟩; refine ⟨_, rfl, ?_⟩
  replace hw := grow_trans hw hb
  clear hb
  skip
  refine lw_varN rfl (by first | exact tyv_29 | exact tyv_30 | exact tyv_33 | exact tyv_34 | exact tyv_36 | exact tyv_37 | exact tyv_38 | exact tyv_39 | exact tyv_40 | exact tyv_41 | exact tyv_43 | exact tyv_44 | exact tyv_45 | exact tyv_46 | exact tyv_73 | exact tyv_74 | exact tyv_80 | exact tyv_81 | exact tyv_107 | exact tyv_108 | exact tyv_123 | exact tyv_146 | exact tyv_147 | exact tyv_148 | exact tyv_149) rfl (tZ rfl) (fun _ => rfl) rfl rfl ?_; intro N1 w2 hN1 H1 hb
  replace H1 : PT w2 N1 30 (encS (smallC NA1 NI1 NR1)) := H1
  replace hS1 := hS1.mono hb
  replace hw := grow_trans hw hb
  clear hb
  repeat' (first | (refine is_cw ?_; first | (refine cw_seq ?_) | (refine cw_region ?_)) | (refine is_qw ?_; first | (with_reducible refine qw_then ?_)) | (refine lw_nil ?_))
  refine lw_call (f := 32) (by kernel_rfl) rfl rfl (small_c _) ?_; rintro e w1 ⟨⟨NA2, NI2, NR2, rfl, hS2⟩, hb⟩; refine ⟨_, rfl, ?_⟩
  replace H1 := H1.mono hb
  replace hS1 := hS1.mono hb
  have hT := grow_trans hw hb
  clear hw hb
  have hw := Below.refl w1.heap.size w1
  have hl1 := H1.lt
  skip
  refine lw_varN rfl (by first | exact tyv_29 | exact tyv_30 | exact tyv_33 | exact tyv_34 | exact tyv_36 | exact tyv_37 | exact tyv_38 | exact tyv_39 | exact tyv_40 | exact tyv_41 | exact tyv_43 | exact tyv_44 | exact tyv_45 | exact tyv_46 | exact tyv_73 | exact tyv_74 | exact tyv_80 | exact tyv_81 | exact tyv_107 | exact tyv_108 | exact tyv_123 | exact tyv_146 | exact tyv_147 | exact tyv_148 | exact tyv_149) rfl (tZ rfl) (fun _ => rfl) rfl rfl ?_; intro N2 w2 hN2 H2 hb
  replace H2 : PT w2 N2 30 (encS (smallC NA2 NI2 NR2)) := H2
  replace hN2 := Nat.le_trans hw.size hN2
  replace hw := grow_trans hw hb
  clear hb
  repeat' (first | (refine is_cw ?_; first | (refine cw_seq ?_) | (refine cw_region ?_)) | (refine is_qw ?_; first | (with_reducible refine qw_then ?_)) | (refine lw_nil ?_) | ((refine is_bd ?_; first | (refine lw_pure rfl (tyB_39 rfl rfl rfl) ?_))))
  refine lw_bsN (vs := [.agg (encR ⟨1, 0, 5, 0⟩).toArray]) (cs := encR ⟨1, 0, 5, 0⟩) elemR rfl rfl rfl (by omega) (by omega) rfl (by simp [Value.cells, encR]) ?_; intro NX w3 hNX HX hb
  have hl2 := H2.lt
  replace H2 := H2.mono hb
  replace hw := grow_trans hw hb
  clear hb
  repeat' (first | ((refine is_fa ?_; first | (refine lw_pure rfl (pv_fa (tF rfl) rfl) ?_))))
  refine lw_store H2 (tZ rfl) rfl rfl rfl (by simp) ?_; intro w4 H2 hg hz4
  replace H2 : PT w4 N2 30 (encS { smallC NA2 NI2 NR2 with pr := some ⟨NX, 0, none⟩, mr := 1, cr := 1 }) := H2
  replace HX := pt_keptN HX hg (by omega)
  replace hw := st_hw hw hg hN2
  clear hg hz4
  have hS2 := (hS2.mono hw).setR (l := [⟨1, 0, 5, 0⟩]) rfl (HX.slR (xs := [⟨1, 0, 5, 0⟩]) encR_len rfl (by simp))
  replace hS1 := hS1.mono hw
  replace H1 := H1.mono hw
  replace hT := grow_trans hT hw
  clear hw HX
  have hw := Below.refl w4.heap.size w4
  repeat' (first | (refine is_cw ?_; first | (refine cw_seq ?_) | (refine cw_region ?_)) | (refine is_qw ?_; first | (with_reducible refine qw_then ?_)) | (refine lw_nil ?_))
  refine lw_call (f := 32) (by kernel_rfl) rfl rfl (small_c _) ?_; rintro e w1 ⟨⟨NA3, NI3, NR3, rfl, hS3⟩, hb⟩; refine ⟨_, rfl, ?_⟩
  replace hw := grow_trans hw hb
  replace H1 := H1.mono hw
  replace H2 := H2.mono hw
  replace hS1 := hS1.mono hw
  replace hS2 := hS2.mono hw
  replace hT := grow_trans hT hw
  clear hw hb
  have hw := Below.refl w1.heap.size w1
  have hl1 := H1.lt
  have hl2 := H2.lt
  skip
  refine lw_varN rfl (by first | exact tyv_29 | exact tyv_30 | exact tyv_33 | exact tyv_34 | exact tyv_36 | exact tyv_37 | exact tyv_38 | exact tyv_39 | exact tyv_40 | exact tyv_41 | exact tyv_43 | exact tyv_44 | exact tyv_45 | exact tyv_46 | exact tyv_73 | exact tyv_74 | exact tyv_80 | exact tyv_81 | exact tyv_107 | exact tyv_108 | exact tyv_123 | exact tyv_146 | exact tyv_147 | exact tyv_148 | exact tyv_149) rfl (tZ rfl) (fun _ => rfl) rfl rfl ?_; intro N3 w2 hN3 H3 hb
  replace H3 : PT w2 N3 30 (encS (smallC NA3 NI3 NR3)) := H3
  replace hN3 := Nat.le_trans hw.size hN3
  replace hw := grow_trans hw hb
  clear hb
  repeat' (first | (refine is_cw ?_; first | (refine cw_seq ?_) | (refine cw_region ?_)) | (refine is_qw ?_; first | (with_reducible refine qw_then ?_)) | (refine lw_nil ?_) | ((refine is_bd ?_; first | (refine lw_pure rfl (tyB_39 rfl rfl rfl) ?_))))
  refine lw_bsN (vs := [.agg (encR ⟨0, 0, -5, 0⟩).toArray, .agg (encR ⟨1, 0, 0, 5⟩).toArray]) (cs := encR ⟨0, 0, -5, 0⟩ ++ encR ⟨1, 0, 0, 5⟩) elemR rfl rfl rfl (by omega) (by omega) rfl (by simp [Value.cells, encR]) ?_; intro NY w3 hNY HY hb
  have hl3 := H3.lt
  replace H3 := H3.mono hb
  replace hw := grow_trans hw hb
  clear hb
  repeat' (first | ((refine is_fa ?_; first | (refine lw_pure rfl (pv_fa (tF rfl) rfl) ?_))))
  refine lw_store H3 (tZ rfl) rfl rfl rfl (by simp) ?_; intro w4 H3 hg hz4
  replace H3 : PT w4 N3 30 (encS { smallC NA3 NI3 NR3 with pr := some ⟨NY, 0, none⟩, mr := 2, cr := 2 }) := H3
  replace HY := pt_keptN HY hg (by omega)
  replace hw := st_hw hw hg hN3
  clear hg hz4
  have hS3 := (hS3.mono hw).setR (l := [⟨0, 0, -5, 0⟩, ⟨1, 0, 0, 5⟩]) rfl (HY.slR (xs := [⟨0, 0, -5, 0⟩, ⟨1, 0, 0, 5⟩]) encR_len rfl (by simp))
  replace hS1 := hS1.mono hw
  replace hS2 := hS2.mono hw
  replace H1 := H1.mono hw
  replace H2 := H2.mono hw
  replace hT := grow_trans hT hw
  clear hw HY
  have hw := Below.refl w4.heap.size w4
  repeat' (first | (refine is_cw ?_; first | (refine cw_seq ?_) | (refine cw_region ?_)) | (refine is_qw ?_; first | (with_reducible refine qw_then ?_)) | (refine lw_nil ?_))
  refine lw_call (f := 33) (by kernel_rfl) rfl rfl (empty_c _) ?_; rintro e w1 ⟨rfl, hb⟩; refine ⟨_, rfl, ?_⟩
  replace hw := grow_trans hw hb
  clear hb
  skip
  refine lw_varN rfl (by first | exact tyv_29 | exact tyv_30 | exact tyv_33 | exact tyv_34 | exact tyv_36 | exact tyv_37 | exact tyv_38 | exact tyv_39 | exact tyv_40 | exact tyv_41 | exact tyv_43 | exact tyv_44 | exact tyv_45 | exact tyv_46 | exact tyv_73 | exact tyv_74 | exact tyv_80 | exact tyv_81 | exact tyv_107 | exact tyv_108 | exact tyv_123 | exact tyv_146 | exact tyv_147 | exact tyv_148 | exact tyv_149) rfl (tZ rfl) (fun _ => rfl) rfl rfl ?_; intro N4 w5 hN4 H4 hb
  replace H4 : PT w5 N4 30 (encS emptyC) := H4
  replace hw := grow_trans hw hb
  clear hb
  replace hS1 := hS1.mono hw
  replace hS2 := hS2.mono hw
  replace hS3 := hS3.mono hw
  replace H1 := H1.mono hw
  replace H2 := H2.mono hw
  replace H3 := H3.mono hw
  replace hT := grow_trans hT hw
  clear hw
  have hw := Below.refl w5.heap.size w5
  repeat' (first | (refine is_cw ?_; first | (refine cw_seq ?_) | (refine cw_region ?_)) | (refine is_qw ?_; first | (with_reducible refine qw_then ?_)) | (refine lw_nil ?_) | ((refine is_load ?_; first | (refine lw_pure rfl (pv_loada (tA rfl) rfl (by first | exact PT.lda (H4.mono hw)) (by rfl)) ?_))))
  refine lw_call (f := 11) (by kernel_rfl) rfl rfl (may_t chk0 (emptyR _) emptyOk) ?_; rintro e w1 ⟨rfl, hb⟩; refine ⟨_, rfl, ?_⟩; replace hw := grow_trans hw hb; clear hb
  repeat' (first | (refine lw_pure rfl (pv_move rfl) ?_) | (refine is_guarded ?_; first | (refine lw_on rfl rfl rfl ?_)) | ((refine is_bin ?_; first | (refine lw_pure rfl (pv_eql rfl rfl) ?_))) | ((refine is_load ?_; first | (refine lw_pure rfl (pv_load (t1 rfl) rfl (by first | exact PT.ld0 (H4.mono hw) rfl | exact PT.ld (H4.mono hw) rfl | exact PT.ld0 (H1.mono hw) rfl | exact PT.ld (H1.mono hw) rfl)) ?_) | (refine lw_pure rfl (pv_loada (tA rfl) rfl (by first | exact PT.lda (H4.mono hw) | exact PT.lda (H1.mono hw)) (by rfl)) ?_))) | ((refine is_fa ?_; first | (refine lw_pure rfl (pv_fa (tF rfl) rfl) ?_))) | ((refine is_bi ?_; first | (refine lw_pure rfl (pv_lenl (tS rfl) rfl) ?_))) | (refine is_pk ?_; refine lw_pure rfl (pv_pick_t rfl rfl rfl) ?_))
  refine lw_call (f := 9) (by kernel_rfl) rfl rfl (check_e chk1 (hS1.mono hw) (smallOk _ (rows_in rfl))) ?_; rintro e w1 ⟨rfl, hb⟩; refine ⟨_, rfl, ?_⟩; replace hw := grow_trans hw hb; clear hb
  repeat' (first | (refine lw_pure rfl (pv_move rfl) ?_) | (refine is_guarded ?_; first | (refine lw_on rfl rfl rfl ?_)) | ((refine is_bin ?_; first | (refine lw_pure rfl (pv_seqlD rfl rfl) ?_))) | ((refine is_load ?_; first | (refine lw_pure rfl (pv_loada (tA rfl) rfl (by first | exact PT.lda (H2.mono hw)) (by rfl)) ?_))) | (refine is_pk ?_; refine lw_pure rfl (pv_pick_t rfl rfl rfl) ?_))
  refine lw_call (f := 9) (by kernel_rfl) rfl rfl (check_e chk2 (hS2.mono hw) (smallOk _ (rows_in rfl))) ?_; rintro e w1 ⟨rfl, hb⟩; refine ⟨_, rfl, ?_⟩; replace hw := grow_trans hw hb; clear hb
  repeat' (first | (refine lw_pure rfl (pv_move rfl) ?_) | (refine is_guarded ?_; first | (refine lw_on rfl rfl rfl ?_)) | ((refine is_bin ?_; first | (refine lw_pure rfl (pv_seqlD rfl rfl) ?_))) | ((refine is_load ?_; first | (refine lw_pure rfl (pv_loada (tA rfl) rfl (by first | exact PT.lda (H3.mono hw)) (by rfl)) ?_))) | (refine is_pk ?_; refine lw_pure rfl (pv_pick_t rfl rfl rfl) ?_))
  refine lw_call (f := 9) (by kernel_rfl) rfl rfl (check_e chk3 (hS3.mono hw) (smallOk _ (rows_in rfl))) ?_; rintro e w1 ⟨rfl, hb⟩; refine ⟨_, rfl, ?_⟩; replace hw := grow_trans hw hb; clear hb
  repeat' (first | (refine lw_pure rfl (pv_assign rfl) ?_) | (refine is_cw ?_; first | (refine cw_ret ?_)) | (refine is_qw ?_; first | (with_reducible refine qw_then ?_)) | (refine lw_nil ?_) | (refine is_guarded ?_; first | (refine lw_on rfl rfl rfl ?_)) | ((refine is_bin ?_; first | (refine lw_pure rfl (pv_seqlD rfl rfl) ?_))) | (refine is_pk ?_; refine lw_pure rfl (pv_pick_t rfl rfl rfl) ?_))
  exact qw_ret1 rfl rfl ⟨rfl, grow_trans hT hw⟩

structure StBg (t : Stt) : Prop where
  rl : t.rows.length ≤ 140737488355328
  ol : t.ords.length ≤ 140737488355328
  an : ∀ x ∈ t.accs, x.name.size ≤ 140737488355328
  im : ∀ x ∈ t.inss, x.name.size ≤ 140737488355328
  r : In64R t.rows
def sumX (l : List Auc) : Nat := (l.map fun a => 1 + a.bids.length).sum
structure Wg (t : Stt) (ka ki kx n : Nat) : Prop where
  z : t.rows.length + t.ords.length ≤ n
  f : n < 3000 → t.rows.length + t.ords.length + ka + ki ≤ n ∧ (∀ (j : Nat) x, j < ka → t.accs[j]? = some x → x.name.size ≤ n) ∧ (∀ (j : Nat) x, j < ki → t.inss[j]? = some x → x.name.size ≤ n) ∧ sumX (t.aucs.take kx) ≤ n
structure StSm (t : Stt) : Prop where
  ro : t.rows.length + t.ords.length < 1500
  al : t.accs.length < 1500
  il : t.inss.length < 1500
  an : ∀ x ∈ t.accs, x.name.size < 1500
  im : ∀ x ∈ t.inss, x.name.size < 1500
  xs : sumX t.aucs < 1500
end Go.Proofs.YtekomjnjddhfmaaGreat
namespace Go.Proofs.YtekomjnjddhfmaaGreat
open Go.ChangeShapes Go.WideShapes Go.ChangeAt Go.RowKit Go.Deep Go.WideElems Go.Joins
section
variable {H : Type} {enc : TypeId × Value → H} {P : Program} {w : World} {base : Nat} {held : Bool}
end
section
variable {H : Type} {enc : TypeId × Value → H} {W : World} {base : Nat} {held : Bool} {b0 : Nat} {v : Value} {d : DataW H} {p : List MemPlace} {B : Nat}
end
end Go.Proofs.YtekomjnjddhfmaaGreat
namespace Go.Proofs.YtekomjnjddhfmaaGreat
open Go.RowKit Go.PlainAid

section
variable {α : Type} {enc : α → List Value} {k nb : Nat} {P : Program} {n : Nat} {l : Fr} {w : World} {d : Option Nat} {ty : TypeId} {pos : String} {af : Array Edge} {g : Option (Nat × Bool)} {x y : Operand} {S T : TypeId} {base N : Nat} {ys : List α} {a : Option Addr} {m c : Nat} {Z : Value → World → Prop}
def Emp (T : TypeId) (base : Nat) (v : Value) (w : World) : Prop := ∃ N, base ≤ N ∧ v = .slice (some ⟨N, 0, none⟩) 0 0 ∧ w.heap[N]? = some (.cells #[] T (0, 0))
theorem Emp.mono {T : TypeId} {base : Nat} {v : Value} {w w' : World} (h : Emp T base v w) (hb : Below w.heap.size w w') : Emp T base v w' := by
  obtain ⟨N, h1, h2, h3⟩ := h
  exact ⟨N, h1, h2, (hb.block N (Array.getElem?_eq_some_iff.1 h3).1).trans h3⟩
end
section
variable {α : Type} {enc : α → List Value} {k : Nat} {P : Program} {n : Nat} {l : Fr} {w : World} {d : Option Nat} {ty : TypeId} {pos : String} {af : Array Edge} {gd : Option (Nat × Bool)} {T t : TypeId} {x y : Operand} {base g cap : Nat} {xs : List α} {Z : Value → World → Prop}
theorem act_storeF (hk : ∀ x, (enc x).length = k) (ht : sizeB P t 1 = true) {i f o : Nat} {v : Value} {a u : α} (hx : ev l x = some (.pointer (some ⟨g, o, none⟩))) (ho : o = i * k + f) (hy : ev l y = some v) (h1 : v.oneCell' = true) (hO : Own enc k T base w (.slice (some ⟨g, 0, none⟩) xs.length cap) xs) (ha : xs[i]? = some a) (hu : enc u = (enc a).set f v) (hf : f < k)
    (h : ∀ w', Own enc k T base w' (.slice (some ⟨g, 0, none⟩) xs.length cap) (xs.set i u) → w.grownBy w' (some g) → w'.heap.size = w.heap.size → Z undef w') : Act1 P n l ⟨d, .store t x y, ty, pos, af, gd⟩ w Z := by
  subst ho
  obtain ⟨cur, hb, hg, hle, hmax, hsz, htk⟩ := Own.heap' hO
  have hi : i < xs.length := (List.getElem?_eq_some_iff.1 ha).1
  have hik : i * k + f < xs.length * k := by
    have := Nat.mul_le_mul_right k (show i + 1 ≤ xs.length from hi); rw [Nat.add_mul, Nat.one_mul] at this; omega
  have hck : xs.length * k ≤ cap * k := Nat.mul_le_mul_right k hle
  have hp : PT w g T cur.toList := by unfold PT; simpa using hg
  obtain ⟨w', a1, b1, c1, e1⟩ := sv_store (P := P) (n := n) (l := l) (d := d) (ty := ty) (pos := pos) (af := af) (g := gd) hp ht hx hy h1 (by rw [Array.length_toList, hsz]; omega)
  refine act_sv a1 (h w' ⟨by rw [flat_len enc k hk, List.length_set], Or.inr ⟨g, cap, (cur.toList.set (i * k + f) v).toArray, by rw [List.length_set], hb, b1, by rw [List.length_set]; exact hle, hmax, by simp [hsz], ?_⟩⟩ c1 e1)
  rw [List.length_set, flat_set hk ha hu hf, ← htk]
  simp only [List.take_set]
end
theorem own_sl {α : Type} {enc : α → List Value} {k : Nat} {T : TypeId} {base : Nat} {w : World} {a : Option Addr} {m c : Nat} {xs : List α} (hk : ∀ x, (enc x).length = k) (h : Own enc k T base w (.slice a m c) xs) : xs.length = m ∧ SlR enc k w a c xs := by
  obtain ⟨a', c', hv, hs, -⟩ := Own.slR hk h
  injection hv with e1 e2 e3
  subst e1 e2 e3
  exact ⟨rfl, hs⟩
theorem own_shape {α : Type} {enc : α → List Value} {k : Nat} {T : TypeId} {base : Nat} {w : World} {v : Value} {xs : List α} (hk : ∀ x, (enc x).length = k) (h : Own enc k T base w v xs) : ∃ a c, v = .slice a xs.length c := by
  obtain ⟨a, c, hv, -, -⟩ := Own.slR hk h
  exact ⟨a, c, hv⟩
theorem own_ne_ptN {α : Type} {enc : α → List Value} {k : Nat} {T T' : TypeId} {B N : Nat} {w : World} {v : Value} {xs : List α} {cs : List Value} (h : Own enc k T B w v xs) (hp : PT w N T' cs) (hT : T ≠ T') : v.ownBlock ≠ some N := by
  obtain ⟨_, h2⟩ := h
  rcases h2 with ⟨rfl, _⟩ | ⟨g, cap, cur, rfl, _, hg, _⟩
  · intro e; cases e
  · intro e
    have e : g = N := by simpa [Value.ownBlock] using e
    subst e
    have h1 : PT w g T cur.toList := by unfold PT; simpa using hg
    unfold PT at h1 hp
    rw [h1] at hp
    injection hp with hp; injection hp with _ h2 _
    exact hT h2
theorem own_own_ne {α β : Type} {enc : α → List Value} {enc' : β → List Value} {k k' B B' : Nat} {T T' : TypeId} {w : World} {v v' : Value} {xs : List α} {ys : List β} (h : Own enc k T B w v xs) (h' : Own enc' k' T' B' w v' ys) (hT : T ≠ T') : v.ownBlock = none ∨ v.ownBlock ≠ v'.ownBlock := by
  rcases h.2 with ⟨rfl, _⟩ | ⟨g, cap, cur, rfl, _, hg, _⟩
  · exact Or.inl rfl
  · rcases h'.2 with ⟨rfl, _⟩ | ⟨g', cap', cur', rfl, _, hg', _⟩
    · exact Or.inr (fun e => by cases e)
    · refine Or.inr fun e => ?_
      have e : g = g' := by simpa [Value.ownBlock] using e
      subst e
      rw [hg] at hg'
      injection hg' with hg'; injection hg' with _ h2 _
      exact hT h2
structure OwA (base : Nat) (w : World) (x : AucC) (a : Auc) : Prop where
  h : x.h = a.h
  o : Own encD 2 46 base w (.slice x.ba x.bm x.bc) a.bids
structure OwS (base : Nat) (w : World) (s : SttC) (t : Stt) (xs : List AucC) : Prop where
  n : s.clock = t.clock ∧ s.fee = t.fee ∧ s.nord = t.nord ∧ s.nauc = t.nauc
  A : Own encA 2 34 base w (.slice s.pa s.ma s.ca) t.accs
  I : Own encN 3 37 base w (.slice s.pi s.mi s.ci) t.inss
  R : Own encR 4 39 base w (.slice s.pr s.mr s.cr) t.rows
  O : Own encO 6 41 base w (.slice s.po s.mo s.co) t.ords
  X : Own encC 9 44 base w (.slice s.px s.mx s.cx) xs
  L : xs.length = t.aucs.length
  B : ∀ (j : Nat) x a, xs[j]? = some x → t.aucs[j]? = some a → OwA base w x a
theorem OwS.stR {base : Nat} {w : World} {s : SttC} {t : Stt} {xs : List AucC} (h : OwS base w s t xs) : StR w s t := by
  obtain ⟨a1, a2⟩ := own_sl encA_len h.A
  obtain ⟨i1, i2⟩ := own_sl encN_len h.I
  obtain ⟨r1, r2⟩ := own_sl encR_len h.R
  obtain ⟨o1, o2⟩ := own_sl encO_len h.O
  obtain ⟨x1, x2⟩ := own_sl encC_len h.X
  refine ⟨h.n, a1, i1, r1, o1, h.L.symm.trans x1, a2, i2, r2, o2, xs, x2, h.L, fun j x a hx ha => ?_⟩
  obtain ⟨q1, q2⟩ := h.B j x a hx ha
  obtain ⟨b1, b2⟩ := own_sl encD_len q2
  exact ⟨q1, b1, b2⟩

theorem own_shapeM {α : Type} {enc : α → List Value} {k : Nat} {T : TypeId} {base : Nat} {w : World} {v : Value} {xs : List α} {m : Nat} (hk : ∀ x, (enc x).length = k) (h : Own enc k T base w v xs) (hm : xs.length = m) : ∃ a c, v = .slice a m c := by
  obtain ⟨a, c, hv⟩ := own_shape hk h
  exact ⟨a, c, by rw [hv, hm]⟩
theorem own_some {α : Type} {enc : α → List Value} {k : Nat} {T : TypeId} {base : Nat} {w : World} {a : Option Addr} {m c : Nat} {xs : List α} (h : Own enc k T base w (.slice a m c) xs) (h0 : 0 < m) : ∃ g, a = some ⟨g, 0, none⟩ := by
  obtain ⟨h1, h2⟩ := h
  rcases h2 with ⟨hv, h3⟩ | ⟨g, cap, cur, hv, _⟩
  · injection hv with _ e2 _; omega
  · injection hv with e1 _ _; exact ⟨g, e1⟩
structure OwI (base N2 N3 : Nat) (w1 : World) (t : Stt) (aA aI aR aO aX : Option Addr) (cA cI cR cO cX : Nat) (k : Nat) (xs : List AucC) (w : World) : Prop where
  b : Below w1.heap.size w1 w
  h2 : ∃ cs, PT w N2 30 cs ∧ cs.length = 9
  h3 : PT w N3 30 [.int .i64 t.clock, .int .i64 t.fee, .int .i64 t.nord, .int .i64 t.nauc, .slice aA t.accs.length cA, .slice aI t.inss.length cI, .slice aR t.rows.length cR, .slice aO t.ords.length cO, .slice aX t.aucs.length cX]
  A : Own encA 2 34 base w (.slice aA t.accs.length cA) t.accs
  I : Own encN 3 37 base w (.slice aI t.inss.length cI) t.inss
  R : Own encR 4 39 base w (.slice aR t.rows.length cR) t.rows
  O : Own encO 6 41 base w (.slice aO t.ords.length cO) t.ords
  X : Own encC 9 44 base w (.slice aX t.aucs.length cX) xs
  L : xs.length = t.aucs.length
  B : ∀ (j : Nat) x a, xs[j]? = some x → t.aucs[j]? = some a → x.h = a.h ∧ (j < k → Own encD 2 46 base w (.slice x.ba x.bm x.bc) a.bids)

theorem own_pt {α : Type} {enc : α → List Value} {k : Nat} {T : TypeId} {base N m : Nat} {w : World} {xs : List α} (h : PT w N T (xs.flatMap enc)) (hk : ∀ x, (enc x).length = k) (hb : base ≤ N) (hm : xs.length = m) (hmx : m ≤ maxLen) : Own enc k T base w (.slice (some ⟨N, 0, none⟩) m m) xs := by
  subst hm
  have hl : (xs.flatMap enc).length = xs.length * k := by
    clear h hmx
    induction xs with
    | nil => simp
    | cons x r ih => rw [List.flatMap_cons, List.length_append, ih, hk, List.length_cons, Nat.succ_mul]; omega
  exact ⟨hl, .inr ⟨N, xs.length, _, rfl, hb, h, Nat.le_refl _, hmx, by simpa using hl, by show (xs.flatMap enc).take (xs.length * k) = _; exact List.take_of_length_le (Nat.le_of_eq hl)⟩⟩
theorem pt_keptO {α : Type} {enc : α → List Value} {k : Nat} {T T' : TypeId} {B N : Nat} {w w' : World} {v : Value} {xs : List α} {cs : List Value} (h : Own enc k T B w v xs) (hp : PT w N T' cs) (hT : T ≠ T') (hg : w.grownBy w' v.ownBlock) : PT w' N T' cs := (hg.block N hp.lt (fun e => own_ne_ptN h hp hT e.symm)).trans hp
theorem own_keptO {α β : Type} {enc : α → List Value} {enc' : β → List Value} {k k' B B' : Nat} {T T' : TypeId} {w w' : World} {v v' : Value} {xs : List α} {ys : List β} (h : Own enc k T B w v xs) (h' : Own enc' k' T' B' w v' ys) (hT : T ≠ T') (hg : w.grownBy w' v'.ownBlock) : Own enc k T B w' v xs := h.kept hg (own_own_ne h h' hT)
section
variable {base N : Nat} {w w' : World} {s : SttC} {t : Stt} {xs : List AucC} {cs : List Value}
theorem OwS.dn {B : Nat} (h : OwS base w s t xs) (hB : B ≤ base) : OwS B w s t xs := ⟨h.n, h.A.weaken hB, h.I.weaken hB, h.R.weaken hB, h.O.weaken hB, h.X.weaken hB, h.L, fun j x a hx ha => ⟨(h.B j x a hx ha).h, (h.B j x a hx ha).o.weaken hB⟩⟩
theorem OwS.mo (h : OwS base w s t xs) (hb : Below w.heap.size w w') : OwS base w' s t xs := ⟨h.n, h.A.mono hb, h.I.mono hb, h.R.mono hb, h.O.mono hb, h.X.mono hb, h.L, fun j x a hx ha => ⟨(h.B j x a hx ha).h, (h.B j x a hx ha).o.mono hb⟩⟩
theorem OwS.st (h : OwS base w s t xs) (hp : PT w N 30 cs) (hg : w.grownBy w' (some N)) : OwS base w' s t xs :=
  ⟨h.n, h.A.kept hg (Or.inr (own_ne_ptN h.A hp (by decide))), h.I.kept hg (Or.inr (own_ne_ptN h.I hp (by decide))), h.R.kept hg (Or.inr (own_ne_ptN h.R hp (by decide))), h.O.kept hg (Or.inr (own_ne_ptN h.O hp (by decide))), h.X.kept hg (Or.inr (own_ne_ptN h.X hp (by decide))), h.L, fun j x a hx ha => ⟨(h.B j x a hx ha).h, (h.B j x a hx ha).o.kept hg (Or.inr (own_ne_ptN (h.B j x a hx ha).o hp (by decide)))⟩⟩
theorem OwS.num (h : OwS base w s t xs) (a b c d : Int) : OwS base w { s with clock := a, fee := b, nord := c, nauc := d } { t with clock := a, fee := b, nord := c, nauc := d } xs := ⟨⟨rfl, rfl, rfl, rfl⟩, h.A, h.I, h.R, h.O, h.X, h.L, h.B⟩
variable {a : Option Addr} {m c : Nat}
theorem OwS.toA (h : OwS base w s t xs) {l : List Acc} (o : Own encA 2 34 base w' (.slice a m c) l) (hg : w.grownBy w' (Value.slice s.pa s.ma s.ca).ownBlock) : OwS base w' { s with pa := a, ma := m, ca := c } { t with accs := l } xs :=
  ⟨h.n, o, own_keptO h.I h.A (by decide) hg, own_keptO h.R h.A (by decide) hg, own_keptO h.O h.A (by decide) hg, own_keptO h.X h.A (by decide) hg, h.L, fun j x a hx ha => ⟨(h.B j x a hx ha).h, own_keptO (h.B j x a hx ha).o h.A (by decide) hg⟩⟩
theorem OwS.toI (h : OwS base w s t xs) {l : List Ins} (o : Own encN 3 37 base w' (.slice a m c) l) (hg : w.grownBy w' (Value.slice s.pi s.mi s.ci).ownBlock) : OwS base w' { s with pi := a, mi := m, ci := c } { t with inss := l } xs :=
  ⟨h.n, own_keptO h.A h.I (by decide) hg, o, own_keptO h.R h.I (by decide) hg, own_keptO h.O h.I (by decide) hg, own_keptO h.X h.I (by decide) hg, h.L, fun j x a hx ha => ⟨(h.B j x a hx ha).h, own_keptO (h.B j x a hx ha).o h.I (by decide) hg⟩⟩
theorem OwS.toR (h : OwS base w s t xs) {l : List Row} (o : Own encR 4 39 base w' (.slice a m c) l) (hg : w.grownBy w' (Value.slice s.pr s.mr s.cr).ownBlock) : OwS base w' { s with pr := a, mr := m, cr := c } { t with rows := l } xs :=
  ⟨h.n, own_keptO h.A h.R (by decide) hg, own_keptO h.I h.R (by decide) hg, o, own_keptO h.O h.R (by decide) hg, own_keptO h.X h.R (by decide) hg, h.L, fun j x a hx ha => ⟨(h.B j x a hx ha).h, own_keptO (h.B j x a hx ha).o h.R (by decide) hg⟩⟩
theorem OwS.toO (h : OwS base w s t xs) {l : List Ord} (o : Own encO 6 41 base w' (.slice a m c) l) (hg : w.grownBy w' (Value.slice s.po s.mo s.co).ownBlock) : OwS base w' { s with po := a, mo := m, co := c } { t with ords := l } xs :=
  ⟨h.n, own_keptO h.A h.O (by decide) hg, own_keptO h.I h.O (by decide) hg, own_keptO h.R h.O (by decide) hg, o, own_keptO h.X h.O (by decide) hg, h.L, fun j x a hx ha => ⟨(h.B j x a hx ha).h, own_keptO (h.B j x a hx ha).o h.O (by decide) hg⟩⟩
theorem OwS.toX (h : OwS base w s t xs) {ys : List AucC} {us : List Auc} (o : Own encC 9 44 base w' (.slice a m c) ys) (hg : w.grownBy w' (Value.slice s.px s.mx s.cx).ownBlock) (L : ys.length = us.length) (B : ∀ (j : Nat) x a, ys[j]? = some x → us[j]? = some a → OwA base w x a) : OwS base w' { s with px := a, mx := m, cx := c } { t with aucs := us } ys :=
  ⟨h.n, own_keptO h.A h.X (by decide) hg, own_keptO h.I h.X (by decide) hg, own_keptO h.R h.X (by decide) hg, own_keptO h.O h.X (by decide) hg, o, L, fun j x a hx ha => ⟨(B j x a hx ha).h, own_keptO (B j x a hx ha).o h.X (by decide) hg⟩⟩
theorem OwS.nA (h : OwS base w s t xs) {l : List Acc} (o : Own encA 2 34 base w (.slice a m c) l) : OwS base w { s with pa := a, ma := m, ca := c } { t with accs := l } xs := ⟨h.n, o, h.I, h.R, h.O, h.X, h.L, h.B⟩
theorem OwS.nI (h : OwS base w s t xs) {l : List Ins} (o : Own encN 3 37 base w (.slice a m c) l) : OwS base w { s with pi := a, mi := m, ci := c } { t with inss := l } xs := ⟨h.n, h.A, o, h.R, h.O, h.X, h.L, h.B⟩
theorem OwS.nR (h : OwS base w s t xs) {l : List Row} (o : Own encR 4 39 base w (.slice a m c) l) : OwS base w { s with pr := a, mr := m, cr := c } { t with rows := l } xs := ⟨h.n, h.A, h.I, o, h.O, h.X, h.L, h.B⟩
theorem OwS.nO (h : OwS base w s t xs) {l : List Ord} (o : Own encO 6 41 base w (.slice a m c) l) : OwS base w { s with po := a, mo := m, co := c } { t with ords := l } xs := ⟨h.n, h.A, h.I, h.R, o, h.X, h.L, h.B⟩
theorem OwS.nX (h : OwS base w s t xs) {ys : List AucC} {us : List Auc} (o : Own encC 9 44 base w (.slice a m c) ys) (L : ys.length = us.length) (B : ∀ (j : Nat) x a, ys[j]? = some x → us[j]? = some a → OwA base w x a) : OwS base w { s with px := a, mx := m, cx := c } { t with aucs := us } ys := ⟨h.n, h.A, h.I, h.R, h.O, o, L, B⟩
end
abbrev fullC (gA cA gI gR gO gX cX : Nat) : SttC := ⟨9, 100, 4, 8, some ⟨gA, 0, none⟩, 3, cA, some ⟨gI, 0, none⟩, 1, 1, some ⟨gR, 0, none⟩, 6, 6, some ⟨gO, 0, none⟩, 2, 2, some ⟨gX, 0, none⟩, 2, cX⟩
abbrev auc1 : AuH := ⟨2, 1, 1, false, 10, 7, 1, 20⟩
abbrev auc2 : AuH := ⟨7, 2, 1, true, 1, 2, 0, 5⟩
abbrev fullX (g1 g2 : Nat) : List AucC := [⟨auc1, some ⟨g1, 0, none⟩, 1, 1⟩, ⟨auc2, some ⟨g2, 0, none⟩, 1, 1⟩]
abbrev accB : Acc := ⟨⟨#[98]⟩, true⟩
abbrev accC : Acc := ⟨⟨#[99]⟩, false⟩
abbrev rows0 : List Row := [⟨0, 0, -100, 0⟩, ⟨0, 1, -30, 0⟩, ⟨1, 0, 5, 45⟩, ⟨1, 1, 0, 10⟩, ⟨2, 0, 43, 7⟩, ⟨2, 1, 13, 7⟩]
abbrev rows1 : List Row := [⟨0, 0, -100, 0⟩, ⟨0, 1, -30, 0⟩, ⟨1, 0, 5, 45⟩, ⟨1, 1, 0, 10⟩, ⟨2, 0, 43, 7⟩, ⟨2, 1, 12, 8⟩]
abbrev ord1 : Ord := ⟨1, 1, 1, 1, 10, 4⟩
abbrev ord2 : Ord := ⟨3, 2, 1, 2, 12, 7⟩
abbrev fullT : Stt := ⟨9, 100, 4, 8, [accA, accB, accC], [insG], rows1, [ord1, ord2], [⟨auc1, [⟨2, 7⟩]⟩, ⟨auc2, [⟨1, 5⟩]⟩]⟩
theorem emptyO (base : Nat) (w : World) : OwS base w emptyC emptyT [] := ⟨⟨rfl, rfl, rfl, rfl⟩, Own.nil _, Own.nil _, Own.nil _, Own.nil _, Own.nil _, rfl, fun j x a hx _ => by simp at hx⟩
set_option maxRecDepth 20000 in
set_option maxHeartbeats 4000000 in
theorem small_o (w : World) : Calls Tryz.prog 32 #[] w fun e w' => (∃ NA NI NR, e = .returned ((.agg (encS (smallC NA NI NR)).toArray)) ∧ OwS w.heap.size w' (smallC NA NI NR) smallT []) ∧ Below w.heap.size w w' := by
  have hw := Below.refl w.heap.size w
  refine fn_enter 14 Tryz.func32 rfl rfl rfl ?_
  repeat' (first | (refine is_cw ?_; first | (refine cw_seq ?_) | (refine cw_region ?_)))
  refine lw_allocN rfl (by first | exact tyv_29 | exact tyv_30 | exact tyv_33 | exact tyv_34 | exact tyv_36 | exact tyv_37 | exact tyv_38 | exact tyv_39 | exact tyv_40 | exact tyv_41 | exact tyv_43 | exact tyv_44 | exact tyv_45 | exact tyv_46 | exact tyv_73 | exact tyv_74 | exact tyv_80 | exact tyv_81 | exact tyv_107 | exact tyv_108 | exact tyv_123 | exact tyv_146 | exact tyv_147 | exact tyv_148 | exact tyv_149) rfl ?_; intro N0 w0 hN0 H0 hb
  replace hw := grow_trans hw hb
  clear hb
  repeat' (first | (refine is_cw ?_; first | (refine cw_seq ?_) | (refine cw_region ?_)) | (refine is_qw ?_; first | (with_reducible refine qw_then ?_)) | (refine lw_nil ?_))
  refine lw_call (f := 33) (by kernel_rfl) rfl rfl (empty_c _) ?_; rintro e w1 ⟨rfl, hb⟩; refine ⟨_, rfl, ?_⟩
  replace H0 := H0.mono hb
  have hl0 := H0.lt
  replace hw := grow_trans hw hb
  clear hb
  skip
  refine lw_varN rfl (by first | exact tyv_29 | exact tyv_30 | exact tyv_33 | exact tyv_34 | exact tyv_36 | exact tyv_37 | exact tyv_38 | exact tyv_39 | exact tyv_40 | exact tyv_41 | exact tyv_43 | exact tyv_44 | exact tyv_45 | exact tyv_46 | exact tyv_73 | exact tyv_74 | exact tyv_80 | exact tyv_81 | exact tyv_107 | exact tyv_108 | exact tyv_123 | exact tyv_146 | exact tyv_147 | exact tyv_148 | exact tyv_149) rfl (tZ rfl) (fun _ => rfl) rfl rfl ?_; intro N1 w2 hN1 H1 hb
  replace H1 : PT w2 N1 30 (encS emptyC) := H1
  replace H0 := H0.mono hb
  have hn01 : N0 ≠ N1 := by omega
  replace hN1 := Nat.le_trans hw.size hN1
  replace hw := grow_trans hw hb
  clear hb
  have hO := emptyO w.heap.size w2
  repeat' (first | (refine is_cw ?_; first | (refine cw_seq ?_) | (refine cw_region ?_)) | (refine is_qw ?_; first | (with_reducible refine qw_then ?_)) | (refine lw_nil ?_) | ((refine is_bd ?_; first | (refine lw_pure rfl (tyB_34 rfl rfl rfl) ?_))))
  refine lw_bsN (vs := [.agg (encA accA).toArray]) (cs := encA accA) elemA rfl rfl rfl (by omega) (by omega) rfl (by simp [Value.cells, encA]) ?_; intro NA w3 hNA HA hb
  replace hNA := Nat.le_trans hw.size hNA
  replace H0 := H0.mono hb; replace H1 := H1.mono hb; replace hO := hO.mo hb; replace hw := grow_trans hw hb; clear hb
  have oA := own_pt (xs := [accA]) (m := 1) HA encA_len hNA rfl (by simp [maxLen])
  repeat' (first | ((refine is_fa ?_; first | (refine lw_pure rfl (pv_fa (tF rfl) rfl) ?_))))
  refine lw_store H1 (tZ rfl) rfl rfl rfl (by simp) ?_; intro w5 H1' hg hz
  replace hO := OwS.st ((hO.nA oA)) H1 hg
  replace H0 := pt_keptN H0 hg hn01
  replace hw := st_hw hw hg hN1
  replace H1 := H1'
  replace H1 : PT w5 N1 30 (encS (⟨0, 0, 1, 1, some ⟨NA, 0, none⟩, 1, 1, none, 0, 0, none, 0, 0, none, 0, 0, none, 0, 0⟩)) := H1
  dsimp only at hO
  clear hg hz H1'
  repeat' (first | (refine is_cw ?_; first | (refine cw_seq ?_) | (refine cw_region ?_)) | (refine is_qw ?_; first | (with_reducible refine qw_then ?_)) | (refine lw_nil ?_) | ((refine is_bd ?_; first | (refine lw_pure rfl (tyB_37 rfl rfl rfl) ?_))))
  refine lw_bsN (vs := [.agg (encN insG).toArray]) (cs := encN insG) elemIn rfl rfl rfl (by omega) (by omega) rfl (by simp [Value.cells, encN]) ?_; intro NI w3 hNI HI hb
  replace hNI := Nat.le_trans hw.size hNI
  replace H0 := H0.mono hb; replace H1 := H1.mono hb; replace hO := hO.mo hb; replace hw := grow_trans hw hb; clear hb
  have oI := own_pt (xs := [insG]) (m := 1) HI encN_len hNI rfl (by simp [maxLen])
  repeat' (first | ((refine is_fa ?_; first | (refine lw_pure rfl (pv_fa (tF rfl) rfl) ?_))))
  refine lw_store H1 (tZ rfl) rfl rfl rfl (by simp) ?_; intro w5 H1' hg hz
  replace hO := OwS.st ((hO.nI oI)) H1 hg
  replace H0 := pt_keptN H0 hg hn01
  replace hw := st_hw hw hg hN1
  replace H1 := H1'
  replace H1 : PT w5 N1 30 (encS (⟨0, 0, 1, 1, some ⟨NA, 0, none⟩, 1, 1, some ⟨NI, 0, none⟩, 1, 1, none, 0, 0, none, 0, 0, none, 0, 0⟩)) := H1
  dsimp only at hO
  clear hg hz H1'
  repeat' (first | (refine is_cw ?_; first | (refine cw_seq ?_) | (refine cw_region ?_)) | (refine is_qw ?_; first | (with_reducible refine qw_then ?_)) | (refine lw_nil ?_) | ((refine is_bd ?_; first | (refine lw_pure rfl (tyB_39 rfl rfl rfl) ?_))))
  refine lw_bsN (vs := [.agg (encR ⟨0, 0, -5, 0⟩).toArray, .agg (encR ⟨1, 0, 5, 0⟩).toArray]) (cs := encR ⟨0, 0, -5, 0⟩ ++ encR ⟨1, 0, 5, 0⟩) elemR rfl rfl rfl (by omega) (by omega) rfl (by simp [Value.cells, encR]) ?_; intro NR w3 hNR HR hb
  replace hNR := Nat.le_trans hw.size hNR
  replace H0 := H0.mono hb; replace H1 := H1.mono hb; replace hO := hO.mo hb; replace hw := grow_trans hw hb; clear hb
  have oR := own_pt (xs := [⟨0, 0, -5, 0⟩, ⟨1, 0, 5, 0⟩]) (m := 2) HR encR_len hNR rfl (by simp [maxLen])
  repeat' (first | ((refine is_fa ?_; first | (refine lw_pure rfl (pv_fa (tF rfl) rfl) ?_))))
  refine lw_store H1 (tZ rfl) rfl rfl rfl (by simp) ?_; intro w5 H1' hg hz
  replace hO := OwS.st ((hO.nR oR)) H1 hg
  replace H0 := pt_keptN H0 hg hn01
  replace hw := st_hw hw hg hN1
  replace H1 := H1'
  replace H1 : PT w5 N1 30 (encS (smallC NA NI NR)) := H1
  dsimp only at hO
  clear hg hz H1'
  repeat' (first | (refine is_cw ?_; first | (refine cw_seq ?_) | (refine cw_region ?_)) | (refine is_qw ?_; first | (with_reducible refine qw_then ?_)) | (refine lw_nil ?_))
  repeat' (first | ((refine is_load ?_; first | (refine lw_pure rfl (pv_loada (tA rfl) rfl (by first | exact PT.lda H1) (by rfl)) ?_))))
  refine lw_storea (vs := encS (smallC NA NI NR)) H0 (tZ rfl) rfl rfl rfl rfl (by simp [Value.oneCell']) ?_; intro w9 H9 hg hz
  replace hO := hO.st H0 hg
  replace hw := st_hw hw hg hN0
  repeat' (first | (refine is_cw ?_; first | (refine cw_ret ?_)) | (refine is_qw ?_; first | (with_reducible refine qw_then ?_)) | (refine lw_nil ?_))
  exact qw_retc rfl rfl (agg_ld (tA rfl) rfl (fun i u hu => H9.ld0 hu)) ⟨⟨NA, NI, NR, rfl, hO⟩, hw⟩
set_option maxRecDepth 20000 in
set_option maxHeartbeats 8000000 in
theorem full_c (w : World) : Calls Tryz.prog 10 #[] w fun e w' => (∃ gA cA gI gR gO gX cX g1 g2, g1 ≠ g2 ∧ e = .returned ((.agg (encS (fullC gA cA gI gR gO gX cX)).toArray)) ∧ OwS w.heap.size w' (fullC gA cA gI gR gO gX cX) fullT (fullX g1 g2)) ∧ Below w.heap.size w w' := by
  have hw := Below.refl w.heap.size w
  refine fn_enter 46 Tryz.func10 rfl rfl rfl ?_
  repeat' (first | (refine is_cw ?_; first | (refine cw_seq ?_) | (refine cw_region ?_)))
  refine lw_allocN rfl (by first | exact tyv_29 | exact tyv_30 | exact tyv_33 | exact tyv_34 | exact tyv_36 | exact tyv_37 | exact tyv_38 | exact tyv_39 | exact tyv_40 | exact tyv_41 | exact tyv_43 | exact tyv_44 | exact tyv_45 | exact tyv_46 | exact tyv_73 | exact tyv_74 | exact tyv_80 | exact tyv_81 | exact tyv_107 | exact tyv_108 | exact tyv_123 | exact tyv_146 | exact tyv_147 | exact tyv_148 | exact tyv_149) rfl ?_; intro N0 w0 hN0 H0 hb
  replace hw := grow_trans hw hb
  clear hb
  repeat' (first | (refine is_cw ?_; first | (refine cw_seq ?_) | (refine cw_region ?_)) | (refine is_qw ?_; first | (with_reducible refine qw_then ?_)) | (refine lw_nil ?_))
  refine lw_call (f := 32) (by kernel_rfl) rfl rfl (small_o _) ?_; rintro e w1 ⟨⟨NA, gI, NR, rfl, hO⟩, hb⟩; refine ⟨_, rfl, ?_⟩
  replace hO := hO.dn hw.size
  replace H0 := H0.mono hb
  have hl0 := H0.lt
  replace hw := grow_trans hw hb
  clear hb
  skip
  refine lw_varN rfl (by first | exact tyv_29 | exact tyv_30 | exact tyv_33 | exact tyv_34 | exact tyv_36 | exact tyv_37 | exact tyv_38 | exact tyv_39 | exact tyv_40 | exact tyv_41 | exact tyv_43 | exact tyv_44 | exact tyv_45 | exact tyv_46 | exact tyv_73 | exact tyv_74 | exact tyv_80 | exact tyv_81 | exact tyv_107 | exact tyv_108 | exact tyv_123 | exact tyv_146 | exact tyv_147 | exact tyv_148 | exact tyv_149) rfl (tZ rfl) (fun _ => rfl) rfl rfl ?_; intro N1 w2 hN1 H1 hb
  replace H1 : PT w2 N1 30 (encS (smallC NA gI NR)) := H1
  replace H0 := H0.mono hb
  have hn01 : N0 ≠ N1 := by omega
  replace hN1 := Nat.le_trans hw.size hN1
  replace hO := hO.mo hb
  replace hw := grow_trans hw hb
  clear hb
  repeat' (first | (refine is_cw ?_; first | (refine cw_seq ?_) | (refine cw_region ?_)) | (refine is_qw ?_; first | (with_reducible refine qw_then ?_)) | (refine lw_nil ?_) | ((refine is_load ?_; first | (refine lw_pure rfl (pv_load (t1 rfl) rfl (by first | exact PT.ld0 H1 rfl | exact PT.ld H1 rfl)) ?_))) | ((refine is_fa ?_; first | (refine lw_pure rfl (pv_fa (tF rfl) rfl) ?_))) | ((refine is_bd ?_; first | (refine lw_pure rfl (tyB_34 rfl rfl rfl) ?_))))
  refine lw_bsN (vs := [.agg (encA accB).toArray, .agg (encA accC).toArray]) (cs := encA accB ++ encA accC) elemA rfl rfl rfl (by omega) (by omega) rfl (by simp [Value.cells, encA]) ?_; intro NB w3 hNB HB hb
  replace H0 := H0.mono hb; replace H1 := H1.mono hb; replace hO := hO.mo hb; replace hw := grow_trans hw hb; clear hb
  skip
  refine lw_app elemA encA_len encA_one rfl rfl rfl hO.A (HB.slR (xs := [accB, accC]) encA_len rfl (by omega)) rfl hw.size (by simp) (by simp [maxLen]) ?_; intro vm w4 oA hg hb
  obtain ⟨aA, cA, rfl⟩ := own_shapeM (m := 3) encA_len oA rfl
  obtain ⟨gA, rfl⟩ := own_some oA (by omega)
  replace H0 := pt_keptO hO.A H0 (by decide) hg
  replace H1 := pt_keptO hO.A H1 (by decide) hg
  replace hO := hO.toA oA hg
  replace hw := hw.trans hb
  clear hg hb
  repeat' (first | ((refine is_fa ?_; first | (refine lw_pure rfl (pv_fa (tF rfl) rfl) ?_))))
  refine lw_store H1 (tZ rfl) rfl rfl rfl (by simp) ?_; intro w5 H1' hg hz
  replace hO := OwS.st (hO) H1 hg
  replace H0 := pt_keptN H0 hg hn01
  replace hw := st_hw hw hg hN1
  replace H1 := H1'
  replace H1 : PT w5 N1 30 (encS (⟨0, 0, 1, 1, some ⟨gA, 0, none⟩, 3, cA, some ⟨gI, 0, none⟩, 1, 1, some ⟨NR, 0, none⟩, 2, 2, none, 0, 0, none, 0, 0⟩)) := H1
  dsimp only at hO
  clear hg hz H1'
  repeat' (first | (refine is_cw ?_; first | (refine cw_seq ?_) | (refine cw_region ?_)) | (refine is_qw ?_; first | (with_reducible refine qw_then ?_)) | (refine lw_nil ?_) | ((refine is_fa ?_; first | (refine lw_pure rfl (pv_fa (tF rfl) rfl) ?_))))
  refine lw_store H1 (tZ rfl) rfl rfl rfl (by simp) ?_; intro w5 H1' hg hz
  replace hO := OwS.st ((hO.num 9 0 1 1)) H1 hg
  replace H0 := pt_keptN H0 hg hn01
  replace hw := st_hw hw hg hN1
  replace H1 := H1'
  replace H1 : PT w5 N1 30 (encS (⟨9, 0, 1, 1, some ⟨gA, 0, none⟩, 3, cA, some ⟨gI, 0, none⟩, 1, 1, some ⟨NR, 0, none⟩, 2, 2, none, 0, 0, none, 0, 0⟩)) := H1
  dsimp only at hO
  clear hg hz H1'
  repeat' (first | ((refine is_fa ?_; first | (refine lw_pure rfl (pv_fa (tF rfl) rfl) ?_))))
  refine lw_store H1 (tZ rfl) rfl rfl rfl (by simp) ?_; intro w5 H1' hg hz
  replace hO := OwS.st ((hO.num 9 100 1 1)) H1 hg
  replace H0 := pt_keptN H0 hg hn01
  replace hw := st_hw hw hg hN1
  replace H1 := H1'
  replace H1 : PT w5 N1 30 (encS (⟨9, 100, 1, 1, some ⟨gA, 0, none⟩, 3, cA, some ⟨gI, 0, none⟩, 1, 1, some ⟨NR, 0, none⟩, 2, 2, none, 0, 0, none, 0, 0⟩)) := H1
  dsimp only at hO
  clear hg hz H1'
  repeat' (first | ((refine is_fa ?_; first | (refine lw_pure rfl (pv_fa (tF rfl) rfl) ?_))))
  refine lw_store H1 (tZ rfl) rfl rfl rfl (by simp) ?_; intro w5 H1' hg hz
  replace hO := OwS.st ((hO.num 9 100 4 1)) H1 hg
  replace H0 := pt_keptN H0 hg hn01
  replace hw := st_hw hw hg hN1
  replace H1 := H1'
  replace H1 : PT w5 N1 30 (encS (⟨9, 100, 4, 1, some ⟨gA, 0, none⟩, 3, cA, some ⟨gI, 0, none⟩, 1, 1, some ⟨NR, 0, none⟩, 2, 2, none, 0, 0, none, 0, 0⟩)) := H1
  dsimp only at hO
  clear hg hz H1'
  repeat' (first | ((refine is_fa ?_; first | (refine lw_pure rfl (pv_fa (tF rfl) rfl) ?_))))
  refine lw_store H1 (tZ rfl) rfl rfl rfl (by simp) ?_; intro w5 H1' hg hz
  replace hO := OwS.st ((hO.num 9 100 4 8)) H1 hg
  replace H0 := pt_keptN H0 hg hn01
  replace hw := st_hw hw hg hN1
  replace H1 := H1'
  replace H1 : PT w5 N1 30 (encS (⟨9, 100, 4, 8, some ⟨gA, 0, none⟩, 3, cA, some ⟨gI, 0, none⟩, 1, 1, some ⟨NR, 0, none⟩, 2, 2, none, 0, 0, none, 0, 0⟩)) := H1
  dsimp only at hO
  clear hg hz H1'
  repeat' (first | (refine is_cw ?_; first | (refine cw_seq ?_) | (refine cw_region ?_)) | (refine is_qw ?_; first | (with_reducible refine qw_then ?_)) | (refine lw_nil ?_) | ((refine is_bd ?_; first | (refine lw_pure rfl (tyB_39 rfl rfl rfl) ?_))))
  refine lw_bsN (vs := rows0.map fun r => .agg (encR r).toArray) (cs := rows0.flatMap encR) elemR rfl rfl rfl (by omega) (by omega) rfl (by simp [Value.cells, encR]) ?_; intro gR w3 hgR HR hb
  replace hgR := Nat.le_trans hw.size hgR
  replace H0 := H0.mono hb; replace H1 := H1.mono hb; replace hO := hO.mo hb; replace hw := grow_trans hw hb; clear hb
  have oR := own_pt (xs := rows0) (m := 6) HR encR_len hgR rfl (by simp [maxLen])
  repeat' (first | ((refine is_fa ?_; first | (refine lw_pure rfl (pv_fa (tF rfl) rfl) ?_))))
  refine lw_store H1 (tZ rfl) rfl rfl rfl (by simp) ?_; intro w5 H1' hg hz
  replace hO := OwS.st ((hO.nR oR)) H1 hg
  replace H0 := pt_keptN H0 hg hn01
  replace hw := st_hw hw hg hN1
  replace H1 := H1'
  replace H1 : PT w5 N1 30 (encS (⟨9, 100, 4, 8, some ⟨gA, 0, none⟩, 3, cA, some ⟨gI, 0, none⟩, 1, 1, some ⟨gR, 0, none⟩, 6, 6, none, 0, 0, none, 0, 0⟩)) := H1
  dsimp only at hO
  clear hg hz H1'
  repeat' (first | (refine is_cw ?_; first | (refine cw_seq ?_) | (refine cw_region ?_)) | (refine is_qw ?_; first | (with_reducible refine qw_then ?_)) | (refine lw_nil ?_) | ((refine is_bd ?_; first | (refine lw_pure rfl (tyB_41 rfl rfl rfl) ?_))))
  refine lw_bsN (vs := [.agg (encO ord1).toArray, .agg (encO ord2).toArray]) (cs := encO ord1 ++ encO ord2) elemO rfl rfl rfl (by omega) (by omega) rfl (by simp [Value.cells, encO]) ?_; intro gO w3 hgO HQ hb
  replace hgO := Nat.le_trans hw.size hgO
  replace H0 := H0.mono hb; replace H1 := H1.mono hb; replace hO := hO.mo hb; replace hw := grow_trans hw hb; clear hb
  have oO := own_pt (xs := [ord1, ord2]) (m := 2) HQ encO_len hgO rfl (by simp [maxLen])
  repeat' (first | ((refine is_fa ?_; first | (refine lw_pure rfl (pv_fa (tF rfl) rfl) ?_))))
  refine lw_store H1 (tZ rfl) rfl rfl rfl (by simp) ?_; intro w5 H1' hg hz
  replace hO := OwS.st ((hO.nO oO)) H1 hg
  replace H0 := pt_keptN H0 hg hn01
  replace hw := st_hw hw hg hN1
  replace H1 := H1'
  replace H1 : PT w5 N1 30 (encS (⟨9, 100, 4, 8, some ⟨gA, 0, none⟩, 3, cA, some ⟨gI, 0, none⟩, 1, 1, some ⟨gR, 0, none⟩, 6, 6, some ⟨gO, 0, none⟩, 2, 2, none, 0, 0⟩)) := H1
  dsimp only at hO
  clear hg hz H1'
  repeat' (first | (refine is_cw ?_; first | (refine cw_seq ?_) | (refine cw_region ?_)) | (refine is_qw ?_; first | (with_reducible refine qw_then ?_)) | (refine lw_nil ?_) | ((refine is_bd ?_; first | (refine lw_pure rfl (tyB_46 rfl rfl rfl) ?_))))
  refine lw_bsN (vs := [.agg (encD ⟨2, 7⟩).toArray]) (cs := encD ⟨2, 7⟩) elemD rfl rfl rfl (by omega) (by omega) rfl (by simp [Value.cells, encD]) ?_; intro g1 w3 hg1 HD hb
  replace hg1 := Nat.le_trans hw.size hg1
  replace H0 := H0.mono hb; replace H1 := H1.mono hb; replace hO := hO.mo hb; replace hw := grow_trans hw hb; clear hb
  have oD := own_pt (xs := [(⟨2, 7⟩ : Bid)]) (m := 1) HD encD_len hg1 rfl (by simp [maxLen])
  have hz1 := HD.lt
  repeat' (first | ((refine is_bd ?_; first | (refine lw_pure rfl (tyB_44 rfl rfl rfl) ?_))))
  refine lw_bsN (vs := [.agg (encC ⟨auc1, some ⟨g1, 0, none⟩, 1, 1⟩).toArray]) (cs := encC ⟨auc1, some ⟨g1, 0, none⟩, 1, 1⟩) elemC rfl rfl rfl (by omega) (by omega) rfl (by simp [Value.cells, encC]) ?_; intro NX w4 hNX HX hb
  replace hNX := Nat.le_trans hw.size hNX
  have hz2 := hb.size
  replace oD := oD.mono hb
  replace H0 := H0.mono hb; replace H1 := H1.mono hb; replace hO := hO.mo hb; replace hw := grow_trans hw hb; clear hb
  have oX := own_pt (xs := [(⟨auc1, some ⟨g1, 0, none⟩, 1, 1⟩ : AucC)]) (m := 1) HX encC_len hNX rfl (by simp [maxLen])
  replace hO := hO.nX (us := [⟨auc1, [⟨2, 7⟩]⟩]) oX rfl (fun j x a hx ha => by
    cases j with
    | zero => simp at hx ha; subst hx ha; exact ⟨rfl, oD⟩
    | succ j => simp at hx)
  clear oD
  repeat' (first | ((refine is_fa ?_; first | (refine lw_pure rfl (pv_fa (tF rfl) rfl) ?_))))
  refine lw_store H1 (tZ rfl) rfl rfl rfl (by simp) ?_; intro w5 H1' hg hz
  replace hO := OwS.st (hO) H1 hg
  replace H0 := pt_keptN H0 hg hn01
  replace hw := st_hw hw hg hN1
  replace H1 := H1'
  replace H1 : PT w5 N1 30 (encS (⟨9, 100, 4, 8, some ⟨gA, 0, none⟩, 3, cA, some ⟨gI, 0, none⟩, 1, 1, some ⟨gR, 0, none⟩, 6, 6, some ⟨gO, 0, none⟩, 2, 2, some ⟨NX, 0, none⟩, 1, 1⟩)) := H1
  dsimp only at hO
  clear hg hz H1'
  repeat' (first | (refine is_cw ?_; first | (refine cw_seq ?_) | (refine cw_region ?_)) | (refine is_qw ?_; first | (with_reducible refine qw_then ?_)) | (refine lw_nil ?_) | ((refine is_bd ?_; first | (refine lw_pure rfl (tyB_46 rfl rfl rfl) ?_))))
  refine lw_bsN (vs := [.agg (encD ⟨1, 5⟩).toArray]) (cs := encD ⟨1, 5⟩) elemD rfl rfl rfl (by omega) (by omega) rfl (by simp [Value.cells, encD]) ?_; intro g2 w3 hg2 HD hb
  have hne : g1 ≠ g2 := by
    have h8 := (Own.lt (hO.B 0 _ _ rfl rfl).o g1 rfl).2
    omega
  clear hz1 hz2
  replace hg2 := Nat.le_trans hw.size hg2
  replace H0 := H0.mono hb; replace H1 := H1.mono hb; replace hO := hO.mo hb; replace hw := grow_trans hw hb; clear hb
  have oD := own_pt (xs := [(⟨1, 5⟩ : Bid)]) (m := 1) HD encD_len hg2 rfl (by simp [maxLen])
  repeat' (first | ((refine is_bd ?_; first | (refine lw_pure rfl (tyB_44 rfl rfl rfl) ?_))))
  refine lw_varN rfl (by first | exact tyv_29 | exact tyv_30 | exact tyv_33 | exact tyv_34 | exact tyv_36 | exact tyv_37 | exact tyv_38 | exact tyv_39 | exact tyv_40 | exact tyv_41 | exact tyv_43 | exact tyv_44 | exact tyv_45 | exact tyv_46 | exact tyv_73 | exact tyv_74 | exact tyv_80 | exact tyv_81 | exact tyv_107 | exact tyv_108 | exact tyv_123 | exact tyv_146 | exact tyv_147 | exact tyv_148 | exact tyv_149) rfl (tZ rfl) (fun _ => rfl) rfl rfl ?_; intro N2 w4 hN2 H2 hb
  replace H2 : PT w4 N2 44 (encC ⟨auc2, some ⟨g2, 0, none⟩, 1, 1⟩) := H2
  replace hN2 := Nat.le_trans hw.size hN2
  replace oD := oD.mono hb
  replace H0 := H0.mono hb; replace H1 := H1.mono hb; replace hO := hO.mo hb; replace hw := grow_trans hw hb; clear hb
  repeat' (first | (refine is_cw ?_; first | (refine cw_seq ?_) | (refine cw_region ?_)) | (refine is_qw ?_; first | (with_reducible refine qw_then ?_)) | (refine lw_nil ?_) | ((refine is_load ?_; first | (refine lw_pure rfl (pv_load (t1 rfl) rfl (by first | exact PT.ld0 H1 rfl | exact PT.ld H1 rfl | exact PT.ld0 H2 rfl | exact PT.ld H2 rfl)) ?_) | (refine lw_pure rfl (pv_loada (tA rfl) rfl (by first | exact PT.lda H1 | exact PT.lda H2) (by rfl)) ?_))) | ((refine is_fa ?_; first | (refine lw_pure rfl (pv_fa (tF rfl) rfl) ?_))))
  refine lw_bsN (vs := [.agg (encC ⟨auc2, some ⟨g2, 0, none⟩, 1, 1⟩).toArray]) (cs := encC ⟨auc2, some ⟨g2, 0, none⟩, 1, 1⟩) elemC rfl rfl rfl (by omega) (by omega) rfl (by simp [Value.cells, encC]) ?_; intro NY w3 hNY HY hb
  replace oD := oD.mono hb
  replace H0 := H0.mono hb; replace H1 := H1.mono hb; replace hO := hO.mo hb; replace hw := grow_trans hw hb; clear hb
  skip
  refine lw_app elemC encC_len encC_one rfl rfl rfl hO.X (HY.slR (xs := [(⟨auc2, some ⟨g2, 0, none⟩, 1, 1⟩ : AucC)]) encC_len rfl (by omega)) rfl hw.size (by simp) (by simp [maxLen]) ?_; intro vm w4 oX2 hg hb
  obtain ⟨aX, cX, rfl⟩ := own_shapeM (m := 2) encC_len oX2 rfl
  obtain ⟨gX, rfl⟩ := own_some oX2 (by omega)
  replace H0 := pt_keptO hO.X H0 (by decide) hg
  replace H1 := pt_keptO hO.X H1 (by decide) hg
  replace hO := hO.toX (us := [⟨auc1, [⟨2, 7⟩]⟩, ⟨auc2, [⟨1, 5⟩]⟩]) oX2 hg rfl (fun j x a hx ha => by
    rcases j with _ | _ | j
    · simp at hx ha; subst hx ha; exact hO.B 0 _ _ rfl rfl
    · simp at hx ha; subst hx ha; exact ⟨rfl, oD⟩
    · simp at hx)
  replace hw := hw.trans hb
  clear hg hb
  repeat' (first | ((refine is_fa ?_; first | (refine lw_pure rfl (pv_fa (tF rfl) rfl) ?_))))
  refine lw_store H1 (tZ rfl) rfl rfl rfl (by simp) ?_; intro w5 H1' hg hz
  replace hO := OwS.st (hO) H1 hg
  replace H0 := pt_keptN H0 hg hn01
  replace hw := st_hw hw hg hN1
  replace H1 := H1'
  replace H1 : PT w5 N1 30 (encS (⟨9, 100, 4, 8, some ⟨gA, 0, none⟩, 3, cA, some ⟨gI, 0, none⟩, 1, 1, some ⟨gR, 0, none⟩, 6, 6, some ⟨gO, 0, none⟩, 2, 2, some ⟨gX, 0, none⟩, 2, cX⟩)) := H1
  dsimp only at hO
  clear hg hz H1'
  dsimp only [encS] at H1
  repeat' (first | (refine is_cw ?_; first | (refine cw_seq ?_) | (refine cw_region ?_)) | (refine is_qw ?_; first | (with_reducible refine qw_then ?_)) | (refine lw_nil ?_) | ((refine is_load ?_; first | (refine lw_pure rfl (pv_load (t1 rfl) rfl (by first | exact PT.ld0 H1 rfl | exact PT.ld H1 rfl)) ?_))) | ((refine is_fa ?_; first | (refine lw_pure rfl (pv_fa (tF rfl) rfl) ?_))) | ((refine is_ia ?_; first | (refine lw_pure rfl (pv_ia (tS rfl) rfl rfl (by omega)) ?_))) | ((refine is_bd ?_; first | (refine lw_pure rfl (tyB_39 rfl rfl rfl) ?_))))
  refine lw_storeO (i := 5) (u := ⟨2, 1, 12, 8⟩) (tZ rfl) encR_len encR_one rfl (by omega) rfl rfl hO.R (by simp) ?_; intro w6 oR6 hg hz
  replace H0 := pt_keptO hO.R H0 (by decide) hg
  replace H1 := pt_keptO hO.R H1 (by decide) hg
  have hbR := (Own.lt hO.R gR rfl).1
  replace hO : OwS w.heap.size w6 (fullC gA cA gI gR gO gX cX) fullT (fullX g1 g2) := hO.toR oR6 hg
  replace hw := st_hw hw hg hbR
  clear hg hz
  repeat' (first | (refine is_cw ?_; first | (refine cw_seq ?_) | (refine cw_region ?_)) | (refine is_qw ?_; first | (with_reducible refine qw_then ?_)) | (refine lw_nil ?_) | ((refine is_load ?_; first | (refine lw_pure rfl (pv_loada (tA rfl) rfl (by first | exact PT.lda H1) (by rfl)) ?_))))
  refine lw_storea (vs := encS (fullC gA cA gI gR gO gX cX)) H0 (tZ rfl) rfl rfl rfl rfl (by simp [Value.oneCell']) ?_; intro w9 H9 hg hz
  replace hO := hO.st H0 hg
  replace hw := st_hw hw hg hN0
  repeat' (first | (refine is_cw ?_; first | (refine cw_ret ?_)) | (refine is_qw ?_; first | (with_reducible refine qw_then ?_)) | (refine lw_nil ?_))
  exact qw_retc rfl rfl (agg_ld (tA rfl) rfl (fun i u hu => H9.ld0 hu)) ⟨⟨gA, cA, gI, gR, gO, gX, cX, g1, g2, hne, rfl, hO⟩, hw⟩

def waitsT (ops : Array Oper) : Nat → Nat → Nat → Bool
  | 0, _, _ => false
  | m + 1, f, i => match ops[f]? with
    | some o => o.after.toList.any fun e => Region.binds .any e && (Nat.beq e.on i || waitsT ops m e.on i)
    | none => false
def ClosedL (ops : Array Oper) (listed : Array Bool) : Prop := ∀ (j : Nat) (o : Oper), ops[j]? = some o → listed.getD j false = true → ∀ e ∈ o.after, Region.binds .any e = true → listed.getD e.on false = true
def closedB (ops : Array Oper) (listed : Array Bool) : Bool := (List.range ops.size).all fun j => match ops[j]? with
  | some o => !listed.getD j false || o.after.toList.all fun e => !Region.binds .any e || listed.getD e.on false
  | none => true
theorem ClosedL.step {ops : Array Oper} {listed : Array Bool} (h : ClosedL ops listed) {i : Nat} (hi : i ∈ Region.ready .any ops listed) : ClosedL ops (listed.setIfInBounds i true) := fun j o ho hl e he hb => by
  by_cases hij : i = j
  · subst hij
    obtain ⟨_, o', ho', hall⟩ := mem_ready.1 hi
    rw [ho] at ho'; injection ho' with ho'; subst ho'
    exact getD_set_true (hall e he hb)
  · rw [getD_set_ne false hij] at hl
    exact getD_set_true (h j o ho hl e he hb)
section
variable {P : Program} {ops : Array Oper} {Q : Exit → Act → World → Prop} {U : World → Prop} {f : Nat}
end
section
variable {n : Nat} {l : Fr} {P : Program} {w : World} {Q : Exit → Act → World → Prop} {ops : Array Oper} {U : World → Prop} {fuel : Nat} {listed : Array Bool} {f : Nat}
end
section
variable {P : Program} {n : Nat} {l : Fr} {w : World} {d : Option Nat} {t t' ty : TypeId} {x y : Operand} {pos : String} {af : Array Edge} {g : Option (Nat × Bool)} {a b : Int}
end
end Go.Proofs.YtekomjnjddhfmaaGreat
