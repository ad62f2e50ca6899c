/-
  Sorts at open orders, at lots and at numbers, Compact at numbers, ContainsFunc at lots. Conditions: those that each theorem names.
-/
import Derived.Test.YtkehmbgcglbffaaDoorOc
import Derived.Test.YtkehmbgcglbffaaDoorSh
import Derived.Test.YtkehmbgcglbffaaDoorMs
import Derived.Shelf.SlSortCmp.NoneTotal
import Derived.Sort.OwnSortedInts
import Derived.Shelf.SortG.Plain
import Derived.Shelf.SlicesG.CompactI
namespace Go.Proofs.YtkehmbgcglbffaaDoor
open Go.RowKit Go.Sort Go.PlainAid

theorem cmpw_P {x y : Opn} : ltOf rowI x y = true ↔ keyO x y := by
  unfold ltOf; rw [decide_eq_true_eq, rowI_lt]
theorem cmpn_P {x y : Opn} : ltOf rowI x y = false ↔ ¬ keyO x y := by rw [← cmpw_P]; simp
theorem swo_P : SWO (ltOf rowI) where
  irrefl x := by rw [cmpn_P]; unfold keyO; omega
  trans x y z h1 h2 := by rw [cmpw_P] at *; unfold keyO at *; omega
  ntrans x y z h1 h2 := by rw [cmpn_P] at *; unfold keyO at *; omega
set_option maxHeartbeats 1000000 in
theorem sort_P (base g cap : Nat) (ys : List Opn) (w : World)  (hown : Own encP 6 34 base w (.slice (some ⟨g, 0, none⟩) ys.length cap) ys) (hlen : ys.length ≤ 1000000) (hn : ys.Pairwise fun x y => keyO x y ∨ keyO y x) :
    Calls Tryd.prog 47 #[.slice (some ⟨g, 0, none⟩) ys.length cap, .func (.func 18) #[] #[]] w fun e w' =>
      e = .returned (.tuple #[]) ∧ (∃ zs, zs.Perm ys ∧ zs.Pairwise keyO ∧ Own encP 6 34 base w' (.slice (some ⟨g, 0, none⟩) ys.length cap) zs) ∧ w.grownBy w' (some g) := by
  have hbg : base ≤ g := (Own.lt hown g rfl).1
  have hgl : g < w.heap.size := (Own.lt hown g rfl).2
  have hown' : Own encP 6 34 base w (.slice (some ⟨g, 0, none⟩) ys.toArray.toList.length cap) ys.toArray.toList := by simpa using hown
  have eg : ∀ args w, (callFunc 18 args).run Tryd.prog w = .ok (.enter 18 args) w := Go.Proofs.enters_of Tryd.func18 (by kernel_rfl) rfl
  have hcmp : Go.Proofs.CmpLays Tryd.prog 18 #[] encP 6 rowI g 0 ys.toArray.size w := fun m os dk _ x y => by
    exact (row_d x y (sortWorldK encP 6 w g 0 m dk os)).mono fun e w' ⟨he, hb⟩ => ⟨he, grown_of hb.b hb.d⟩
  have hcon := Go.Proofs.AnyQ.slices_SortFunc Tryd.sortP 6 Tryd.isAgg34 Tryd.sizeOf34 encP (fun x => encP_len _) (fun x => encP_one _) rowI swo_P 18 #[] g 0 cap ys.toArray w eg hcmp (Own.holdsK (fun x => encP_len _) hown') hgl (by simp; omega)
  refine Calls.mono (R := _) hcon ?_
  rintro e w' ⟨he, d', n, os, hperm, hsort, rfl⟩
  obtain ⟨hp1, hsz⟩ := perm_of hperm
  have hso := sortedList_of hsz hsort
  have hsz' : d'.size = ys.length := by simpa using hsz
  have hp2 : d'.toList.Perm ys := by simpa using hp1
  obtain ⟨q1, q2⟩ := Own.sorted (enc := encP) (fun x => encP_len _) hown d' hsz' n os
  refine ⟨he, ⟨d'.toList, hp2, ?_, q1⟩, q2⟩
  have hn' : d'.toList.Pairwise fun x y => keyO x y ∨ keyO y x := (hp2.pairwise_iff (fun h => h.symm)).2 hn
  refine (hso.and hn').imp fun {x y} ⟨h1, h2⟩ => ?_
  rw [cmpn_P] at h1
  rcases h2 with h2 | h2
  · exact h2
  · exact absurd h2 h1

theorem cmpw_L {x y : Lt} : ltOf byI x y = true ↔ keyT x y := by
  unfold ltOf; rw [decide_eq_true_eq, byI_lt]
theorem cmpn_L {x y : Lt} : ltOf byI x y = false ↔ ¬ keyT x y := by rw [← cmpw_L]; simp
theorem swo_L : SWO (ltOf byI) where
  irrefl x := by rw [cmpn_L]; unfold keyT; omega
  trans x y z h1 h2 := by rw [cmpw_L] at *; unfold keyT at *; omega
  ntrans x y z h1 h2 := by rw [cmpn_L] at *; unfold keyT at *; omega
set_option maxHeartbeats 1000000 in
theorem sort_L (base g cap : Nat) (ys : List Lt) (w : World)  (hown : Own encL 4 36 base w (.slice (some ⟨g, 0, none⟩) ys.length cap) ys) (hlen : ys.length ≤ 1000000) (hn : ys.Pairwise fun x y => keyT x y ∨ keyT y x) :
    Calls Tryd.prog 52 #[.slice (some ⟨g, 0, none⟩) ys.length cap, .func (.func 20) #[] #[]] w fun e w' =>
      e = .returned (.tuple #[]) ∧ (∃ zs, zs.Perm ys ∧ zs.Pairwise keyT ∧ Own encL 4 36 base w' (.slice (some ⟨g, 0, none⟩) ys.length cap) zs) ∧ w.grownBy w' (some g) := by
  have hbg : base ≤ g := (Own.lt hown g rfl).1
  have hgl : g < w.heap.size := (Own.lt hown g rfl).2
  have hown' : Own encL 4 36 base w (.slice (some ⟨g, 0, none⟩) ys.toArray.toList.length cap) ys.toArray.toList := by simpa using hown
  have eg : ∀ args w, (callFunc 20 args).run Tryd.prog w = .ok (.enter 20 args) w := Go.Proofs.enters_of Tryd.func20 (by kernel_rfl) rfl
  have hcmp : Go.Proofs.CmpLays Tryd.prog 20 #[] encL 4 byI g 0 ys.toArray.size w := fun m os dk _ x y => by
    exact (byID_d x y (sortWorldK encL 4 w g 0 m dk os)).mono fun e w' ⟨he, hb⟩ => ⟨he, grown_of hb.b hb.d⟩
  have hcon := Go.Proofs.AnyQ.slices_SortFunc Tryd.sortL 4 Tryd.isAgg36 Tryd.sizeOf36 encL (fun x => encL_len _) (fun x => encL_one _) byI swo_L 20 #[] g 0 cap ys.toArray w eg hcmp (Own.holdsK (fun x => encL_len _) hown') hgl (by simp; omega)
  refine Calls.mono (R := _) hcon ?_
  rintro e w' ⟨he, d', n, os, hperm, hsort, rfl⟩
  obtain ⟨hp1, hsz⟩ := perm_of hperm
  have hso := sortedList_of hsz hsort
  have hsz' : d'.size = ys.length := by simpa using hsz
  have hp2 : d'.toList.Perm ys := by simpa using hp1
  obtain ⟨q1, q2⟩ := Own.sorted (enc := encL) (fun x => encL_len _) hown d' hsz' n os
  refine ⟨he, ⟨d'.toList, hp2, ?_, q1⟩, q2⟩
  have hn' : d'.toList.Pairwise fun x y => keyT x y ∨ keyT y x := (hp2.pairwise_iff (fun h => h.symm)).2 hn
  refine (hso.and hn').imp fun {x y} ⟨h1, h2⟩ => ?_
  rw [cmpn_L] at h1
  rcases h2 with h2 | h2
  · exact h2
  · exact absurd h2 h1

theorem encI_flat (S : List Int) : S.flatMap encI = S.map (Value.int .i64) := by
  induction S with
  | nil => rfl
  | cons x S ih => rw [List.flatMap_cons, ih]; rfl
theorem sort_I (base g cap : Nat) (ys : List Int) (w : World) (hown : Own encI 1 2 base w (.slice (some ⟨g, 0, none⟩) ys.length cap) ys) (hlen : ys.length ≤ 1000000) :
    Calls Tryd.prog 22 #[.slice (some ⟨g, 0, none⟩) ys.length cap] w fun e w' =>
      e = .returned (.tuple #[]) ∧ Own encI 1 2 base w' (.slice (some ⟨g, 0, none⟩) (ys.mergeSort fun x y => decide (x ≤ y)).length cap) (ys.mergeSort fun x y => decide (x ≤ y)) ∧ w.grownBy w' (some g) := by
  obtain ⟨cur, hb, hg, hle, hmax, hsz, htk⟩ := Own.heap' hown
  have hgl : g < w.heap.size := (Array.getElem?_eq_some_iff.1 hg).1
  have hH := holds_of_blockI (ss := ys) hg (by rw [← encI_flat, ← htk, Nat.mul_one])
  refine Calls.mono (R := _) (Go.Proofs.AnyG.slices_Sort_int Tryd.sortI g 0 cap ys w hH hgl (by omega)) ?_
  rintro e w' ⟨he, n, os, rfl⟩
  have hl : (ys.mergeSort fun x y => decide (x ≤ y)).length = ys.length := List.length_mergeSort _
  refine ⟨he, ?_, grownBy_sortedI _⟩
  have := ownsRow_sortedI (n := n) (os := os) (base := base) (cap := cap) (ts := ys.mergeSort fun x y => decide (x ≤ y)) hl hb hg hle hmax hsz
  unfold Own
  rw [encI_flat, hl]; exact this
theorem comp_I (base g cap : Nat) (ys : List Int) (w : World) (hown : Own encI 1 2 base w (.slice (some ⟨g, 0, none⟩) ys.length cap) ys) :
    Calls Tryd.prog 23 #[.slice (some ⟨g, 0, none⟩) ys.length cap] w fun e w' =>
      e = .returned (.slice (some ⟨g, 0, none⟩) (Lib.compact ys).length cap) ∧ w.grownBy w' (some g) := by
  obtain ⟨cur, hb, hg, hle, hmax, hsz, htk⟩ := Own.heap' hown
  have hH := holds_of_blockI (ss := ys) hg (by rw [← encI_flat, ← htk, Nat.mul_one])
  refine Calls.mono (R := _) (Go.Proofs.AnyG.slices_Compact_int Tryd.compI g 0 cap ys w hH (by unfold maxLen at hmax; omega) hle) ?_
  rintro e w' ⟨he, q, rfl⟩
  refine ⟨he, ?_⟩
  have := grownBy_sortedI (w := w) (g := g) (n := q) (os := #[]) (Lib.compact ys ++ List.replicate (ys.length - (Lib.compact ys).length) 0).toArray
  have e0 : ∀ W : World, grow W #[] = W := fun W => by unfold grow; simp
  rw [e0] at this
  exact this
/-- as many as there were: no two alike -/
theorem compact_len {ys : List Int} : (Lib.compact (ys.mergeSort fun x y => decide (x ≤ y))).length = ys.length ↔ ys.Nodup := by
  have hp := List.mergeSort_perm ys (fun x y => decide (x ≤ y))
  have hs : (ys.mergeSort fun x y => decide (x ≤ y)).Pairwise (fun x y => decide (x ≤ y) = true) := List.pairwise_mergeSort (fun a b c h1 h2 => by simp at *; omega) (fun a b => by simp; omega) ys
  generalize ys.mergeSort (fun x y => decide (x ≤ y)) = zs at hp hs
  rw [← hp.length_eq, ← hp.nodup_iff]
  unfold Lib.compact Lib.compactUpTo
  rw [List.length_map]
  have hl : (List.range zs.length).length = zs.length := List.length_range
  have key : ∀ j, j < zs.length → (Lib.keeps zs.toArray j = true ↔ j = 0 ∨ ∀ x y, zs[j]? = some x → zs[j - 1]? = some y → x ≠ y) := by
    intro j hj
    unfold Lib.keeps
    have h1 : zs.toArray[j]! = zs[j] := by simp [hj]
    have h2 : zs.toArray[j - 1]! = zs[j - 1]'(by omega) := by rw [getElem!_pos zs.toArray (j - 1) (by simp; omega)]; simp
    rw [h1, h2, decide_eq_true_eq, List.getElem?_eq_getElem hj, List.getElem?_eq_getElem (by omega : j - 1 < zs.length)]
    simp
  constructor
  · intro h
    have hall : ∀ j ∈ List.range zs.length, Lib.keeps zs.toArray j = true := by
      exact List.filter_eq_self.1 (List.Sublist.eq_of_length (List.filter_sublist (p := Lib.keeps zs.toArray)) (by rw [h, hl]))
    rw [List.nodup_iff_pairwise_ne]
    have hstrict : zs.Pairwise (· < ·) := by
      have step : ∀ k, (zs.take k).Pairwise (· < ·) := by
        intro k
        induction k with
        | zero => simp
        | succ k ih =>
          by_cases hk : k < zs.length
          · refine pwg_snoc (fun a b c h1 h2 => by omega) ih (List.getElem?_eq_getElem hk) ?_
            by_cases hk0 : k = 0
            · exact Or.inl hk0
            · right
              have hk1 : k - 1 < zs.length := by omega
              refine ⟨zs[k - 1], List.getElem?_eq_getElem hk1, ?_⟩
              have h1 := (key k hk).1 (hall k (List.mem_range.2 hk))
              rcases h1 with h1 | h1
              · exact absurd h1 hk0
              · have h2 := h1 _ _ (List.getElem?_eq_getElem hk) (List.getElem?_eq_getElem hk1)
                have h3 := pwg_get hs (show k - 1 < k by omega) (List.getElem?_eq_getElem hk1) (List.getElem?_eq_getElem hk)
                simp at h3
                omega
          · rw [List.take_of_length_le (by omega)] at ih ⊢; exact ih
      have := step zs.length
      rwa [List.take_length] at this
    exact hstrict.imp (fun h => by omega)
  · intro h
    rw [List.filter_eq_self.2, hl]
    intro j hj
    have hj' := List.mem_range.1 hj
    refine (key j hj').2 ?_
    by_cases hj0 : j = 0
    · exact Or.inl hj0
    · right
      intro x y hx hy e
      subst e
      exact pwg_get (List.nodup_iff_pairwise_ne.1 h) (show j - 1 < j by omega) hy hx rfl
set_option maxRecDepth 20000 in
theorem contains_L {xs : List Lt} {m : Nat} {ad : Option Addr} {cap : Nat} {w : World} (base : Nat) (p : Lt → Bool) (F : FuncId) (caps : Array Value) (he : entersB Tryd.prog F = true) (hbw : base ≤ w.heap.size) (hF : ∀ x, x ∈ xs → ∀ w', Below base w w' → Calls Tryd.prog F (#[] ++ [Value.agg (encL x).toArray].toArray ++ caps) w' fun e w'' => e = .returned (.bool (p x)) ∧ Below w'.heap.size w' w'') (hm : xs.length = m) (HS : SlR encL 4 w ad cap xs) : Calls Tryd.prog 24 #[.slice ad m cap, .func (.func F) #[] caps] w fun e w' => e = .returned (.bool (xs.any p)) ∧ Below w.heap.size w w' := by
  have hw := Below.refl w.heap.size w
  refine fn_enter 9 Tryd.func24 rfl rfl rfl ?_
  repeat' (first | (refine lw_pure rfl (pv_move rfl) ?_) | (refine lw_pure rfl (pv_assign rfl) ?_) | (refine is_cw ?_; first | (refine cw_seq ?_) | (refine cw_region ?_)) | (refine is_qw ?_; first | (with_reducible refine qw_then ?_)) | (refine lw_nil ?_))
  refine lw_call (f := 42) (by kernel_rfl) rfl rfl (indexf_L base p F caps he hbw hF hm HS) ?_; rintro e w1 ⟨⟨i, rfl, hi⟩, hb⟩; refine ⟨_, rfl, ?_⟩; replace hw := grow_trans hw hb; clear hb
  rcases hi with ⟨rfl, hn⟩ | ⟨i, r, rfl, hxi, hr, hn⟩
  · repeat' (first | (refine lw_pure rfl (pv_assign rfl) ?_) | (refine is_cw ?_; first | (refine cw_ret ?_)) | (refine is_qw ?_; first | (with_reducible refine qw_then ?_)) | (refine lw_nil ?_) | ((refine is_bin ?_; first | (refine lw_pure rfl (pv_geq rfl rfl) ?_))))
    refine qw_ret1 rfl rfl ⟨ret_bool ?_, hw⟩
    have : xs.any p = false := by rw [List.any_eq_false]; intro x hx; simp [hn x hx]
    rw [this]; rfl
  · repeat' (first | (refine lw_pure rfl (pv_assign rfl) ?_) | (refine is_cw ?_; first | (refine cw_ret ?_)) | (refine is_qw ?_; first | (with_reducible refine qw_then ?_)) | (refine lw_nil ?_) | ((refine is_bin ?_; first | (refine lw_pure rfl (pv_geq rfl rfl) ?_))))
    refine qw_ret1 rfl rfl ⟨ret_bool ?_, hw⟩
    have : xs.any p = true := by rw [List.any_eq_true]; exact ⟨r, List.mem_of_getElem? hxi, hr⟩
    rw [this]; simp
end Go.Proofs.YtkehmbgcglbffaaDoor
