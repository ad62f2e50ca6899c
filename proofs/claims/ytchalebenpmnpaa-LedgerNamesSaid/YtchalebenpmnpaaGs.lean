/-
  Contract of slices.SortFunc at []ledger.entry, on a slice that the call owns. Conditions: those that the theorem names.
-/
import Derived.Test.YtchalebenpmnpaaSh
import Derived.Test.YtchalebenpmnpaaGd
import Derived.Test.YtchalebenpmnpaaMs
import Derived.Shelf.SlSortCmp.NoneTotal
namespace Go.Proofs.Ytchalebenpmnpaa
open Go.RowKit Go.Sort

def compR (x y : Row) : Int := compI x.acct x.asset y.acct y.asset
theorem compR_lt {x y : Row} : ltOf compR x y = true ↔ keyLt x y := by
  unfold ltOf compR keyLt; rw [decide_eq_true_eq, compI_lt]
theorem compR_not {x y : Row} : ltOf compR x y = false ↔ ¬ keyLt x y := by rw [← compR_lt]; simp
theorem compR_swo : SWO (ltOf compR) where
  irrefl x := by rw [compR_not]; exact keyLt_irr x
  trans x y z h1 h2 := by rw [compR_lt] at *; exact keyLt_trans h1 h2
  ntrans x y z h1 h2 := by rw [compR_not] at *; unfold keyLt at *; omega
/-- rows of keys that differ, sorted, are one list -/
theorem sorted_rows {ys zs : List Row} (hp : zs.Perm ys) (hs : zs.Pairwise fun x y => ltOf compR y x = false) (hn : (ys.map fun r => (r.acct, r.asset)).Nodup) : zs.Pairwise keyLt := by
  have hn' : (zs.map fun r => (r.acct, r.asset)).Nodup := ((hp.map _).nodup_iff).2 hn
  rw [List.nodup_iff_pairwise_ne, List.pairwise_map] at hn'
  refine (hs.and hn').imp fun {x y} ⟨h1, h2⟩ => ?_
  rw [compR_not] at h1
  unfold keyLt at *
  have : ¬ (x.acct = y.acct ∧ x.asset = y.asset) := fun ⟨e1, e2⟩ => h2 (by rw [e1, e2])
  omega
set_option maxHeartbeats 1000000 in
theorem sort_E (base g cap : Nat) (ys : List Row) (w : World) (hown : OwnL 57 base w (.slice (some ⟨g, 0, none⟩) ys.length cap) ys) (hlen : ys.length ≤ 1000000) (hn : (ys.map fun r => (r.acct, r.asset)).Nodup) :
    Calls Try.prog 41 #[.slice (some ⟨g, 0, none⟩) ys.length cap, .func (.func 42) #[] #[]] w fun e w' =>
      e = .returned (.tuple #[]) ∧ (∃ zs, zs.Perm ys ∧ zs.Pairwise keyLt ∧ OwnL 57 base w' (.slice (some ⟨g, 0, none⟩) ys.length cap) zs) ∧ w.grownBy w' (some g) := by
  have hbg : base ≤ g := (Own.lt hown g rfl).1
  have hgl : g < w.heap.size := (Own.lt hown g rfl).2
  have hown' : Own encR 4 57 base w (.slice (some ⟨g, 0, none⟩) ys.toArray.toList.length cap) ys.toArray.toList := by simpa using hown
  have eg : ∀ args w, (callFunc 42 args).run Try.prog w = .ok (.enter 42 args) w := Go.Proofs.enters_of Try.func42 (by kernel_rfl) rfl
  have hcmp : Go.Proofs.CmpLays Try.prog 42 #[] encR 4 compR g 0 ys.toArray.size w := fun m os dk _ x y => by
    exact (postF_d x y (sortWorldK encR 4 w g 0 m dk os)).mono fun e w' ⟨he, hb⟩ => ⟨he, grown_of hb.b hb.d⟩
  have hcon := Go.Proofs.AnyQ.slices_SortFunc Try.sortE 4 Try.isAgg57 Try.sizeOf57 encR (fun x => encR_len _) (fun x => encR_one _) compR compR_swo 42 #[] g 0 cap ys.toArray w eg hcmp (Own.holdsK (fun x => encR_len _) hown') hgl (by simp; omega)
  refine Calls.mono (R := _) hcon ?_
  rintro e w' ⟨he, d', n, os, hperm, hsort, rfl⟩
  obtain ⟨hp1, hsz⟩ := perm_of hperm
  have hso := sortedList_of hsz hsort
  have hsz' : d'.size = ys.length := by simpa using hsz
  have hp2 : d'.toList.Perm ys := by simpa using hp1
  obtain ⟨q1, q2⟩ := Own.sorted (enc := encR) (fun x => encR_len _) hown d' hsz' n os
  exact ⟨he, ⟨d'.toList, hp2, sorted_rows hp2 hso hn, q1⟩, q2⟩
end Go.Proofs.Ytchalebenpmnpaa
