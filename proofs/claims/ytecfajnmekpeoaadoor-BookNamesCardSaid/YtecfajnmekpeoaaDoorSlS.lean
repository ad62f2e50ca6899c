/-
  Contract of slices.SortFunc at []api.Order with book.row, on a slice that the call owns, whose orders are all of one side. Conditions: those that the theorem names.
-/
import Derived.Test.YtecfajnmekpeoaaDoorSlE
import Derived.Test.YtecfajnmekpeoaaDoorMs
import Derived.Test.YtecfajnmekpeoaaDoorBkW
import Derived.Shelf.SlSortCmp.NoneTotal
namespace Go.Proofs.YtecfajnmekpeoaaDoor
open Go.RowKit Go.Sort

def onSide (s : Int) (o : Ord) : Ord := { o with side := s }
def encS (s : Int) (o : Ord) : List Value := encO (onSide s o)
theorem onSide_self {s : Int} {o : Ord} (h : o.side = s) : onSide s o = o := by cases o; simp [onSide] at *; exact h.symm
def rowS (s : Int) (a b : Ord) : Int := rowC (onSide s a) (onSide s b)
theorem rowS_lt {s : Int} {a b : Ord} : ltOf (rowS s) a b = ahead s a b := by
  have h : ltOf (rowS s) a b = rowLt (onSide s a) (onSide s b) := rfl
  rw [h, rowLt_ahead]; rfl
theorem rowS_swo (s : Int) : SWO (ltOf (rowS s)) where
  irrefl x := by rw [rowS_lt, ahead_not]; omega
  trans x y z h1 h2 := by rw [rowS_lt, ahead_iff] at *; omega
  ntrans x y z h1 h2 := by rw [rowS_lt, ahead_not] at *; omega
theorem flat_side {ys : List Ord} {s : Int} (hall : ∀ o ∈ ys, o.side = s) : ys.flatMap (encS s) = ys.flatMap encO := by
  induction ys with
  | nil => rfl
  | cons y r ih => rw [List.flatMap_cons, List.flatMap_cons, ih (fun o ho => hall o (List.mem_cons_of_mem _ ho))]; simp [encS, onSide_self (hall y (by simp))]

theorem PrW.sortW {w : World} (hp : PrW w) {g : Nat} (hg : 0 < g) (s : Int) (m : Nat) (dk : Array Ord) (os : Array Obj) : PrW (sortWorldK (encS s) 6 w g 0 m dk os) := by
  have hlt : 0 < (putRowK (encS s) 6 (Sort.ahead w m) g 0 dk).heap.size := by
    show _ < (w.heap.modify g _).size
    simpa using hp.lt
  refine ⟨?_, ?_, ?_⟩
  · show _ < ((w.heap.modify g _) ++ os).size
    have := hp.lt; simp only [Array.size_append, Array.size_modify]; omega
  · unfold sortWorldK
    rw [cell?_grow _ _ _ hlt, cell?_putRowK_other _ _ _ _ _ _ _ (by show 0 ≠ g; omega)]
    exact hp.c1
  · unfold sortWorldK
    rw [cell?_grow _ _ _ hlt, cell?_putRowK_other _ _ _ _ _ _ _ (by show 0 ≠ g; omega)]
    exact hp.c2

set_option maxHeartbeats 1000000 in
theorem sort_O (base g cap : Nat) (ys : List Ord) (s : Int) (hs : s = 1 ∨ s = 2) (hall : ∀ o ∈ ys, o.side = s) (hpw : ys.Pairwise idLt) (w : World) (hp : PrW w) (hown : OwnO base w (.slice (some ⟨g, 0, none⟩) ys.length cap) ys) (hg : 0 < base) (hlen : ys.length ≤ 1000000) :
    Calls Tryd.prog 48 #[.slice (some ⟨g, 0, none⟩) ys.length cap, .func (.func 41) #[] #[]] w fun e w' =>
      e = .returned (.tuple #[]) ∧ OwnO base w' (.slice (some ⟨g, 0, none⟩) ys.length cap) (ys.mergeSort (fun a b => !Go.Proofs.YtecfajnmekpeoaaDoor.ahead s b a)) ∧ w.grownBy w' (some g) := by
  have hbg : base ≤ g := (Own.lt hown g rfl).1
  have hgl : g < w.heap.size := (Own.lt hown g rfl).2
  have hown' : Own (encS s) 6 23 base w (.slice (some ⟨g, 0, none⟩) ys.toArray.toList.length cap) ys.toArray.toList := by
    simp only [OwnO, Own] at hown ⊢; rw [flat_side hall]; exact hown
  have eg : ∀ args w, (callFunc 41 args).run Tryd.prog w = .ok (.enter 41 args) w := Go.Proofs.enters_of Tryd.func41 (by kernel_rfl) rfl
  have hcmp : Go.Proofs.CmpLays Tryd.prog 41 #[] (encS s) 6 (rowS s) g 0 ys.toArray.size w := fun m os dk _ x y => by
    have := row_c (onSide s x) (onSide s y) (sortWorldK (encS s) 6 w g 0 m dk os) (hp.sortW (by omega) s m dk os) hs
    exact this.mono fun e w' ⟨he, hb, hd⟩ => ⟨he, grown_of hb hd⟩
  have hcon := Go.Proofs.AnyQ.slices_SortFunc Tryd.sortO 6 Tryd.isAgg23 Tryd.sizeOf23 (encS s) (fun x => encO_len _) (fun x => encO_one _) (rowS s) (rowS_swo s) 41 #[] g 0 cap ys.toArray w eg hcmp (Own.holdsK (fun x => encO_len _) hown') hgl (by simp; omega)
  refine Calls.mono (R := _) hcon ?_
  rintro e w' ⟨he, d', n, os, hperm, hsort, rfl⟩
  obtain ⟨hp1, hsz⟩ := perm_of hperm
  have hso := sortedList_of hsz hsort
  have hall' : ∀ o ∈ d'.toList, o.side = s := fun o ho => hall o (by simpa using hp1.mem_iff.1 ho)
  have hd := sorted_one (s := s) hpw (by simpa using hp1) (hso.imp (fun h => by rw [rowS_lt] at h; exact h))
  have hsz' : d'.size = ys.length := by simpa using hsz
  have hown2 : Own (encS s) 6 23 base w (.slice (some ⟨g, 0, none⟩) ys.length cap) ys := by simpa using hown'
  obtain ⟨q1, q2⟩ := Own.sorted (enc := encS s) (fun x => encO_len _) hown2 d' hsz' n os
  refine ⟨he, ?_, q2⟩
  rw [← hd]
  simp only [OwnO, Own] at q1 ⊢
  rw [flat_side hall'] at q1
  exact q1
end Go.Proofs.YtecfajnmekpeoaaDoor
