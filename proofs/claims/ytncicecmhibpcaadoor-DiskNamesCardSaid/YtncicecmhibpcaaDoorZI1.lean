/-
  Part 1 of the texts of: DiskNames: its row and its card: whatever the input: true; the input reads as it did. Conditions: what the row prints (the table of functions reads as the program's text lays it).
-/
import Derived.Test.YtncicecmhibpcaaDoorZI0
import Derived.StringKeys
import Derived.Laws.Cover1
import Derived.Laws.Pointers
import Derived.Shelf.SlIter.Nil
import Derived.Shelf.SortM.Plain
import Derived.Shelf.SortM.SortNone
import Derived.Shelf.Strings.SlTrimAscii
import Derived.Shelf.SlMaps.Clone
import Derived.Shelf.SlGeneric
import Derived.Ground.GgzProg
import Derived.Ground.SlgmProg
import Derived.Ground.NamesProg
import Derived.Ground.SlmcProg
import Derived.Test.YtncicecmhibpcaaDoorProg
import Derived.Lib.SlTrimSet
namespace Go.Proofs.YtncicecmhibpcaaDoor
open Go.RowKit Go.PlainAid

structure DOp where
  kind : Int
  name : ByteArray
  to : ByteArray
  bytes : ByteArray
  n : Int
  keep : List Int
deriving DecidableEq, Inhabited
def actD (o : DOp) (d : Dsk) : Int × Dsk :=
  if o.kind = 0 then createD d o.name else if o.kind = 1 then appendD d o.name o.bytes else if o.kind = 2 then syncD d o.name else if o.kind = 3 then trimD d o.name o.n else if o.kind = 4 then renameD d o.name o.to else deleteD d o.name
theorem DskOk.act {d : Dsk} (h : DskOk d) (o : DOp) : DskOk (actD o d).2 := by
  unfold actD
  repeat' split
  · exact h.create _
  · exact h.append _ _
  · exact h.sync _
  · exact h.trim _ _
  · exact h.rename _ _
  · exact h.delete _
def numD (o : DOp) (fs : List Fil) (cap : Int) : Int :=
  if o.kind = 0 then (if nameF o.name = false then 4 else if (getF fs o.name).isSome then 6 else if 64 ≤ fs.length then 44 else 0)
  else match getF fs o.name with
  | none => 5
  | some f =>
    if o.kind = 1 then (if 1048576 < szF f + o.bytes.size ∨ cap < (usedF fs : Int) + o.bytes.size then 44 else 0)
    else if o.kind = 2 then 0
    else if o.kind = 3 then (if o.n < 0 ∨ (szF f : Int) < o.n then 1 else 0)
    else if o.kind = 4 then (if nameF o.to = false then 4 else if o.name = o.to then 1 else 0)
    else 0
def filesD (o : DOp) (fs : List Fil) : List Fil :=
  if o.kind = 0 then putF fs ⟨o.name, emptyB, emptyB⟩
  else match getF fs o.name with
  | none => fs
  | some f =>
    if o.kind = 1 then putF fs ⟨o.name, f.firm, f.pend ++ o.bytes⟩
    else if o.kind = 2 then putF fs ⟨o.name, f.firm ++ f.pend, emptyB⟩
    else if o.kind = 3 then putF fs ⟨o.name, (f.firm ++ f.pend).extract 0 o.n.toNat, emptyB⟩
    else if o.kind = 4 then putF (dropF fs o.name) ⟨o.to, f.firm, f.pend⟩
    else dropF fs o.name
def genD (d : Dsk) (v : Int) (fs fz : List Fil) : Int × Dsk :=
  if d.dark then (45, d) else if v ≠ 0 then (v, d) else if d.left = 0 then (45, { darkD d with fs := fz }) else (0, { tickD d with fs := fs })
theorem gen_do {d : Dsk} (hk : d.dark = false) (fs : List Fil) : doD d fs = genD d 0 fs d.fs := by
  unfold doD genD
  rw [hk]
  simp only [Bool.false_eq_true, if_false, ne_eq, not_true_eq_false, if_false]
  rfl
theorem gen_no {d : Dsk} (hk : d.dark = false) {v : Int} (hv : v ≠ 0) (fs fz : List Fil) : (v, d) = genD d v fs fz := by
  unfold genD
  rw [hk, if_neg (by simp), if_pos hv]
theorem gen_dark {d : Dsk} (hk : d.dark = true) (v : Int) (fs fz : List Fil) : (45, d) = genD d v fs fz := by
  unfold genD
  rw [hk, if_pos rfl]
theorem gen_app {d : Dsk} (hk : d.dark = false) (fs : List Fil) : ((doD d d.fs).1, { (doD d d.fs).2 with fs := fs }) = genD d 0 fs fs := by
  unfold doD genD
  rw [hk]
  by_cases h : d.left = 0
  · simp [h, darkD]
  · simp [h]
theorem act_eq (o : DOp) (d : Dsk) : actD o d = genD d (numD o d.fs d.cap) (filesD o d.fs) (if o.kind = 1 then filesD o d.fs else d.fs) := by
  cases hk : d.dark with
  | true =>
    rw [← gen_dark hk]
    unfold actD createD appendD syncD trimD renameD deleteD
    rw [hk]; simp
  | false =>
    unfold actD numD filesD
    by_cases h0 : o.kind = 0
    · rw [if_pos h0, if_pos h0, if_pos h0, if_neg (show ¬ o.kind = 1 by omega)]
      unfold createD
      rw [hk, if_neg (by simp)]
      split
      · exact gen_no hk (by omega) _ _
      split
      · exact gen_no hk (by omega) _ _
      split
      · exact gen_no hk (by omega) _ _
      exact gen_do hk _
    rw [if_neg h0, if_neg h0, if_neg h0]
    by_cases h1 : o.kind = 1
    · rw [if_pos h1, if_pos h1]
      unfold appendD
      rw [hk, if_neg (by simp)]
      cases hg : getF d.fs o.name with
      | none => exact gen_no hk (by omega) _ _
      | some f =>
        dsimp only
        rw [if_pos h1, if_pos h1]
        split
        · exact gen_no hk (by omega) _ _
        · exact gen_app hk _
    rw [if_neg h1, if_neg h1]
    by_cases h2 : o.kind = 2
    · rw [if_pos h2]
      unfold syncD
      rw [hk, if_neg (by simp)]
      cases hg : getF d.fs o.name with
      | none => exact gen_no hk (by omega) _ _
      | some f =>
        dsimp only
        rw [if_neg h1, if_neg h1, if_pos h2, if_pos h2]
        exact gen_do hk _
    rw [if_neg h2]
    by_cases h3 : o.kind = 3
    · rw [if_pos h3]
      unfold trimD
      rw [hk, if_neg (by simp)]
      cases hg : getF d.fs o.name with
      | none => exact gen_no hk (by omega) _ _
      | some f =>
        dsimp only
        rw [if_neg h1, if_neg h1, if_neg h2, if_neg h2, if_pos h3, if_pos h3]
        split
        · exact gen_no hk (by omega) _ _
        · exact gen_do hk _
    rw [if_neg h3]
    by_cases h4 : o.kind = 4
    · rw [if_pos h4]
      unfold renameD
      rw [hk, if_neg (by simp)]
      cases hg : getF d.fs o.name with
      | none => exact gen_no hk (by omega) _ _
      | some f =>
        dsimp only
        rw [if_neg h1, if_neg h1, if_neg h2, if_neg h2, if_neg h3, if_neg h3, if_pos h4, if_pos h4]
        split
        · exact gen_no hk (by omega) _ _
        split
        · exact gen_no hk (by omega) _ _
        · exact gen_do hk _
    rw [if_neg h4]
    unfold deleteD
    rw [hk, if_neg (by simp)]
    cases hg : getF d.fs o.name with
    | none => exact gen_no hk (by omega) _ _
    | some f =>
      dsimp only
      rw [if_neg h1, if_neg h1, if_neg h2, if_neg h2, if_neg h3, if_neg h3, if_neg h4, if_neg h4]
      exact gen_do hk _
structure Free (d : Dsk) : Prop where
  ok : DskOk d
  left : d.left = -1
  up : d.dark = false
theorem free_eq {d : Dsk} (h : Free d) (o : DOp) : actD o d = if numD o d.fs d.cap ≠ 0 then (numD o d.fs d.cap, d) else (0, { d with fs := filesD o d.fs }) := by
  rw [act_eq]
  unfold genD tickD
  rw [h.up, if_neg (by simp)]
  have := h.left
  rw [if_neg (show ¬ d.left = 0 by omega), if_neg (show ¬ 0 < d.left by omega)]
theorem Free.act {d : Dsk} (h : Free d) (o : DOp) : Free (actD o d).2 := by
  have hok := h.ok.act o
  rw [free_eq h] at hok ⊢
  split
  · exact h
  · rename_i h1
    rw [if_neg h1] at hok
    exact ⟨hok, h.left, h.up⟩
theorem free_no {d : Dsk} (h : Free d) {o : DOp} (hn : (actD o d).1 ≠ 0) : (actD o d).2 = d := by
  rw [free_eq h] at hn ⊢
  split
  · rfl
  · rename_i h1
    rw [if_neg h1] at hn
    exact absurd rfl hn
theorem act_cap (o : DOp) (d : Dsk) : (actD o d).2.cap = d.cap := by
  rw [act_eq]
  unfold genD
  repeat' split
  all_goals rfl
def txt (f : Fil) : ByteArray := f.firm ++ f.pend
theorem app_empty (a : ByteArray) : a ++ emptyB = a := by
  refine name_ext ?_
  simp [emptyB]
theorem empty_app (a : ByteArray) : emptyB ++ a = a := by
  refine name_ext ?_
  simp [emptyB]
theorem app_assoc (a b c : ByteArray) : a ++ b ++ c = a ++ (b ++ c) := by
  refine name_ext ?_
  simp
theorem txt_sz (f : Fil) : (txt f).size = szF f := size_append _ _
def wantN (o : DOp) (m : List (ByteArray × ByteArray)) : Int :=
  if o.kind = 0 then (if nameF o.name = false then 4 else if (getM m o.name).isSome then 6 else if 64 ≤ m.length then 44 else 0)
  else match getM m o.name with
  | none => 5
  | some t => if o.kind = 1 then 0 else if o.kind = 2 then 0 else if o.kind = 3 then (if o.n < 0 ∨ (t.size : Int) < o.n then 1 else 0)
    else if o.kind = 4 then (if nameF o.to = false then 4 else if o.name = o.to then 1 else 0) else 0
def wantM (o : DOp) (m : List (ByteArray × ByteArray)) : List (ByteArray × ByteArray) :=
  if o.kind = 0 then putM m o.name emptyB
  else match getM m o.name with
  | none => m
  | some t => if o.kind = 1 then putM m o.name (t ++ o.bytes) else if o.kind = 2 then m else if o.kind = 3 then putM m o.name (t.extract 0 o.n.toNat)
    else if o.kind = 4 then putM (delM m o.name) o.to t else delM m o.name
theorem num_map {o : DOp} {m : List (ByteArray × ByteArray)} {fs : List Fil} {cap : Int} (h : m.Perm (mapG txt fs)) (hs : SortF fs) (hb : o.kind = 1 → usedF fs + o.bytes.size ≤ 1048576 ∧ (1048576 : Int) ≤ cap) : numD o fs cap = wantN o m := by
  unfold numD wantN
  rw [perm_get h hs, perm_lenG h]
  by_cases h0 : o.kind = 0
  · rw [if_pos h0, if_pos h0]; simp
  rw [if_neg h0, if_neg h0]
  cases hg : getF fs o.name with
  | none => rfl
  | some f =>
    simp only [Option.map_some]
    by_cases h1 : o.kind = 1
    · rw [if_pos h1, if_pos h1, if_neg]
      have := usedF_mem (getF_some hg).1
      obtain ⟨h2, h3⟩ := hb h1
      omega
    rw [if_neg h1, if_neg h1, txt_sz]
theorem perm_same {m : List (ByteArray × ByteArray)} {fs : List Fil} {f g : Fil} (h : m.Perm (mapG txt fs)) (hs : SortF fs) (hg : getF fs g.name = some f) (ht : txt g = txt f) : m.Perm (mapG txt (putF fs g)) := by
  refine perm_getM ((h.map _).nodup_iff.2 (mapG_nodup txt hs)) (mapG_nodup txt (hs.put g)) fun k => ?_
  rw [perm_get h hs, getM_mapG, getF_put hs]
  by_cases hk : k = g.name
  · rw [if_pos hk, hk, hg, Option.map_some, Option.map_some, ht]
  · rw [if_neg hk]
theorem files_map {o : DOp} {m : List (ByteArray × ByteArray)} {fs : List Fil} (h : m.Perm (mapG txt fs)) (hs : SortF fs) : (wantM o m).Perm (mapG txt (filesD o fs)) := by
  unfold wantM filesD
  rw [perm_get h hs]
  by_cases h0 : o.kind = 0
  · rw [if_pos h0, if_pos h0]
    have := perm_put h hs ⟨o.name, emptyB, emptyB⟩
    rwa [show txt ⟨o.name, emptyB, emptyB⟩ = emptyB from app_empty _] at this
  rw [if_neg h0, if_neg h0]
  cases hg : getF fs o.name with
  | none => exact h
  | some f =>
    simp only [Option.map_some]
    by_cases h1 : o.kind = 1
    · rw [if_pos h1, if_pos h1]
      have := perm_put h hs ⟨o.name, f.firm, f.pend ++ o.bytes⟩
      rwa [show txt ⟨o.name, f.firm, f.pend ++ o.bytes⟩ = txt f ++ o.bytes from (app_assoc _ _ _).symm] at this
    rw [if_neg h1, if_neg h1]
    by_cases h2 : o.kind = 2
    · rw [if_pos h2, if_pos h2]
      exact perm_same (g := ⟨o.name, f.firm ++ f.pend, emptyB⟩) h hs hg (app_empty _)
    rw [if_neg h2, if_neg h2]
    by_cases h3 : o.kind = 3
    · rw [if_pos h3, if_pos h3]
      have := perm_put h hs ⟨o.name, (f.firm ++ f.pend).extract 0 o.n.toNat, emptyB⟩
      rwa [show txt ⟨o.name, (f.firm ++ f.pend).extract 0 o.n.toNat, emptyB⟩ = (txt f).extract 0 o.n.toNat from app_empty _] at this
    rw [if_neg h3, if_neg h3]
    by_cases h4 : o.kind = 4
    · rw [if_pos h4, if_pos h4]
      exact perm_put (φ := txt) (perm_drop h hs o.name) (hs.drop _) ⟨o.to, f.firm, f.pend⟩
    rw [if_neg h4, if_neg h4]
    exact perm_drop h hs _
theorem used_files {o : DOp} {fs : List Fil} (hs : SortF fs) : usedF (filesD o fs) ≤ usedF fs + (if o.kind = 1 then o.bytes.size else 0) := by
  unfold filesD
  by_cases h0 : o.kind = 0
  · rw [if_pos h0]
    have := usedF_put hs ⟨o.name, emptyB, emptyB⟩
    have e : szF ⟨o.name, emptyB, emptyB⟩ = 0 := rfl
    omega
  rw [if_neg h0]
  cases hg : getF fs o.name with
  | none => exact Nat.le_add_right _ _
  | some f =>
    dsimp only
    have put : ∀ g : Fil, g.name = o.name → usedF (putF fs g) + szF f = usedF fs + szF g := fun g hn => by
      have := usedF_put hs g
      rw [hn, hg] at this
      simpa using this
    by_cases h1 : o.kind = 1
    · rw [if_pos h1, if_pos h1]
      have := put ⟨o.name, f.firm, f.pend ++ o.bytes⟩ rfl
      have e : szF ⟨o.name, f.firm, f.pend ++ o.bytes⟩ = szF f + o.bytes.size := by unfold szF; dsimp only; rw [size_append]; omega
      omega
    rw [if_neg h1, if_neg h1]
    by_cases h2 : o.kind = 2
    · rw [if_pos h2]
      have := put ⟨o.name, f.firm ++ f.pend, emptyB⟩ rfl
      have e : szF ⟨o.name, f.firm ++ f.pend, emptyB⟩ = szF f := by unfold szF; dsimp only; rw [size_append, size_empty]; omega
      omega
    rw [if_neg h2]
    by_cases h3 : o.kind = 3
    · rw [if_pos h3]
      have := put ⟨o.name, (f.firm ++ f.pend).extract 0 o.n.toNat, emptyB⟩ rfl
      have e : szF ⟨o.name, (f.firm ++ f.pend).extract 0 o.n.toNat, emptyB⟩ ≤ szF f := by unfold szF; dsimp only; rw [size_extract0, size_append, size_empty]; omega
      omega
    rw [if_neg h3]
    by_cases h4 : o.kind = 4
    · rw [if_pos h4]
      have := usedF_put (hs.drop o.name) ⟨o.to, f.firm, f.pend⟩
      have h5 := usedF_drop hs o.name
      rw [hg] at h5
      simp only [Option.map_some, Option.getD_some] at h5
      have e : szF ⟨o.to, f.firm, f.pend⟩ = szF f := rfl
      omega
    rw [if_neg h4]
    have h5 := usedF_drop hs o.name
    omega
theorem firm_kept {o : DOp} {d : Dsk} (h : Free d) (hk : 0 ≤ o.kind ∧ o.kind ≤ 5) {g : Fil} (hg : g ∈ d.fs) (hn : ¬ ((actD o d).1 = 0 ∧ ((2 ≤ o.kind ∧ o.name = g.name) ∨ (o.kind = 4 ∧ o.to = g.name)))) :
    ∃ f, getF (actD o d).2.fs g.name = some f ∧ f.firm = g.firm ∧ (o.kind ≠ 1 → f = g) := by
  have hs := h.ok.srt
  have hgg : getF d.fs g.name = some g := (getF_iff hs).2 ⟨hg, rfl⟩
  rw [free_eq h] at hn ⊢
  split
  · exact ⟨g, hgg, rfl, fun _ => rfl⟩
  · rename_i h9
    rw [if_neg h9] at hn
    simp only [ne_eq, Decidable.not_not] at h9
    dsimp only at hn ⊢
    simp only [true_and] at hn
    unfold filesD
    unfold numD at h9
    by_cases h0 : o.kind = 0
    · rw [if_pos h0] at h9 ⊢
      rw [getF_put hs]
      dsimp only
      have hne : ¬ g.name = o.name := fun e => by
        rw [← e, hgg] at h9
        by_cases h5 : nameF g.name = false
        · rw [if_pos h5] at h9; omega
        · rw [if_neg h5] at h9; simp at h9
      rw [if_neg hne]
      exact ⟨g, hgg, rfl, fun _ => rfl⟩
    rw [if_neg h0] at h9 ⊢
    cases ho : getF d.fs o.name with
    | none => rw [ho] at h9; simp at h9
    | some f =>
      dsimp only
      by_cases h1 : o.kind = 1
      · rw [if_pos h1, getF_put hs]
        dsimp only
        by_cases hne : g.name = o.name
        · rw [if_pos hne]
          rw [hne, ho] at hgg
          injection hgg with hgg
          subst hgg
          exact ⟨_, rfl, rfl, fun k => absurd h1 k⟩
        · rw [if_neg hne]; exact ⟨g, hgg, rfl, fun _ => rfl⟩
      have hne : ¬ g.name = o.name := fun e => hn (Or.inl ⟨by omega, e.symm⟩)
      rw [if_neg h1]
      by_cases h2 : o.kind = 2
      · rw [if_pos h2, getF_put hs]; dsimp only; rw [if_neg hne]; exact ⟨g, hgg, rfl, fun _ => rfl⟩
      rw [if_neg h2]
      by_cases h3 : o.kind = 3
      · rw [if_pos h3, getF_put hs]; dsimp only; rw [if_neg hne]; exact ⟨g, hgg, rfl, fun _ => rfl⟩
      rw [if_neg h3]
      by_cases h4 : o.kind = 4
      · have hne2 : ¬ g.name = o.to := fun e => hn (Or.inr ⟨h4, e.symm⟩)
        rw [if_pos h4, getF_put (hs.drop _)]; dsimp only; rw [if_neg hne2, getF_drop hs, if_neg hne]; exact ⟨g, hgg, rfl, fun _ => rfl⟩
      rw [if_neg h4, getF_drop hs, if_neg hne]; exact ⟨g, hgg, rfl, fun _ => rfl⟩
theorem firm_sync {o : DOp} {d : Dsk} (h : Free d) (hk : o.kind = 2) {g : Fil} (hg : g ∈ d.fs) (hn : o.name = g.name) : getF (actD o d).2.fs g.name = some ⟨g.name, g.firm ++ g.pend, emptyB⟩ := by
  have hs := h.ok.srt
  have hgg : getF d.fs g.name = some g := (getF_iff hs).2 ⟨hg, rfl⟩
  have h1 : numD o d.fs d.cap = 0 := by
    unfold numD
    rw [if_neg (by omega), hn, hgg]
    dsimp only
    rw [if_neg (by omega), if_pos hk]
  rw [free_eq h, if_neg (by rw [h1]; simp)]
  unfold filesD
  dsimp only
  rw [if_neg (by omega), hn, hgg]
  dsimp only
  rw [if_neg (by omega), if_pos hk, getF_put hs]
  simp
def turnsF : List Fil → Nat
  | [] => 0
  | f :: r => (if f.pend.size = 0 then 0 else 1) + turnsF r
theorem crashF_at : ∀ (l : List Fil) (keep : List Int) (i : Nat) {f : Fil}, l[i]? = some f → (crashF l keep)[i]? = some (if f.pend.size = 0 then f else firmF f (keep.drop (turnsF (l.take i))))
  | a :: r, keep, 0, f, h => by
    simp at h; subst h
    unfold crashF
    split
    · rfl
    · rfl
  | a :: r, keep, i + 1, f, h => by
    rw [List.getElem?_cons_succ] at h
    unfold crashF
    rw [List.take_succ_cons]
    unfold turnsF
    by_cases h1 : a.pend.size = 0
    · rw [if_pos h1, if_pos h1, List.getElem?_cons_succ, crashF_at r keep i h, Nat.zero_add]
    · rw [if_neg h1, if_neg h1, List.getElem?_cons_succ, crashF_at r keep.tail i h, List.drop_tail, Nat.add_comm]
theorem turns_succ : ∀ (l : List Fil) (i : Nat) {f : Fil}, l[i]? = some f → turnsF (l.take (i + 1)) = turnsF (l.take i) + if f.pend.size = 0 then 0 else 1
  | a :: r, 0, f, h => by
    simp at h; subst h
    rw [List.take_succ_cons, List.take_zero, List.take_zero]
    unfold turnsF
    exact Nat.add_comm _ _
  | a :: r, i + 1, f, h => by
    rw [List.getElem?_cons_succ] at h
    rw [List.take_succ_cons, List.take_succ_cons]
    unfold turnsF
    rw [turns_succ r i h, Nat.add_assoc]
theorem cut_step {o : DOp} {d p : Dsk} (hp : Free p) (hf : d.fs = p.fs) (hc : d.cap = p.cap) (hk : d.dark = false) (hl : 0 ≤ d.left) :
    actD o d = if (actD o p).1 ≠ 0 then ((actD o p).1, d) else if 0 < d.left then (0, { d with left := d.left - 1, fs := (actD o p).2.fs }) else (45, { darkD d with fs := if o.kind = 1 then (actD o p).2.fs else p.fs }) := by
  rw [act_eq, free_eq hp]
  unfold genD tickD
  rw [hk, if_neg (by simp), hf, hc]
  by_cases h1 : numD o p.fs p.cap ≠ 0
  · rw [if_pos h1, if_pos h1, if_pos h1]
  · rw [if_neg h1, if_neg h1]
    by_cases h2 : d.left = 0
    · rw [if_pos h2]; simp [h2]
    · have h3 : 0 < d.left := by omega
      rw [if_neg h2]; simp [h3]
theorem room_no {d : Dsk} (h : Free d) {f : Fil} (hf : f ∈ d.fs) {b : ByteArray} (hb : d.cap < (usedF d.fs : Int) + b.size) : appendD d f.name b = (44, d) := by
  unfold appendD
  rw [h.up, if_neg (by simp), (getF_iff h.ok.srt).2 ⟨hf, rfl⟩]
  dsimp only
  rw [if_pos (Or.inr hb)]
theorem room_yes {d : Dsk} (h : Free d) {f : Fil} (hf : f ∈ d.fs) {b : ByteArray} (hb : (usedF d.fs : Int) + b.size = d.cap) (hc : d.cap ≤ 1048576) : appendD d f.name b = (0, { d with fs := putF d.fs ⟨f.name, f.firm, f.pend ++ b⟩ }) ∧ (usedF (putF d.fs ⟨f.name, f.firm, f.pend ++ b⟩) : Int) = d.cap := by
  have hg := (getF_iff h.ok.srt).2 ⟨hf, rfl⟩
  have hu := usedF_mem hf
  have hl := h.left
  refine ⟨?_, ?_⟩
  · unfold appendD
    rw [h.up, if_neg (by simp), hg]
    dsimp only
    rw [if_neg (by omega)]
    unfold doD tickD
    rw [if_neg (by omega), if_neg (by omega)]
    simp [h.up]
  · have := usedF_put h.ok.srt ⟨f.name, f.firm, f.pend ++ b⟩
    rw [hg] at this
    simp only [Option.map_some, Option.getD_some] at this
    have e : szF ⟨f.name, f.firm, f.pend ++ b⟩ = szF f + b.size := by unfold szF; dsimp only; rw [size_append]; omega
    omega
theorem load_files {d : Dsk} (h : DskOk d) {cap : Int} (hc : d.cap ≤ cap) : loadD cap d.fs = (0, ⟨d.fs, cap, -1, false⟩) := by
  have hu := h.used
  unfold loadD
  rw [if_neg (by omega), if_neg, if_neg (by omega)]
  unfold badF
  simp only [Bool.or_eq_true, decide_eq_true_eq, List.any_eq_true, Bool.not_eq_true', decide_eq_false_iff_not, not_or, Decidable.not_not, not_exists, not_and]
  refine ⟨⟨by have := h.cnt; omega, fun f hf => ⟨by rw [h.names f hf]; simp, by have := h.sizes f hf; omega⟩⟩, h.srt⟩
end Go.Proofs.YtncicecmhibpcaaDoor
namespace Go.Proofs.YtncicecmhibpcaaDoor
open Go.RowKit Go.PlainAid Go.Maps Go.WideMaps

structure Gw (a b : Nat) (w w' : World) : Prop where
  os : w'.os = w.os
  tape : w'.tape = w.tape
  output : w'.output = w.output
  size : w.heap.size ≤ w'.heap.size
  block : ∀ k, k < w.heap.size → k ≠ a → k ≠ b → w'.heap[k]? = w.heap[k]?
section
variable {a b : Nat} {w w1 w2 w' : World}
theorem Gw.of_below (h : Below w.heap.size w w') : Gw a b w w' := ⟨h.os, h.tape, h.output, h.size, fun k hk _ _ => h.block k hk⟩
theorem Gw.of_a (h : w.grownBy w' (some a)) : Gw a b w w' := ⟨h.os, h.tape, h.output, h.size, fun k hk h1 _ => h.block k hk (fun e => by injection e with e; exact h1 e)⟩
theorem Gw.of_b (h : w.grownBy w' (some b)) : Gw a b w w' := ⟨h.os, h.tape, h.output, h.size, fun k hk _ h1 => h.block k hk (fun e => by injection e with e; exact h1 e)⟩
theorem Gw.trans (h : Gw a b w w1) (k : Gw a b w1 w2) : Gw a b w w2 :=
  ⟨k.os.trans h.os, k.tape.trans h.tape, k.output.trans h.output, Nat.le_trans h.size k.size, fun q hq h1 h2 => (k.block q (Nat.lt_of_lt_of_le hq h.size) h1 h2).trans (h.block q hq h1 h2)⟩
theorem Gw.below (h : Gw a b w w') {W : World} (hw : Below W.heap.size W w) (ha : W.heap.size ≤ a) (hb : W.heap.size ≤ b) : Below W.heap.size W w' :=
  hw.trans ⟨h.os, h.tape, h.output, h.size, fun q hq => h.block q (Nat.lt_of_lt_of_le hq hw.size) (by omega) (by omega)⟩
theorem Gw.swap (h : Gw a b w w') : Gw b a w w' := ⟨h.os, h.tape, h.output, h.size, fun k hk h1 h2 => h.block k hk h2 h1⟩
theorem Gw.wide (h : Gw a a w w') (b : Nat) : Gw a b w w' := ⟨h.os, h.tape, h.output, h.size, fun k hk h1 _ => h.block k hk h1 h1⟩
theorem PT.gw {N : Nat} {T : TypeId} {cs : List Value} (h : PT w N T cs) (hg : Gw a b w w') (h1 : N ≠ a) (h2 : N ≠ b) : PT w' N T cs := (hg.block N h.lt h1 h2).trans h
theorem Own.gw {α : Type} {enc : α → List Value} {k : Nat} {T : TypeId} {base : Nat} {v : Value} {xs : List α} (h : Own enc k T base w v xs) (hg : Gw a b w w') (h1 : v.ownBlock ≠ some a) (h2 : v.ownBlock ≠ some b) : Own enc k T base w' v xs := by
  obtain ⟨h3, h4⟩ := h
  refine ⟨h3, ?_⟩
  rcases h4 with h4 | ⟨g, cap, cur, rfl, e2, hh, r⟩
  · exact Or.inl h4
  · exact Or.inr ⟨g, cap, cur, rfl, e2, (hg.block g (Array.getElem?_eq_some_iff.1 hh).1 (fun e => h1 (by rw [e]; rfl)) (fun e => h2 (by rw [e]; rfl))).trans hh, r⟩
theorem SlR.gw {α : Type} {enc : α → List Value} {k : Nat} {ad : Option Addr} {cap : Nat} {xs : List α} (h : SlR enc k w ad cap xs) (hg : Gw a b w w') (h1 : ∀ x, ad = some x → x.block ≠ a ∧ x.block ≠ b) : SlR enc k w' ad cap xs :=
  ⟨h.le, h.max, h.ofNone, fun x hx hc => let ⟨e1, e2, e3⟩ := h.ofSome x hx hc; ⟨e1, Nat.lt_of_lt_of_le e2 hg.size, fun j y hy i v hv => by
    have := e3 j y hy i v hv
    unfold World.cell? at this ⊢
    rwa [hg.block x.block e2 (h1 x hx).1 (h1 x hx).2]⟩⟩
end
section
variable {κ ν : Type} {eK : κ → Value} {eV : ν → Value} {w w' : World} {B a b : Nat} {m : List (κ × ν)}
theorem Mp.gw (h : Mp eK eV w B m) (hg : Gw a b w w') (h1 : B ≠ a) (h2 : B ≠ b) : Mp eK eV w' B m := by
  obtain ⟨es, clk, hE, e⟩ := h
  exact ⟨es, clk, ⟨(hg.block B hE.lt' h1 h2).trans hE.heap, hE.keys, hE.born, hE.lt⟩, e⟩
end
abbrev Nm := { s : ByteArray // s.size ≤ 9223372036854775807 }
def ekS (k : Nm) : Value := .string k.1
theorem keyS : KeyE Tryd.prog 9 ekS := ⟨string_keyed Tryd.underlying9, fun k => ⟨_, keyOf_string_mk Tryd.underlying9 (by simpa [maxLen] using k.2)⟩, fun a b h => by
  unfold ekS at h
  injection h with h
  exact Subtype.ext h⟩
section
variable {ν : Type}
def unN (e : Nm × ν) : ByteArray × ν := (e.1.1, e.2)
theorem getM_un (m : List (Nm × ν)) (k : Nm) : getM (m.map unN) k.1 = getM m k := by
  induction m with
  | nil => rfl
  | cons e r ih =>
    rw [List.map_cons, getM_cons, getM_cons, ih]
    by_cases h : e.1 = k
    · rw [if_pos h, if_pos (show (unN e).1 = k.1 from congrArg Subtype.val h)]; rfl
    · rw [if_neg h, if_neg (fun h2 : (unN e).1 = k.1 => h (Subtype.ext h2))]
theorem putM_un (m : List (Nm × ν)) (k : Nm) (v : ν) : (putM m k v).map unN = putM (m.map unN) k.1 v := by
  unfold putM
  rw [getM_un]
  by_cases h : (getM m k).isSome = true
  · rw [if_pos h, if_pos h, List.map_map, List.map_map]
    refine List.map_congr_left fun e _ => ?_
    show unN (if e.1 = k then (k, v) else e) = if (unN e).1 = k.1 then (k.1, v) else unN e
    by_cases h2 : e.1 = k
    · rw [if_pos h2, if_pos (show (unN e).1 = k.1 from congrArg Subtype.val h2)]; rfl
    · rw [if_neg h2, if_neg (fun h3 : (unN e).1 = k.1 => h2 (Subtype.ext h3))]
  · rw [if_neg h, if_neg h, List.map_append]; rfl
theorem delM_un (m : List (Nm × ν)) (k : Nm) : (delM m k).map unN = delM (m.map unN) k.1 := by
  unfold delM
  rw [List.filter_map]
  congr 1
  refine List.filter_congr fun e _ => ?_
  show (!decide (e.1 = k)) = !decide ((unN e).1 = k.1)
  rw [show decide (e.1 = k) = decide ((unN e).1 = k.1) from by
    rw [decide_eq_decide]
    exact ⟨fun h => congrArg Subtype.val h, fun h => Subtype.ext h⟩]
def MpB (eV : ν → Value) (w : World) (B : Nat) (m : List (ByteArray × ν)) : Prop := ∃ m', Mp ekS eV w B m' ∧ m'.map unN = m
variable {eV : ν → Value} {w w' : World} {B a b : Nat} {m : List (ByteArray × ν)}
theorem MpB.mono (h : MpB eV w B m) (hb : Below w.heap.size w w') : MpB eV w' B m := by obtain ⟨m', h1, h2⟩ := h; exact ⟨m', h1.mono hb, h2⟩
theorem MpB.gw (h : MpB eV w B m) (hg : Gw a b w w') (h1 : B ≠ a) (h2 : B ≠ b) : MpB eV w' B m := by obtain ⟨m', h3, h4⟩ := h; exact ⟨m', h3.gw hg h1 h2, h4⟩
theorem MpB.bound (h : MpB eV w B m) : B < w.heap.size := by obtain ⟨m', h1, _⟩ := h; exact h1.bound
theorem MpB.ne {N : Nat} {T : TypeId} {cs : List Value} (h : MpB eV w B m) (hp : PT w N T cs) : N ≠ B := by
  intro e
  subst e
  obtain ⟨m', ⟨es, clk, hE, _⟩, _⟩ := h
  have h1 := hE.heap
  have h2 : w.heap[N]? = _ := hp
  rw [h1] at h2
  injection h2 with h2
  cases h2
end
section
variable {ν : Type} {eV : ν → Value} {P : Program} {n : Nat} {l : Fr} {w : World} {B : Nat} {Q : Exit → Act → World → Prop} {ops : Array Oper} {os : List Oper} {d : Option Nat} {ty : TypeId} {pos : String} {af : Array Edge} {g : Option (Nat × Bool)} {T K V : TypeId} {x y z : Operand} {m : List (ByteArray × ν)} {k : ByteArray}
theorem pv_lookB (ht : P.underlying T = some (.map K V)) (E : KeyE P K ekS) {zv : ν} (hz : ∀ w, (zeroValue V).run P w = .ok (eV zv) w) (hk : k.size ≤ 9223372036854775807) (hx : ev l x = some (.map (some B))) (hy : ev l y = some (.string k)) (h : MpB eV w B m) :
    Pv P n l ⟨d, .lookup T x y false, ty, pos, af, g⟩ (eV ((getM m k).getD zv)) w := by
  obtain ⟨m', h1, rfl⟩ := h
  have := getM_un m' ⟨k, hk⟩
  dsimp only at this
  rw [this]
  exact pv_lookupM (k := (⟨k, hk⟩ : Nm)) ht E hz hx hy h1
theorem pv_lookB_ok (ht : P.underlying T = some (.map K V)) (E : KeyE P K ekS) {zv : ν} (hz : ∀ w, (zeroValue V).run P w = .ok (eV zv) w) (hk : k.size ≤ 9223372036854775807) (hx : ev l x = some (.map (some B))) (hy : ev l y = some (.string k)) (h : MpB eV w B m) :
    Pv P n l ⟨d, .lookup T x y true, ty, pos, af, g⟩ (.tuple #[eV ((getM m k).getD zv), .bool (getM m k).isSome]) w := by
  obtain ⟨m', h1, rfl⟩ := h
  have := getM_un m' ⟨k, hk⟩
  dsimp only at this
  rw [this]
  exact pv_lookupM_ok (k := (⟨k, hk⟩ : Nm)) ht E hz hx hy h1
theorem pv_lenB {ts : Array TypeId} (hts : ts[0]? = some T) (ht : P.underlying T = some (.map K V)) (hx : ev l x = some (.map (some B))) (h : MpB eV w B m) :
    Pv P n l ⟨d, .call ⟨.builtin .len, #[x], ts⟩, ty, pos, af, g⟩ (.int .i64 (m.length : Nat)) w := by
  obtain ⟨m', h1, rfl⟩ := h
  rw [List.length_map]
  exact pv_lenM hts ht hx h1
theorem some_updB (ht : P.underlying T = some (.map K V)) (E : KeyE P K ekS) {v : ν} (hk : k.size ≤ 9223372036854775807) (hx : ev l x = some (.map (some B))) (hy : ev l y = some (.string k)) (hz : ev l z = some (eV v)) (h : MpB eV w B m) :
    ∀ a, Holds n l a → ∃ w', (execOp a.eval ⟨d, .mapUpdate T x y z, ty, pos, af, g⟩).run P w = .ok .skip w' ∧ (MpB eV w' B (putM m k v) ∧ w.grownBy w' (some B) ∧ w'.heap.size = w.heap.size) := fun A hA => by
  obtain ⟨m', h1, rfl⟩ := h
  obtain ⟨w', e1, e2, e3, e4⟩ := some_updateM (d := d) (ty := ty) (pos := pos) (af := af) (g := g) (k := (⟨k, hk⟩ : Nm)) (v := v) ht E hx hy hz h1 A hA
  exact ⟨w', e1, ⟨_, e2, putM_un m' ⟨k, hk⟩ v⟩, e3, e4⟩
theorem lw_updB (ht : P.underlying T = some (.map K V)) (E : KeyE P K ekS) {v : ν} (hk : k.size ≤ 9223372036854775807) (hx : ev l x = some (.map (some B))) (hy : ev l y = some (.string k)) (hz : ev l z = some (eV v)) (h : MpB eV w B m)
    (hc : ∀ w', MpB eV w' B (putM m k v) → w.grownBy w' (some B) → w'.heap.size = w.heap.size → LW P n ops Q os l w') : LW P n ops Q (⟨none, .mapUpdate T x y z, ty, pos, af, none⟩ :: os) l w :=
  lw_skips (some_updB ht E hk hx hy hz h) fun w' ⟨h1, h2, h3⟩ => hc w' h1 h2 h3
theorem some_delB {ts : Array TypeId} (hts : ts[0]? = some T) (ht : P.underlying T = some (.map K V)) (E : KeyE P K ekS) (hk : k.size ≤ 9223372036854775807) (hx : ev l x = some (.map (some B))) (hy : ev l y = some (.string k)) (h : MpB eV w B m) :
    ∀ a, Holds n l a → ∃ v w', (execOp a.eval ⟨d, .call ⟨.builtin .delete, #[x, y], ts⟩, ty, pos, af, g⟩).run P w = .ok (.value v) w' ∧ (v = .tuple #[] ∧ MpB eV w' B (delM m k) ∧ w.grownBy w' (some B) ∧ w'.heap.size = w.heap.size) := fun A hA => by
  obtain ⟨m', h1, rfl⟩ := h
  obtain ⟨v, w', e1, e2, e3, e4, e5⟩ := some_deleteM (d := d) (ty := ty) (pos := pos) (af := af) (g := g) (k := (⟨k, hk⟩ : Nm)) hts ht E hx hy h1 A hA
  exact ⟨v, w', e1, e2, ⟨_, e3, delM_un m' ⟨k, hk⟩⟩, e4, e5⟩
end
def evF (v : ByteArray × ByteArray) : Value := .agg #[.string v.1, .string v.2]
structure DkW (w : World) (N B : Nat) (d : Dsk) : Prop where
  obj : PT w N 81 [.map (some B), .int .i64 d.cap, .int .i64 d.left, .bool d.dark]
  mp : ∃ m, MpB evF w B m ∧ m.Perm (mapF d.fs)
  ok : DskOk d
theorem DkW.ne {w : World} {N B : Nat} {d : Dsk} (h : DkW w N B d) : N ≠ B := by
  obtain ⟨m, h1, _⟩ := h.mp
  exact h1.ne h.obj
theorem DkW.mono {w w' : World} {N B : Nat} {d : Dsk} (h : DkW w N B d) (hb : Below w.heap.size w w') : DkW w' N B d := by
  obtain ⟨m, h1, h2⟩ := h.mp
  exact ⟨h.obj.mono hb, ⟨m, h1.mono hb, h2⟩, h.ok⟩
theorem DkW.gw {w w' : World} {N B a b : Nat} {d : Dsk} (h : DkW w N B d) (hg : Gw a b w w') (h1 : N ≠ a ∧ N ≠ b) (h2 : B ≠ a ∧ B ≠ b) : DkW w' N B d := by
  obtain ⟨m, h3, h4⟩ := h.mp
  exact ⟨h.obj.gw hg h1.1 h1.2, ⟨m, h3.gw hg h2.1 h2.2, h4⟩, h.ok⟩
theorem DkW.lt {w : World} {N B : Nat} {d : Dsk} (h : DkW w N B d) : N < w.heap.size ∧ B < w.heap.size := by
  obtain ⟨m, h1, _⟩ := h.mp
  exact ⟨h.obj.lt, h1.bound⟩
structure RkW (w : World) (base N : Nat) (v : Value) (d : Dsk) : Prop where
  obj : PT w N 87 [v, .int .i64 d.cap, .int .i64 d.left, .bool d.dark]
  own : Own encF 3 35 base w v d.fs
  ok : DskOk d
theorem RkW.ne {w : World} {base N : Nat} {v : Value} {d : Dsk} (h : RkW w base N v d) : v.ownBlock ≠ some N := by
  rcases h.own.2 with ⟨rfl, _⟩ | ⟨g, cap, cur, rfl, _, hg, _⟩
  · intro e; cases e
  · intro e
    have e1 : g = N := by simpa [Value.ownBlock] using e
    subst e1
    have h2 : w.heap[g]? = _ := h.obj
    rw [hg] at h2
    injection h2 with h2; injection h2 with _ h3 _
    exact absurd h3 (by decide)
theorem RkW.mono {w w' : World} {base N : Nat} {v : Value} {d : Dsk} (h : RkW w base N v d) (hb : Below w.heap.size w w') : RkW w' base N v d := ⟨h.obj.mono hb, h.own.mono hb, h.ok⟩
theorem RkW.gw {w w' : World} {base N a b : Nat} {v : Value} {d : Dsk} (h : RkW w base N v d) (hg : Gw a b w w') (h1 : N ≠ a ∧ N ≠ b) (h2 : v.ownBlock ≠ some a ∧ v.ownBlock ≠ some b) : RkW w' base N v d := ⟨h.obj.gw hg h1.1 h1.2, h.own.gw hg h2.1 h2.2, h.ok⟩
theorem elemF : ElemT Tryd.prog 30 35 3 48 := elem_of Tryd.underlying30 (by kernel_rfl) (by omega)
theorem elemXs : ElemT Tryd.prog 47 9 1 16 := elem_of Tryd.underlying47 (by kernel_rfl) (by omega)
end Go.Proofs.YtncicecmhibpcaaDoor
namespace Go.Proofs.YtncicecmhibpcaaDoor
open Go.RowKit Go.PlainAid

section
variable {P : Program} {n : Nat} {l : Fr} {w : World} {Q : Exit → Act → World → Prop} {d : Option Nat} {ty : TypeId} {pos : String} {af : Array Edge} {g : Option (Nat × Bool)} {t t' : TypeId} {x y z : Operand} {s u : ByteArray} {k : IntKind}
theorem pv_cat (hx : ev l x = some (.string s)) (hy : ev l y = some (.string u)) (h : s.size + u.size ≤ 9223372036854775807) : Pv P n l ⟨d, .binOp .add t x y t', ty, pos, af, g⟩ (.string (s ++ u)) w := ⟨fun A hA => by
  have h2 : ¬ (((s.size + u.size : Nat) : Int) > IntKind.i64.max) := by
    rw [show IntKind.i64.max = 9223372036854775807 from rfl]; omega
  simp only [execOp, hA.ev hx, hA.ev hy, eqGuard, binOp, Op.stringOp]
  rw [if_neg h2]
  simp⟩
theorem bytesLess_ltN (a b : ByteArray) : Op.bytesLess a.toList b.toList = decide (ltN a b) := by
  rw [bytesLess_eq, ByteArray.toList_eq, ByteArray.toList_eq]
  rfl
theorem pv_slss (hx : ev l x = some (.string s)) (hy : ev l y = some (.string u)) : Pv P n l ⟨d, .binOp .lss t x y t', ty, pos, af, g⟩ (.bool (decide (ltN s u))) w := by
  rw [← bytesLess_ltN]
  exact ⟨fun A hA => by simp [execOp, hA.ev hx, hA.ev hy, eqGuard, binOp, Op.stringOp]⟩
theorem leqN (a b : ByteArray) : (Op.bytesLess a.toList b.toList || a.toList == b.toList) = decide (¬ ltN b a) := by
  rw [bytesLess_ltN, beq_str, Bool.eq_iff_iff]
  simp only [Bool.or_eq_true, decide_eq_true_eq]
  constructor
  · rintro (h | rfl)
    · exact ltN_asymm h
    · exact ltN_irr _
  · intro h
    rcases ltN_tri a b with h1 | h1 | h1
    · exact Or.inl h1
    · exact Or.inr h1
    · exact absurd h1 h
theorem pv_sleq (hx : ev l x = some (.string s)) (hy : ev l y = some (.string u)) : Pv P n l ⟨d, .binOp .leq t x y t', ty, pos, af, g⟩ (.bool (decide (¬ ltN u s))) w := by
  rw [← leqN]
  exact ⟨fun A hA => by simp [execOp, hA.ev hx, hA.ev hy, eqGuard, binOp, Op.stringOp]⟩
theorem pv_sleft {i : Int} (ht : isT P t (fun x => x matches .string) = true) (hx : ev l x = some (.string s)) (hz : ev l z = some (.int k i)) (h : 0 ≤ i ∧ i ≤ s.size) : Pv P n l ⟨d, .slice t x none (some z) none, ty, pos, af, g⟩ (.string (s.extract 0 i.toNat)) w := ⟨fun A hA => by
  have hu := str_of ht
  simp [execOp, hA.ev hx, hA.ev hz, Instr.sliceAt, Instr.slice, run_underlying hu, Instr.sliceBounds, Instr.sliceBound, asIntOf, h.1, h.2]⟩
theorem pv_pnil {a : Option Addr} (ht : isT P t (fun x => x matches .pointer _) = true) (hx : ev l x = some (.pointer a)) (hy : ev l y = some (.pointer none)) : Pv P n l ⟨d, .binOp .eql t x y t', ty, pos, af, g⟩ (.bool a.isNone) w := ⟨fun A hA => by
  obtain ⟨u, hu, h2⟩ := isT_of ht
  obtain ⟨e, rfl⟩ : ∃ e, u = .pointer e := by cases u <;> first | exact ⟨_, rfl⟩ | (simp at h2; done)
  have h9 : P.underlying t = some (.pointer (P.pointee t)) := by simp [Program.pointee, hu]
  simp [execOp, hA.ev hx, hA.ev hy, eqGuard, run_eql_pointer_nil w t a h9]⟩
theorem pv_pnnil {a : Option Addr} (ht : isT P t (fun x => x matches .pointer _) = true) (hx : ev l x = some (.pointer a)) (hy : ev l y = some (.pointer none)) : Pv P n l ⟨d, .binOp .neq t x y t', ty, pos, af, g⟩ (.bool a.isSome) w := ⟨fun A hA => by
  obtain ⟨u, hu, h2⟩ := isT_of ht
  obtain ⟨e, rfl⟩ : ∃ e, u = .pointer e := by cases u <;> first | exact ⟨_, rfl⟩ | (simp at h2; done)
  have h9 : P.underlying t = some (.pointer (P.pointee t)) := by simp [Program.pointee, hu]
  cases a <;> simp [execOp, hA.ev hx, hA.ev hy, eqGuard, run_neq_pointer_nil w t _ h9]⟩
theorem lt_of_int_wrap64 {a b : Int} (hb : 0 < b) (hb2 : b ≤ 9223372036854775808) : IntKind.u64.wrap ((IntKind.u64.wrap a).tmod b) = (a % 18446744073709551616) % b := by
  rw [IntKind.wrap_u64, IntKind.wrap_u64]
  have h1 := Int.emod_nonneg a (show (18446744073709551616 : Int) ≠ 0 by omega)
  rw [Int.tmod_eq_emod_of_nonneg h1]
  have h2 := Int.emod_nonneg (a % 18446744073709551616) (show b ≠ 0 by omega)
  have h3 := Int.emod_lt_of_pos (a % 18446744073709551616) hb
  omega
end
set_option maxRecDepth 20000 in
theorem size_c {a b : ByteArray} (ha : a.size + b.size ≤ 9223372036854775807) (w : World) : Calls Tryd.prog 49 #[.agg #[.string a, .string b]] w fun e w' => e = .returned (.int .i64 ((a.size + b.size : Nat) : Int)) ∧ Below w.heap.size w w' := by
  have hE := Ext.refl w
  have hw := Below.refl w.heap.size w
  refine fn_enter 10 Tryd.func49 rfl rfl rfl ?_
  repeat' (first | (refine lw_pure rfl (pv_move rfl) ?_) | (refine lw_pure rfl (pv_assign rfl) ?_) | (refine is_cw ?_; first | (refine cw_seq ?_) | (refine cw_region ?_) | (refine cw_ret ?_)) | (refine is_qw ?_; first | (with_reducible refine qw_then ?_) | (with_reducible refine qw_then_ret ?_)) | (refine lw_nil ?_) | ((refine is_bin ?_; first | (refine lw_pure rfl (pv_inc rfl rfl (by omega)) ?_) | (refine lw_pure rfl (pv_add rfl rfl (by omega)) ?_))) | ((refine is_load ?_; first | (refine lw_pure rfl (pv_load (t1 rfl) rfl (by first | fail)) ?_) | (refine lw_pure rfl (pv_loada (tA rfl) rfl (by first | fail) (by rfl)) ?_))) | ((refine is_fa ?_; first | (refine lw_pure rfl (pv_fa (tF rfl) rfl) ?_))) | ((refine is_bi ?_; first | (refine lw_pure rfl (pv_lenl (tS rfl) rfl) ?_) | (refine lw_pure rfl (pv_lens (tStr rfl) rfl) ?_))))
  refine lw_boxN rfl rfl (cs := [.string a, .string b]) rfl ?_; intro N1 w1 hN1 HV hb
  replace hw := grow_trans hw hb
  clear hb
  replace hE := hE.mono hw; clear hw; have hw := Below.refl w1.heap.size w1
  repeat' (first | (refine lw_pure rfl (pv_move rfl) ?_) | (refine lw_pure rfl (pv_assign rfl) ?_) | (refine is_cw ?_; first | (refine cw_seq ?_) | (refine cw_region ?_) | (refine cw_ret ?_)) | (refine is_qw ?_; first | (with_reducible refine qw_then ?_) | (with_reducible refine qw_then_ret ?_)) | (refine lw_nil ?_) | ((refine is_bin ?_; first | (refine lw_pure rfl (pv_inc rfl rfl (by omega)) ?_) | (refine lw_pure rfl (pv_add rfl rfl (by omega)) ?_))) | ((refine is_load ?_; first | (refine lw_pure rfl (pv_load (t1 rfl) rfl (by first | exact PT.ld0 (HV.mono hw) rfl | exact PT.ld (HV.mono hw) rfl)) ?_) | (refine lw_pure rfl (pv_loada (tA rfl) rfl (by first | exact PT.lda (HV.mono hw)) (by rfl)) ?_))) | ((refine is_fa ?_; first | (refine lw_pure rfl (pv_fa (tF rfl) rfl) ?_))) | ((refine is_bi ?_; first | (refine lw_pure rfl (pv_lenl (tS rfl) rfl) ?_) | (refine lw_pure rfl (pv_lens (tStr rfl) rfl) ?_))))
  exact qw_ret1 rfl rfl ⟨by rw [Int.natCast_add], (hE.mono hw).b⟩

theorem tpD : isT Tryd.prog 26 (fun x => x matches .pointer _) = true := by kernel_rfl
theorem zF (w : World) : (zeroValue 78).run Tryd.prog w = .ok (evF (emptyB, emptyB)) w := by kernel_rfl
set_option maxRecDepth 20000 in
theorem down0_c {w : World} {N B : Nat} {d : Dsk} (h : DkW w N B d) (hk : d.dark = false) : Calls Tryd.prog 44 #[.pointer (some ⟨N, 0, none⟩)] w fun e w' => e = .returned (.int .i64 0) ∧ Below w.heap.size w w' := by
  have H := h.obj
  rw [hk] at H
  have hw := Below.refl w.heap.size w
  refine fn_enter 11 Tryd.func44 rfl rfl rfl ?_
  repeat' (first | (refine lw_pure rfl (pv_move rfl) ?_) | (refine lw_pure rfl (pv_assign rfl) ?_) | (refine is_cw ?_; first | (refine cw_seq ?_) | (refine cw_region ?_) | (refine cw_true rfl rfl ?_) | (refine cw_false rfl rfl ?_) | (refine cw_true rfl (by first | assumption | exact decide_eq_true (by omega) | exact dec_notT (by omega)) ?_) | (refine cw_false rfl (by first | assumption | exact decide_eq_false (by omega) | exact dec_notF (by omega)) ?_) | (refine cw_skip ?_) | (refine cw_block ?_) | (refine cw_ret ?_)) | (refine is_qw ?_; first | (with_reducible refine qw_then ?_) | (with_reducible refine qw_in ?_) | (with_reducible refine qw_in_hit ?_) | (refine qw_in_miss rfl ?_) | (with_reducible refine qw_then_exit ?_) | (with_reducible refine qw_then_ret ?_) | (with_reducible refine qw_in_ret ?_)) | (refine lw_nil ?_) | ((refine is_bin ?_; first | (refine lw_pure rfl (pv_pnil tpD rfl rfl) ?_) | (refine lw_pure rfl (pv_eql rfl rfl) ?_))) | ((refine is_load ?_; first | (refine lw_pure rfl (pv_load (t1 rfl) rfl (by first | exact PT.ld0 (H.mono hw) rfl | exact PT.ld (H.mono hw) rfl)) ?_) | (refine lw_pure rfl (pv_loada (tA rfl) rfl (by first | exact PT.lda (H.mono hw)) (by rfl)) ?_))) | ((refine is_fa ?_; first | (refine lw_pure rfl (pv_fa (tF rfl) rfl) ?_))) | (refine lw_pure rfl (pv_nilp rfl) ?_) | (refine lw_pure0 (pv_nilp rfl) ?_))
  exact qw_ret1 rfl rfl ⟨rfl, hw⟩
set_option maxRecDepth 20000 in
theorem down1_c {w : World} {N B : Nat} {d : Dsk} (h : DkW w N B d) (hk : d.dark = true) : Calls Tryd.prog 44 #[.pointer (some ⟨N, 0, none⟩)] w fun e w' => e = .returned (.int .i64 45) ∧ Below w.heap.size w w' := by
  have H := h.obj
  rw [hk] at H
  have hw := Below.refl w.heap.size w
  refine fn_enter 11 Tryd.func44 rfl rfl rfl ?_
  repeat' (first | (refine lw_pure rfl (pv_move rfl) ?_) | (refine lw_pure rfl (pv_assign rfl) ?_) | (refine is_cw ?_; first | (refine cw_seq ?_) | (refine cw_region ?_) | (refine cw_true rfl rfl ?_) | (refine cw_false rfl rfl ?_) | (refine cw_true rfl (by first | assumption | exact decide_eq_true (by omega) | exact dec_notT (by omega)) ?_) | (refine cw_false rfl (by first | assumption | exact decide_eq_false (by omega) | exact dec_notF (by omega)) ?_) | (refine cw_skip ?_) | (refine cw_block ?_) | (refine cw_ret ?_)) | (refine is_qw ?_; first | (with_reducible refine qw_then ?_) | (with_reducible refine qw_in ?_) | (with_reducible refine qw_in_hit ?_) | (refine qw_in_miss rfl ?_) | (with_reducible refine qw_then_exit ?_) | (with_reducible refine qw_then_ret ?_) | (with_reducible refine qw_in_ret ?_)) | (refine lw_nil ?_) | ((refine is_bin ?_; first | (refine lw_pure rfl (pv_pnil tpD rfl rfl) ?_) | (refine lw_pure rfl (pv_eql rfl rfl) ?_))) | ((refine is_load ?_; first | (refine lw_pure rfl (pv_load (t1 rfl) rfl (by first | exact PT.ld0 (H.mono hw) rfl | exact PT.ld (H.mono hw) rfl)) ?_) | (refine lw_pure rfl (pv_loada (tA rfl) rfl (by first | exact PT.lda (H.mono hw)) (by rfl)) ?_))) | ((refine is_fa ?_; first | (refine lw_pure rfl (pv_fa (tF rfl) rfl) ?_))) | (refine lw_pure rfl (pv_nilp rfl) ?_) | (refine lw_pure0 (pv_nilp rfl) ?_))
  exact qw_ret1 rfl rfl ⟨rfl, hw⟩
set_option maxRecDepth 20000 in
theorem downn_c (w : World) : Calls Tryd.prog 44 #[.pointer none] w fun e w' => e = .returned (.int .i64 2) ∧ Below w.heap.size w w' := by
  have hw := Below.refl w.heap.size w
  refine fn_enter 11 Tryd.func44 rfl rfl rfl ?_
  repeat' (first | (refine lw_pure rfl (pv_move rfl) ?_) | (refine lw_pure rfl (pv_assign rfl) ?_) | (refine is_cw ?_; first | (refine cw_seq ?_) | (refine cw_region ?_) | (refine cw_true rfl rfl ?_) | (refine cw_false rfl rfl ?_) | (refine cw_true rfl (by first | assumption | exact decide_eq_true (by omega) | exact dec_notT (by omega)) ?_) | (refine cw_false rfl (by first | assumption | exact decide_eq_false (by omega) | exact dec_notF (by omega)) ?_) | (refine cw_skip ?_) | (refine cw_block ?_) | (refine cw_ret ?_)) | (refine is_qw ?_; first | (with_reducible refine qw_then ?_) | (with_reducible refine qw_in ?_) | (with_reducible refine qw_in_hit ?_) | (refine qw_in_miss rfl ?_) | (with_reducible refine qw_then_exit ?_) | (with_reducible refine qw_then_ret ?_) | (with_reducible refine qw_in_ret ?_)) | (refine lw_nil ?_) | ((refine is_bin ?_; first | (refine lw_pure rfl (pv_pnil tpD rfl rfl) ?_) | (refine lw_pure rfl (pv_eql rfl rfl) ?_))) | ((refine is_load ?_; first | (refine lw_pure rfl (pv_load (t1 rfl) rfl (by first | fail)) ?_) | (refine lw_pure rfl (pv_loada (tA rfl) rfl (by first | fail) (by rfl)) ?_))) | ((refine is_fa ?_; first | (refine lw_pure rfl (pv_fa (tF rfl) rfl) ?_))) | (refine lw_pure rfl (pv_nilp rfl) ?_) | (refine lw_pure0 (pv_nilp rfl) ?_))
  exact qw_ret1 rfl rfl ⟨rfl, hw⟩
set_option maxRecDepth 20000 in
theorem find45_c {w : World} {N B : Nat} {d : Dsk} (h : DkW w N B d) (hk : d.dark = true) (n : ByteArray) : Calls Tryd.prog 45 #[.pointer (some ⟨N, 0, none⟩), .string n] w fun e w' => e = .returned (.tuple #[.agg #[.string emptyB, .string emptyB], .int .i64 45]) ∧ Below w.heap.size w w' := by
  have hw := Below.refl w.heap.size w
  refine fn_enter 28 Tryd.func45 rfl rfl rfl ?_
  repeat' (first | (refine lw_pure rfl (pv_move rfl) ?_) | (refine lw_pure rfl (pv_assign rfl) ?_) | (refine is_cw ?_; first | (refine cw_seq ?_) | (refine cw_region ?_) | (refine cw_true rfl rfl ?_) | (refine cw_false rfl rfl ?_) | (refine cw_true rfl (by first | assumption | exact decide_eq_true (by omega) | exact dec_notT (by omega)) ?_) | (refine cw_false rfl (by first | assumption | exact decide_eq_false (by omega) | exact dec_notF (by omega)) ?_) | (refine cw_skip ?_) | (refine cw_ret ?_)) | (refine is_qw ?_; first | (with_reducible refine qw_then ?_) | (with_reducible refine qw_then_ret ?_)) | (refine lw_nil ?_) | ((refine is_bin ?_; first | (refine lw_pure rfl (pv_neq rfl rfl) ?_))) | ((refine is_load ?_; first | (refine lw_pure rfl (pv_load (t1 rfl) rfl (by first | fail)) ?_) | (refine lw_pure rfl (pv_loada (tA rfl) rfl (by first | fail) (by rfl)) ?_))) | ((refine is_fa ?_; first | (refine lw_pure rfl (pv_fa (tF rfl) rfl) ?_))) | ((refine is_un ?_; first | (refine lw_pure rfl (pv_not rfl) ?_))) | ((refine is_bd ?_; first | (refine lw_pure rfl (tyB_78 rfl rfl rfl) ?_))) | (refine lw_pure rfl (pv_extract rfl rfl) ?_) | (refine lw_pure rfl (pv_nilp rfl) ?_) | (refine lw_pure0 (pv_nilp rfl) ?_))
  refine lw_allocN rfl (by first | exact tyv_28 | exact tyv_29 | exact tyv_34 | exact tyv_35 | exact tyv_43 | exact tyv_44 | exact tyv_77 | exact tyv_78 | exact tyv_80 | exact tyv_81 | exact tyv_86 | exact tyv_87 | exact tyv_126 | exact tyv_127) rfl ?_; intro N4 w4 hN4 H4 hb
  replace hw := grow_trans hw hb
  clear hb
  have hw0 := hw
  replace h := h.mono hw; clear hw; have hw := Below.refl w4.heap.size w4
  repeat' (first | (refine lw_pure rfl (pv_move rfl) ?_) | (refine lw_pure rfl (pv_assign rfl) ?_) | (refine lw_call (f := 44) (by kernel_rfl) rfl rfl (down1_c (h.mono hw) hk) ?_; rintro e w1 ⟨rfl, hb⟩; refine ⟨_, rfl, ?_⟩; replace hw := grow_trans hw hb; clear hb) | (refine is_cw ?_; first | (refine cw_seq ?_) | (refine cw_region ?_) | (refine cw_true rfl rfl ?_) | (refine cw_false rfl rfl ?_) | (refine cw_true rfl (by first | assumption | exact decide_eq_true (by omega) | exact dec_notT (by omega)) ?_) | (refine cw_false rfl (by first | assumption | exact decide_eq_false (by omega) | exact dec_notF (by omega)) ?_) | (refine cw_skip ?_) | (refine cw_ret ?_)) | (refine is_qw ?_; first | (with_reducible refine qw_then ?_) | (with_reducible refine qw_then_ret ?_)) | (refine lw_nil ?_) | ((refine is_bin ?_; first | (refine lw_pure rfl (pv_neq rfl rfl) ?_))) | ((refine is_load ?_; first | (refine lw_pure rfl (pv_load (t1 rfl) rfl (by first | fail)) ?_) | (refine lw_pure rfl (pv_loada (tA rfl) rfl (by first | fail) (by rfl)) ?_))) | ((refine is_fa ?_; first | (refine lw_pure rfl (pv_fa (tF rfl) rfl) ?_))) | ((refine is_un ?_; first | (refine lw_pure rfl (pv_not rfl) ?_))) | ((refine is_bd ?_; first | (refine lw_pure rfl (tyB_78 rfl rfl rfl) ?_))) | (refine lw_pure rfl (pv_extract rfl rfl) ?_) | (refine lw_pure rfl (pv_nilp rfl) ?_) | (refine lw_pure0 (pv_nilp rfl) ?_))
  refine lw_storea (vs := [.string emptyB, .string emptyB]) (H4.mono hw) (tZ rfl) rfl rfl rfl rfl (by intro v hv; simp at hv; rcases hv with rfl | rfl <;> rfl) ?_; intro w5 H5 hg5 hz5
  replace hw := st_hw (grow_trans hw0 hw) hg5 hN4
  repeat' (first | (refine lw_pure rfl (pv_move rfl) ?_) | (refine lw_pure rfl (pv_assign rfl) ?_) | (refine is_cw ?_; first | (refine cw_seq ?_) | (refine cw_region ?_) | (refine cw_true rfl rfl ?_) | (refine cw_false rfl rfl ?_) | (refine cw_true rfl (by first | assumption | exact decide_eq_true (by omega) | exact dec_notT (by omega)) ?_) | (refine cw_false rfl (by first | assumption | exact decide_eq_false (by omega) | exact dec_notF (by omega)) ?_) | (refine cw_skip ?_) | (refine cw_ret ?_)) | (refine is_qw ?_; first | (with_reducible refine qw_then ?_) | (with_reducible refine qw_then_ret ?_)) | (refine lw_nil ?_) | ((refine is_bin ?_; first | (refine lw_pure rfl (pv_neq rfl rfl) ?_))) | ((refine is_load ?_; first | (refine lw_pure rfl (pv_load (t1 rfl) rfl (by first | fail)) ?_) | (refine lw_pure rfl (pv_loada (tA rfl) rfl (by first | fail) (by rfl)) ?_))) | ((refine is_fa ?_; first | (refine lw_pure rfl (pv_fa (tF rfl) rfl) ?_))) | ((refine is_un ?_; first | (refine lw_pure rfl (pv_not rfl) ?_))) | ((refine is_bd ?_; first | (refine lw_pure rfl (tyB_78 rfl rfl rfl) ?_))) | (refine lw_pure rfl (pv_extract rfl rfl) ?_) | (refine lw_pure rfl (pv_nilp rfl) ?_) | (refine lw_pure0 (pv_nilp rfl) ?_))
  exact qw_retct rfl rfl rfl (agg_ld (tA rfl) rfl (fun i u hu => H5.ld0 hu)) ⟨rfl, hw⟩
set_option maxRecDepth 20000 in
theorem find5_c {w : World} {N B : Nat} {d : Dsk} (h : DkW w N B d) (hk : d.dark = false) {n : ByteArray} (hn : n.size ≤ 9223372036854775807) (hg : getF d.fs n = none) : Calls Tryd.prog 45 #[.pointer (some ⟨N, 0, none⟩), .string n] w fun e w' => e = .returned (.tuple #[.agg #[.string emptyB, .string emptyB], .int .i64 5]) ∧ Below w.heap.size w w' := by
  have hw := Below.refl w.heap.size w
  refine fn_enter 28 Tryd.func45 rfl rfl rfl ?_
  repeat' (first | (refine lw_pure rfl (pv_move rfl) ?_) | (refine lw_pure rfl (pv_assign rfl) ?_) | (refine is_cw ?_; first | (refine cw_seq ?_) | (refine cw_region ?_) | (refine cw_true rfl rfl ?_) | (refine cw_false rfl rfl ?_) | (refine cw_true rfl (by first | assumption | exact decide_eq_true (by omega) | exact dec_notT (by omega)) ?_) | (refine cw_false rfl (by first | assumption | exact decide_eq_false (by omega) | exact dec_notF (by omega)) ?_) | (refine cw_skip ?_) | (refine cw_ret ?_)) | (refine is_qw ?_; first | (with_reducible refine qw_then ?_) | (with_reducible refine qw_then_ret ?_)) | (refine lw_nil ?_) | ((refine is_bin ?_; first | (refine lw_pure rfl (pv_neq rfl rfl) ?_))) | ((refine is_load ?_; first | (refine lw_pure rfl (pv_load (t1 rfl) rfl (by first | fail)) ?_) | (refine lw_pure rfl (pv_loada (tA rfl) rfl (by first | fail) (by rfl)) ?_))) | ((refine is_fa ?_; first | (refine lw_pure rfl (pv_fa (tF rfl) rfl) ?_))) | ((refine is_un ?_; first | (refine lw_pure rfl (pv_not rfl) ?_))) | ((refine is_bd ?_; first | (refine lw_pure rfl (tyB_78 rfl rfl rfl) ?_))) | (refine lw_pure rfl (pv_extract rfl rfl) ?_) | (refine lw_pure rfl (pv_nilp rfl) ?_) | (refine lw_pure0 (pv_nilp rfl) ?_))
  refine lw_allocN rfl (by first | exact tyv_28 | exact tyv_29 | exact tyv_34 | exact tyv_35 | exact tyv_43 | exact tyv_44 | exact tyv_77 | exact tyv_78 | exact tyv_80 | exact tyv_81 | exact tyv_86 | exact tyv_87 | exact tyv_126 | exact tyv_127) rfl ?_; intro N4 w4 hN4 H4 hb
  replace hw := grow_trans hw hb
  clear hb
  have hw0 := hw
  replace h := h.mono hw; clear hw; have hw := Below.refl w4.heap.size w4
  obtain ⟨m, hm, hp⟩ := h.mp
  have hs := h.ok.srt
  have H := h.obj
  have hmn : getM m n = none := by rw [perm_get (φ := fun f => (f.firm, f.pend)) hp hs, hg]; rfl
  repeat' (first | (refine lw_pure rfl (pv_move rfl) ?_) | (refine lw_pure rfl (pv_assign rfl) ?_) | (refine lw_call (f := 44) (by kernel_rfl) rfl rfl (down0_c (h.mono hw) hk) ?_; rintro e w1 ⟨rfl, hb⟩; refine ⟨_, rfl, ?_⟩; replace hw := grow_trans hw hb; clear hb) | (refine is_cw ?_; first | (refine cw_seq ?_) | (refine cw_region ?_) | (refine cw_true rfl rfl ?_) | (refine cw_false rfl rfl ?_) | (refine cw_true rfl (by first | assumption | exact decide_eq_true (by omega) | exact dec_notT (by omega)) ?_) | (refine cw_false rfl (by first | assumption | exact decide_eq_false (by omega) | exact dec_notF (by omega)) ?_) | (refine cw_skip ?_) | (refine cw_ret ?_)) | (refine is_qw ?_; first | (with_reducible refine qw_then ?_) | (with_reducible refine qw_then_ret ?_)) | (refine lw_nil ?_) | ((refine is_bin ?_; first | (refine lw_pure rfl (pv_neq rfl rfl) ?_))) | ((refine is_load ?_; first | (refine lw_pure rfl (pv_load (t1 rfl) rfl (by first | exact PT.ld0 (H.mono hw) rfl | exact PT.ld (H.mono hw) rfl)) ?_) | (refine lw_pure rfl (pv_loada (tA rfl) rfl (by first | exact PT.lda (H.mono hw)) (by rfl)) ?_))) | ((refine is_fa ?_; first | (refine lw_pure rfl (pv_fa (tF rfl) rfl) ?_))) | ((refine is_un ?_; first | (refine lw_pure rfl (pv_not rfl) ?_))) | ((refine is_bd ?_; first | (refine lw_pure rfl (tyB_78 rfl rfl rfl) ?_))) | (refine lw_pure rfl (pv_extract rfl rfl) ?_) | (refine lw_pure rfl (pv_nilp rfl) ?_) | (refine lw_pure0 (pv_nilp rfl) ?_))
  refine lw_pure rfl (pv_lookB_ok (k := n) Tryd.underlying79 keyS zF hn rfl rfl (hm.mono hw)) ?_
  rw [hmn]
  repeat' (first | (refine lw_pure rfl (pv_move rfl) ?_) | (refine lw_pure rfl (pv_assign rfl) ?_) | (refine is_cw ?_; first | (refine cw_seq ?_) | (refine cw_region ?_) | (refine cw_true rfl rfl ?_) | (refine cw_false rfl rfl ?_) | (refine cw_true rfl (by first | assumption | exact decide_eq_true (by omega) | exact dec_notT (by omega)) ?_) | (refine cw_false rfl (by first | assumption | exact decide_eq_false (by omega) | exact dec_notF (by omega)) ?_) | (refine cw_skip ?_) | (refine cw_ret ?_)) | (refine is_qw ?_; first | (with_reducible refine qw_then ?_) | (with_reducible refine qw_then_ret ?_)) | (refine lw_nil ?_) | ((refine is_bin ?_; first | (refine lw_pure rfl (pv_neq rfl rfl) ?_))) | ((refine is_load ?_; first | (refine lw_pure rfl (pv_load (t1 rfl) rfl (by first | exact PT.ld0 (H.mono hw) rfl | exact PT.ld (H.mono hw) rfl)) ?_) | (refine lw_pure rfl (pv_loada (tA rfl) rfl (by first | exact PT.lda (H.mono hw)) (by rfl)) ?_))) | ((refine is_fa ?_; first | (refine lw_pure rfl (pv_fa (tF rfl) rfl) ?_))) | ((refine is_un ?_; first | (refine lw_pure rfl (pv_not rfl) ?_))) | ((refine is_bd ?_; first | (refine lw_pure rfl (tyB_78 rfl rfl rfl) ?_))) | (refine lw_pure rfl (pv_extract rfl rfl) ?_) | (refine lw_pure rfl (pv_nilp rfl) ?_) | (refine lw_pure0 (pv_nilp rfl) ?_))
  refine lw_varN rfl (by first | exact tyv_28 | exact tyv_29 | exact tyv_34 | exact tyv_35 | exact tyv_43 | exact tyv_44 | exact tyv_77 | exact tyv_78 | exact tyv_80 | exact tyv_81 | exact tyv_86 | exact tyv_87 | exact tyv_126 | exact tyv_127) rfl (tZ rfl) (fun _ => rfl) rfl rfl ?_; intro N7 wn hN7 H7 hb; replace hN7 := Nat.le_trans hw.size hN7; replace hw := grow_trans hw hb; clear hb
  repeat' (first | (refine lw_pure rfl (pv_move rfl) ?_) | (refine lw_pure rfl (pv_assign rfl) ?_) | (refine is_cw ?_; first | (refine cw_seq ?_) | (refine cw_region ?_) | (refine cw_true rfl rfl ?_) | (refine cw_false rfl rfl ?_) | (refine cw_true rfl (by first | assumption | exact decide_eq_true (by omega) | exact dec_notT (by omega)) ?_) | (refine cw_false rfl (by first | assumption | exact decide_eq_false (by omega) | exact dec_notF (by omega)) ?_) | (refine cw_skip ?_) | (refine cw_ret ?_)) | (refine is_qw ?_; first | (with_reducible refine qw_then ?_) | (with_reducible refine qw_then_ret ?_)) | (refine lw_nil ?_) | ((refine is_bin ?_; first | (refine lw_pure rfl (pv_neq rfl rfl) ?_))) | ((refine is_load ?_; first | (refine lw_pure rfl (pv_load (t1 rfl) rfl (by first | exact PT.ld0 (H.mono hw) rfl | exact PT.ld (H.mono hw) rfl)) ?_) | (refine lw_pure rfl (pv_loada (tA rfl) rfl (by first | exact PT.lda (H.mono hw)) (by rfl)) ?_))) | ((refine is_fa ?_; first | (refine lw_pure rfl (pv_fa (tF rfl) rfl) ?_))) | ((refine is_un ?_; first | (refine lw_pure rfl (pv_not rfl) ?_))) | ((refine is_bd ?_; first | (refine lw_pure rfl (tyB_78 rfl rfl rfl) ?_))) | (refine lw_pure rfl (pv_extract rfl rfl) ?_) | (refine lw_pure rfl (pv_nilp rfl) ?_) | (refine lw_pure0 (pv_nilp rfl) ?_))
  refine lw_storea (vs := [.string emptyB, .string emptyB]) (H4.mono hw) (tZ rfl) rfl rfl rfl rfl (by intro v hv; simp at hv; rcases hv with rfl | rfl <;> rfl) ?_; intro w5 H5 hg5 hz5
  replace hw := st_hw (grow_trans hw0 hw) hg5 hN4
  repeat' (first | (refine lw_pure rfl (pv_move rfl) ?_) | (refine lw_pure rfl (pv_assign rfl) ?_) | (refine is_cw ?_; first | (refine cw_seq ?_) | (refine cw_region ?_) | (refine cw_true rfl rfl ?_) | (refine cw_false rfl rfl ?_) | (refine cw_true rfl (by first | assumption | exact decide_eq_true (by omega) | exact dec_notT (by omega)) ?_) | (refine cw_false rfl (by first | assumption | exact decide_eq_false (by omega) | exact dec_notF (by omega)) ?_) | (refine cw_skip ?_) | (refine cw_ret ?_)) | (refine is_qw ?_; first | (with_reducible refine qw_then ?_) | (with_reducible refine qw_then_ret ?_)) | (refine lw_nil ?_) | ((refine is_bin ?_; first | (refine lw_pure rfl (pv_neq rfl rfl) ?_))) | ((refine is_load ?_; first | (refine lw_pure rfl (pv_load (t1 rfl) rfl (by first | fail)) ?_) | (refine lw_pure rfl (pv_loada (tA rfl) rfl (by first | fail) (by rfl)) ?_))) | ((refine is_fa ?_; first | (refine lw_pure rfl (pv_fa (tF rfl) rfl) ?_))) | ((refine is_un ?_; first | (refine lw_pure rfl (pv_not rfl) ?_))) | ((refine is_bd ?_; first | (refine lw_pure rfl (tyB_78 rfl rfl rfl) ?_))) | (refine lw_pure rfl (pv_extract rfl rfl) ?_) | (refine lw_pure rfl (pv_nilp rfl) ?_) | (refine lw_pure0 (pv_nilp rfl) ?_))
  exact qw_retct rfl rfl rfl (agg_ld (tA rfl) rfl (fun i u hu => H5.ld0 hu)) ⟨rfl, hw⟩
set_option maxRecDepth 20000 in
theorem find0_c {w : World} {N B : Nat} {d : Dsk} (h : DkW w N B d) (hk : d.dark = false) {n : ByteArray} (hn : n.size ≤ 9223372036854775807) {f : Fil} (hg : getF d.fs n = some f) : Calls Tryd.prog 45 #[.pointer (some ⟨N, 0, none⟩), .string n] w fun e w' => e = .returned (.tuple #[.agg #[.string f.firm, .string f.pend], .int .i64 0]) ∧ Below w.heap.size w w' := by
  have hw := Below.refl w.heap.size w
  refine fn_enter 28 Tryd.func45 rfl rfl rfl ?_
  repeat' (first | (refine lw_pure rfl (pv_move rfl) ?_) | (refine lw_pure rfl (pv_assign rfl) ?_) | (refine is_cw ?_; first | (refine cw_seq ?_) | (refine cw_region ?_) | (refine cw_true rfl rfl ?_) | (refine cw_false rfl rfl ?_) | (refine cw_true rfl (by first | assumption | exact decide_eq_true (by omega) | exact dec_notT (by omega)) ?_) | (refine cw_false rfl (by first | assumption | exact decide_eq_false (by omega) | exact dec_notF (by omega)) ?_) | (refine cw_skip ?_) | (refine cw_ret ?_)) | (refine is_qw ?_; first | (with_reducible refine qw_then ?_) | (with_reducible refine qw_then_ret ?_)) | (refine lw_nil ?_) | ((refine is_bin ?_; first | (refine lw_pure rfl (pv_neq rfl rfl) ?_))) | ((refine is_load ?_; first | (refine lw_pure rfl (pv_load (t1 rfl) rfl (by first | fail)) ?_) | (refine lw_pure rfl (pv_loada (tA rfl) rfl (by first | fail) (by rfl)) ?_))) | ((refine is_fa ?_; first | (refine lw_pure rfl (pv_fa (tF rfl) rfl) ?_))) | ((refine is_un ?_; first | (refine lw_pure rfl (pv_not rfl) ?_))) | ((refine is_bd ?_; first | (refine lw_pure rfl (tyB_78 rfl rfl rfl) ?_))) | (refine lw_pure rfl (pv_extract rfl rfl) ?_) | (refine lw_pure rfl (pv_nilp rfl) ?_) | (refine lw_pure0 (pv_nilp rfl) ?_))
  refine lw_allocN rfl (by first | exact tyv_28 | exact tyv_29 | exact tyv_34 | exact tyv_35 | exact tyv_43 | exact tyv_44 | exact tyv_77 | exact tyv_78 | exact tyv_80 | exact tyv_81 | exact tyv_86 | exact tyv_87 | exact tyv_126 | exact tyv_127) rfl ?_; intro N4 w4 hN4 H4 hb
  replace hw := grow_trans hw hb
  clear hb
  have hw0 := hw
  replace h := h.mono hw; clear hw; have hw := Below.refl w4.heap.size w4
  obtain ⟨m, hm, hp⟩ := h.mp
  have hs := h.ok.srt
  have H := h.obj
  have hmn : getM m n = some (f.firm, f.pend) := by rw [perm_get (φ := fun f => (f.firm, f.pend)) hp hs, hg]; rfl
  repeat' (first | (refine lw_pure rfl (pv_move rfl) ?_) | (refine lw_pure rfl (pv_assign rfl) ?_) | (refine lw_call (f := 44) (by kernel_rfl) rfl rfl (down0_c (h.mono hw) hk) ?_; rintro e w1 ⟨rfl, hb⟩; refine ⟨_, rfl, ?_⟩; replace hw := grow_trans hw hb; clear hb) | (refine is_cw ?_; first | (refine cw_seq ?_) | (refine cw_region ?_) | (refine cw_true rfl rfl ?_) | (refine cw_false rfl rfl ?_) | (refine cw_true rfl (by first | assumption | exact decide_eq_true (by omega) | exact dec_notT (by omega)) ?_) | (refine cw_false rfl (by first | assumption | exact decide_eq_false (by omega) | exact dec_notF (by omega)) ?_) | (refine cw_skip ?_) | (refine cw_ret ?_)) | (refine is_qw ?_; first | (with_reducible refine qw_then ?_) | (with_reducible refine qw_then_ret ?_)) | (refine lw_nil ?_) | ((refine is_bin ?_; first | (refine lw_pure rfl (pv_neq rfl rfl) ?_))) | ((refine is_load ?_; first | (refine lw_pure rfl (pv_load (t1 rfl) rfl (by first | exact PT.ld0 (H.mono hw) rfl | exact PT.ld (H.mono hw) rfl)) ?_) | (refine lw_pure rfl (pv_loada (tA rfl) rfl (by first | exact PT.lda (H.mono hw)) (by rfl)) ?_))) | ((refine is_fa ?_; first | (refine lw_pure rfl (pv_fa (tF rfl) rfl) ?_))) | ((refine is_un ?_; first | (refine lw_pure rfl (pv_not rfl) ?_))) | ((refine is_bd ?_; first | (refine lw_pure rfl (tyB_78 rfl rfl rfl) ?_))) | (refine lw_pure rfl (pv_extract rfl rfl) ?_) | (refine lw_pure rfl (pv_nilp rfl) ?_) | (refine lw_pure0 (pv_nilp rfl) ?_))
  refine lw_pure rfl (pv_lookB_ok (k := n) Tryd.underlying79 keyS zF hn rfl rfl (hm.mono hw)) ?_
  rw [hmn]
  repeat' (first | (refine lw_pure rfl (pv_move rfl) ?_) | (refine lw_pure rfl (pv_assign rfl) ?_) | (refine is_cw ?_; first | (refine cw_seq ?_) | (refine cw_region ?_) | (refine cw_true rfl rfl ?_) | (refine cw_false rfl rfl ?_) | (refine cw_true rfl (by first | assumption | exact decide_eq_true (by omega) | exact dec_notT (by omega)) ?_) | (refine cw_false rfl (by first | assumption | exact decide_eq_false (by omega) | exact dec_notF (by omega)) ?_) | (refine cw_skip ?_) | (refine cw_ret ?_)) | (refine is_qw ?_; first | (with_reducible refine qw_then ?_) | (with_reducible refine qw_then_ret ?_)) | (refine lw_nil ?_) | ((refine is_bin ?_; first | (refine lw_pure rfl (pv_neq rfl rfl) ?_))) | ((refine is_load ?_; first | (refine lw_pure rfl (pv_load (t1 rfl) rfl (by first | exact PT.ld0 (H.mono hw) rfl | exact PT.ld (H.mono hw) rfl)) ?_) | (refine lw_pure rfl (pv_loada (tA rfl) rfl (by first | exact PT.lda (H.mono hw)) (by rfl)) ?_))) | ((refine is_fa ?_; first | (refine lw_pure rfl (pv_fa (tF rfl) rfl) ?_))) | ((refine is_un ?_; first | (refine lw_pure rfl (pv_not rfl) ?_))) | ((refine is_bd ?_; first | (refine lw_pure rfl (tyB_78 rfl rfl rfl) ?_))) | (refine lw_pure rfl (pv_extract rfl rfl) ?_) | (refine lw_pure rfl (pv_nilp rfl) ?_) | (refine lw_pure0 (pv_nilp rfl) ?_))
  refine lw_varN rfl (by first | exact tyv_28 | exact tyv_29 | exact tyv_34 | exact tyv_35 | exact tyv_43 | exact tyv_44 | exact tyv_77 | exact tyv_78 | exact tyv_80 | exact tyv_81 | exact tyv_86 | exact tyv_87 | exact tyv_126 | exact tyv_127) rfl (tZ rfl) (fun _ => rfl) rfl rfl ?_; intro N7 wn hN7 H7 hb; replace hN7 := Nat.le_trans hw.size hN7; replace hw := grow_trans hw hb; clear hb
  repeat' (first | (refine lw_pure rfl (pv_move rfl) ?_) | (refine lw_pure rfl (pv_assign rfl) ?_) | (refine is_cw ?_; first | (refine cw_seq ?_) | (refine cw_region ?_) | (refine cw_true rfl rfl ?_) | (refine cw_false rfl rfl ?_) | (refine cw_true rfl (by first | assumption | exact decide_eq_true (by omega) | exact dec_notT (by omega)) ?_) | (refine cw_false rfl (by first | assumption | exact decide_eq_false (by omega) | exact dec_notF (by omega)) ?_) | (refine cw_skip ?_) | (refine cw_ret ?_)) | (refine is_qw ?_; first | (with_reducible refine qw_then ?_) | (with_reducible refine qw_then_ret ?_)) | (refine lw_nil ?_) | ((refine is_bin ?_; first | (refine lw_pure rfl (pv_neq rfl rfl) ?_))) | ((refine is_load ?_; first | (refine lw_pure rfl (pv_load (t1 rfl) rfl (by first | exact PT.ld0 H7 rfl | exact PT.ld H7 rfl)) ?_) | (refine lw_pure rfl (pv_loada (tA rfl) rfl (by first | exact PT.lda H7) (by rfl)) ?_))) | ((refine is_fa ?_; first | (refine lw_pure rfl (pv_fa (tF rfl) rfl) ?_))) | ((refine is_un ?_; first | (refine lw_pure rfl (pv_not rfl) ?_))) | ((refine is_bd ?_; first | (refine lw_pure rfl (tyB_78 rfl rfl rfl) ?_))) | (refine lw_pure rfl (pv_extract rfl rfl) ?_) | (refine lw_pure rfl (pv_nilp rfl) ?_) | (refine lw_pure0 (pv_nilp rfl) ?_))
  refine lw_storea (vs := [.string f.firm, .string f.pend]) (H4.mono hw) (tZ rfl) rfl rfl rfl rfl (by intro v hv; simp at hv; rcases hv with rfl | rfl <;> rfl) ?_; intro w5 H5 hg5 hz5
  replace hw := st_hw (grow_trans hw0 hw) hg5 hN4
  repeat' (first | (refine lw_pure rfl (pv_move rfl) ?_) | (refine lw_pure rfl (pv_assign rfl) ?_) | (refine is_cw ?_; first | (refine cw_seq ?_) | (refine cw_region ?_) | (refine cw_true rfl rfl ?_) | (refine cw_false rfl rfl ?_) | (refine cw_true rfl (by first | assumption | exact decide_eq_true (by omega) | exact dec_notT (by omega)) ?_) | (refine cw_false rfl (by first | assumption | exact decide_eq_false (by omega) | exact dec_notF (by omega)) ?_) | (refine cw_skip ?_) | (refine cw_ret ?_)) | (refine is_qw ?_; first | (with_reducible refine qw_then ?_) | (with_reducible refine qw_then_ret ?_)) | (refine lw_nil ?_) | ((refine is_bin ?_; first | (refine lw_pure rfl (pv_neq rfl rfl) ?_))) | ((refine is_load ?_; first | (refine lw_pure rfl (pv_load (t1 rfl) rfl (by first | fail)) ?_) | (refine lw_pure rfl (pv_loada (tA rfl) rfl (by first | fail) (by rfl)) ?_))) | ((refine is_fa ?_; first | (refine lw_pure rfl (pv_fa (tF rfl) rfl) ?_))) | ((refine is_un ?_; first | (refine lw_pure rfl (pv_not rfl) ?_))) | ((refine is_bd ?_; first | (refine lw_pure rfl (tyB_78 rfl rfl rfl) ?_))) | (refine lw_pure rfl (pv_extract rfl rfl) ?_) | (refine lw_pure rfl (pv_nilp rfl) ?_) | (refine lw_pure0 (pv_nilp rfl) ?_))
  exact qw_retct rfl rfl rfl (agg_ld (tA rfl) rfl (fun i u hu => H5.ld0 hu)) ⟨rfl, hw⟩
def Acts (N B g : Nat) (caps : Array Value) (d : Dsk) (fs : List Fil) (w : World) : Prop := ∀ w1 d1, DkW w1 N B d1 → d1.fs = d.fs → Gw N N w w1 → Calls Tryd.prog g caps w1 fun e w' => (∃ v, e = .returned v) ∧ (∃ m, MpB evF w' B m ∧ m.Perm (mapF fs)) ∧ Gw B B w1 w'
theorem doD_0 {d : Dsk} (h : d.left = 0) (fs : List Fil) : doD d fs = (45, darkD d) := by unfold doD; rw [if_pos h]
theorem doD_1 {d : Dsk} (h : ¬ d.left = 0) (fs : List Fil) : doD d fs = (0, { tickD d with fs := fs }) := by unfold doD; rw [if_neg h]
theorem grown_pt {w w' : World} {N B : Nat} {d d' : Dsk} (h : DkW w N B d) (hg : w.grownBy w' (some N)) (ho : PT w' N 81 [.map (some B), .int .i64 d'.cap, .int .i64 d'.left, .bool d'.dark]) (hf : d'.fs = d.fs) (hok : DskOk d') : DkW w' N B d' := by
  obtain ⟨m, h1, h2⟩ := h.mp
  exact ⟨ho, ⟨m, h1.gw (a := N) (b := N) (Gw.of_a hg) h.ne.symm h.ne.symm, by rw [hf]; exact h2⟩, hok⟩
set_option maxRecDepth 20000 in
theorem do_c {w : World} {N B g : Nat} {caps : Array Value} {d : Dsk} {fs : List Fil} (h : DkW w N B d) (hok : DskOk { d with fs := fs }) (he : entersB Tryd.prog g = true) (ha : Acts N B g caps d fs w) : Calls Tryd.prog 50 #[.pointer (some ⟨N, 0, none⟩), .func (.func g) #[] caps] w fun e w' => e = .returned (.int .i64 (doD d fs).1) ∧ DkW w' N B (doD d fs).2 ∧ Gw N B w w' := by
  have H := h.obj
  have hw := Below.refl w.heap.size w
  refine fn_enter 25 Tryd.func50 rfl rfl rfl ?_
  repeat' ((fail_if_success (refine is_seqb ?_)); (fail_if_success (refine is_blk ?_)); first | (refine lw_pure rfl (pv_move rfl) ?_) | (refine lw_pure rfl (pv_assign rfl) ?_) | (refine is_cw ?_; first | (refine cw_seq ?_) | (refine cw_region ?_) | (refine cw_true rfl rfl ?_) | (refine cw_false rfl rfl ?_) | (refine cw_true rfl (by first | assumption | exact decide_eq_true (by omega) | exact dec_notT (by omega)) ?_) | (refine cw_false rfl (by first | assumption | exact decide_eq_false (by omega) | exact dec_notF (by omega)) ?_) | (refine cw_skip ?_) | (refine cw_block ?_) | (refine cw_ret ?_)) | (refine is_qw ?_; first | (with_reducible refine qw_then ?_) | (with_reducible refine qw_in ?_) | (with_reducible refine qw_in_hit ?_) | (refine qw_in_miss rfl ?_) | (with_reducible refine qw_then_exit ?_) | (with_reducible refine qw_then_ret ?_) | (with_reducible refine qw_in_ret ?_)) | (refine lw_nil ?_) | ((refine is_bin ?_; first | (refine lw_pure rfl (pv_eql rfl rfl) ?_) | (refine lw_pure rfl (pv_sub rfl rfl (by omega)) ?_))) | ((refine is_load ?_; first | (refine lw_pure rfl (pv_load (t1 rfl) rfl (by first | exact PT.ld0 (H.mono hw) rfl | exact PT.ld (H.mono hw) rfl)) ?_) | (refine lw_pure rfl (pv_loada (tA rfl) rfl (by first | exact PT.lda (H.mono hw)) (by rfl)) ?_))) | ((refine is_fa ?_; first | (refine lw_pure rfl (pv_fa (tF rfl) rfl) ?_))) | (refine lw_pure rfl (pv_nilp rfl) ?_) | (refine lw_pure0 (pv_nilp rfl) ?_))
  by_cases h0 : d.left = 0
  · rw [doD_0 h0]
    repeat' (first | (refine lw_pure rfl (pv_move rfl) ?_) | (refine lw_pure rfl (pv_assign rfl) ?_) | (refine is_cw ?_; first | (refine cw_seq ?_) | (refine cw_region ?_) | (refine cw_true rfl rfl ?_) | (refine cw_false rfl rfl ?_) | (refine cw_true rfl (by first | assumption | exact decide_eq_true (by omega) | exact dec_notT (by omega)) ?_) | (refine cw_false rfl (by first | assumption | exact decide_eq_false (by omega) | exact dec_notF (by omega)) ?_) | (refine cw_skip ?_) | (refine cw_block ?_) | (refine cw_ret ?_)) | (refine is_qw ?_; first | (with_reducible refine qw_then ?_) | (with_reducible refine qw_in ?_) | (with_reducible refine qw_in_hit ?_) | (refine qw_in_miss rfl ?_) | (with_reducible refine qw_then_exit ?_) | (with_reducible refine qw_then_ret ?_) | (with_reducible refine qw_in_ret ?_)) | (refine lw_nil ?_) | ((refine is_bin ?_; first | (refine lw_pure rfl (pv_eql rfl rfl) ?_) | (refine lw_pure rfl (pv_sub rfl rfl (by omega)) ?_))) | ((refine is_load ?_; first | (refine lw_pure rfl (pv_load (t1 rfl) rfl (by first | exact PT.ld0 (H.mono hw) rfl | exact PT.ld (H.mono hw) rfl)) ?_) | (refine lw_pure rfl (pv_loada (tA rfl) rfl (by first | exact PT.lda (H.mono hw)) (by rfl)) ?_))) | ((refine is_fa ?_; first | (refine lw_pure rfl (pv_fa (tF rfl) rfl) ?_))) | (refine lw_pure rfl (pv_nilp rfl) ?_) | (refine lw_pure0 (pv_nilp rfl) ?_))
    refine lw_store (H.mono hw) (tZ rfl) rfl rfl rfl (by simp) ?_; intro w5 H5 hg5 hz5
    have hG := (Gw.of_below (a := N) (b := B) hw).trans (Gw.of_a hg5)
    have hD := grown_pt (d' := darkD d) (h.mono hw) hg5 H5 rfl h.ok.dark
    repeat' (first | (refine lw_pure rfl (pv_move rfl) ?_) | (refine lw_pure rfl (pv_assign rfl) ?_) | (refine is_cw ?_; first | (refine cw_seq ?_) | (refine cw_region ?_) | (refine cw_true rfl rfl ?_) | (refine cw_false rfl rfl ?_) | (refine cw_true rfl (by first | assumption | exact decide_eq_true (by omega) | exact dec_notT (by omega)) ?_) | (refine cw_false rfl (by first | assumption | exact decide_eq_false (by omega) | exact dec_notF (by omega)) ?_) | (refine cw_skip ?_) | (refine cw_block ?_) | (refine cw_ret ?_)) | (refine is_qw ?_; first | (with_reducible refine qw_then ?_) | (with_reducible refine qw_in ?_) | (with_reducible refine qw_in_hit ?_) | (refine qw_in_miss rfl ?_) | (with_reducible refine qw_then_exit ?_) | (with_reducible refine qw_then_ret ?_) | (with_reducible refine qw_in_ret ?_)) | (refine lw_nil ?_) | ((refine is_bin ?_; first | (refine lw_pure rfl (pv_eql rfl rfl) ?_) | (refine lw_pure rfl (pv_sub rfl rfl (by omega)) ?_))) | ((refine is_load ?_; first | (refine lw_pure rfl (pv_load (t1 rfl) rfl (by first | fail)) ?_) | (refine lw_pure rfl (pv_loada (tA rfl) rfl (by first | fail) (by rfl)) ?_))) | ((refine is_fa ?_; first | (refine lw_pure rfl (pv_fa (tF rfl) rfl) ?_))) | (refine lw_pure rfl (pv_nilp rfl) ?_) | (refine lw_pure0 (pv_nilp rfl) ?_))
    exact qw_ret1 rfl rfl ⟨rfl, hD, hG⟩
  · have hl := h.ok.left
    have hlm := h.ok.leftm
    rw [doD_1 h0]
    refine cw_cutq (σ := Unit) (fun _ => [(0, .pointer (some ⟨N, 0, none⟩)), (1, .func (.func g) #[] caps)]) (fun _ w' => DkW w' N B (tickD d) ∧ Gw N N w w') ?_ ?_
    · by_cases h1 : d.left = -1
      · have e : tickD d = d := by unfold tickD; rw [if_neg (by omega)]
        rw [e]
        repeat' (first | (refine lw_pure rfl (pv_move rfl) ?_) | (refine lw_pure rfl (pv_assign rfl) ?_) | (refine is_cw ?_; first | (refine cw_seq ?_) | (refine cw_region ?_) | (refine cw_true rfl rfl ?_) | (refine cw_false rfl rfl ?_) | (refine cw_true rfl (by first | assumption | exact decide_eq_true (by omega) | exact dec_notT (by omega)) ?_) | (refine cw_false rfl (by first | assumption | exact decide_eq_false (by omega) | exact dec_notF (by omega)) ?_) | (refine cw_skip ?_) | (refine cw_block ?_) | (refine cw_ret ?_)) | (refine is_qw ?_; first | (with_reducible refine qw_then ?_) | (with_reducible refine qw_in ?_) | (with_reducible refine qw_in_hit ?_) | (refine qw_in_miss rfl ?_) | (with_reducible refine qw_then_exit ?_) | (with_reducible refine qw_then_ret ?_) | (with_reducible refine qw_in_ret ?_)) | (refine lw_nil ?_) | ((refine is_bin ?_; first | (refine lw_pure rfl (pv_eql rfl rfl) ?_) | (refine lw_pure rfl (pv_sub rfl rfl (by omega)) ?_))) | ((refine is_load ?_; first | (refine lw_pure rfl (pv_load (t1 rfl) rfl (by first | exact PT.ld0 (H.mono hw) rfl | exact PT.ld (H.mono hw) rfl)) ?_) | (refine lw_pure rfl (pv_loada (tA rfl) rfl (by first | exact PT.lda (H.mono hw)) (by rfl)) ?_))) | ((refine is_fa ?_; first | (refine lw_pure rfl (pv_fa (tF rfl) rfl) ?_))) | (refine lw_pure rfl (pv_nilp rfl) ?_) | (refine lw_pure0 (pv_nilp rfl) ?_))
        refine qw_join () (by repeat' (first | exact trivial | refine ⟨rfl, ?_⟩)) ⟨h.mono hw, Gw.of_below hw⟩
      · have e : tickD d = { d with left := d.left - 1 } := by unfold tickD; rw [if_pos (by omega)]
        have hok2 := h.ok.tick
        rw [e] at hok2 ⊢
        repeat' (first | (refine lw_pure rfl (pv_move rfl) ?_) | (refine lw_pure rfl (pv_assign rfl) ?_) | (refine is_cw ?_; first | (refine cw_seq ?_) | (refine cw_region ?_) | (refine cw_true rfl rfl ?_) | (refine cw_false rfl rfl ?_) | (refine cw_true rfl (by first | assumption | exact decide_eq_true (by omega) | exact dec_notT (by omega)) ?_) | (refine cw_false rfl (by first | assumption | exact decide_eq_false (by omega) | exact dec_notF (by omega)) ?_) | (refine cw_skip ?_) | (refine cw_block ?_) | (refine cw_ret ?_)) | (refine is_qw ?_; first | (with_reducible refine qw_then ?_) | (with_reducible refine qw_in ?_) | (with_reducible refine qw_in_hit ?_) | (refine qw_in_miss rfl ?_) | (with_reducible refine qw_then_exit ?_) | (with_reducible refine qw_then_ret ?_) | (with_reducible refine qw_in_ret ?_)) | (refine lw_nil ?_) | ((refine is_bin ?_; first | (refine lw_pure rfl (pv_eql rfl rfl) ?_) | (refine lw_pure rfl (pv_sub rfl rfl (by omega)) ?_))) | ((refine is_load ?_; first | (refine lw_pure rfl (pv_load (t1 rfl) rfl (by first | exact PT.ld0 (H.mono hw) rfl | exact PT.ld (H.mono hw) rfl)) ?_) | (refine lw_pure rfl (pv_loada (tA rfl) rfl (by first | exact PT.lda (H.mono hw)) (by rfl)) ?_))) | ((refine is_fa ?_; first | (refine lw_pure rfl (pv_fa (tF rfl) rfl) ?_))) | (refine lw_pure rfl (pv_nilp rfl) ?_) | (refine lw_pure0 (pv_nilp rfl) ?_))
        refine lw_store (H.mono hw) (tZ rfl) rfl rfl rfl (by simp) ?_; intro w5 H5 hg5 hz5
        have hG := (Gw.of_below (a := N) (b := N) hw).trans (Gw.of_a hg5)
        have hD := grown_pt (d' := { d with left := d.left - 1 }) (h.mono hw) hg5 H5 rfl hok2
        repeat' (first | (refine lw_pure rfl (pv_move rfl) ?_) | (refine lw_pure rfl (pv_assign rfl) ?_) | (refine is_cw ?_; first | (refine cw_seq ?_) | (refine cw_region ?_) | (refine cw_true rfl rfl ?_) | (refine cw_false rfl rfl ?_) | (refine cw_true rfl (by first | assumption | exact decide_eq_true (by omega) | exact dec_notT (by omega)) ?_) | (refine cw_false rfl (by first | assumption | exact decide_eq_false (by omega) | exact dec_notF (by omega)) ?_) | (refine cw_skip ?_) | (refine cw_block ?_) | (refine cw_ret ?_)) | (refine is_qw ?_; first | (with_reducible refine qw_then ?_) | (with_reducible refine qw_in ?_) | (with_reducible refine qw_in_hit ?_) | (refine qw_in_miss rfl ?_) | (with_reducible refine qw_then_exit ?_) | (with_reducible refine qw_then_ret ?_) | (with_reducible refine qw_in_ret ?_)) | (refine lw_nil ?_) | ((refine is_bin ?_; first | (refine lw_pure rfl (pv_eql rfl rfl) ?_) | (refine lw_pure rfl (pv_sub rfl rfl (by omega)) ?_))) | ((refine is_load ?_; first | (refine lw_pure rfl (pv_load (t1 rfl) rfl (by first | fail)) ?_) | (refine lw_pure rfl (pv_loada (tA rfl) rfl (by first | fail) (by rfl)) ?_))) | ((refine is_fa ?_; first | (refine lw_pure rfl (pv_fa (tF rfl) rfl) ?_))) | (refine lw_pure rfl (pv_nilp rfl) ?_) | (refine lw_pure0 (pv_nilp rfl) ?_))
        refine qw_join () (by repeat' (first | exact trivial | refine ⟨rfl, ?_⟩)) ⟨hD, hG⟩
    · rintro _ w1 ⟨hD, hG⟩
      clear hw H
      have hw := Below.refl w1.heap.size w1
      have ha2 := ha w1 (tickD d) hD rfl hG
      rw [show caps = #[] ++ ([] : List Value).toArray ++ caps from by simp] at ha2
      repeat' (first | (refine lw_pure rfl (pv_move rfl) ?_) | (refine lw_pure rfl (pv_assign rfl) ?_) | (refine lw_callv (f := g) rfl he rfl rfl ha2 ?_; rintro e w2 ⟨⟨v, rfl⟩, ⟨m, hm, hp⟩, hG2⟩; refine ⟨_, rfl, ?_⟩) | (refine is_cw ?_; first | (refine cw_seq ?_) | (refine cw_region ?_) | (refine cw_true rfl rfl ?_) | (refine cw_false rfl rfl ?_) | (refine cw_true rfl (by first | assumption | exact decide_eq_true (by omega) | exact dec_notT (by omega)) ?_) | (refine cw_false rfl (by first | assumption | exact decide_eq_false (by omega) | exact dec_notF (by omega)) ?_) | (refine cw_skip ?_) | (refine cw_block ?_) | (refine cw_ret ?_)) | (refine is_qw ?_; first | (with_reducible refine qw_then ?_) | (with_reducible refine qw_in ?_) | (with_reducible refine qw_in_hit ?_) | (refine qw_in_miss rfl ?_) | (with_reducible refine qw_then_exit ?_) | (with_reducible refine qw_then_ret ?_) | (with_reducible refine qw_in_ret ?_)) | (refine lw_nil ?_) | ((refine is_bin ?_; first | (refine lw_pure rfl (pv_eql rfl rfl) ?_) | (refine lw_pure rfl (pv_sub rfl rfl (by omega)) ?_))) | ((refine is_load ?_; first | (refine lw_pure rfl (pv_load (t1 rfl) rfl (by first | fail)) ?_) | (refine lw_pure rfl (pv_loada (tA rfl) rfl (by first | fail) (by rfl)) ?_))) | ((refine is_fa ?_; first | (refine lw_pure rfl (pv_fa (tF rfl) rfl) ?_))) | (refine lw_pure rfl (pv_nilp rfl) ?_) | (refine lw_pure0 (pv_nilp rfl) ?_))
      have hne := h.ne
      have hD2 : DkW w2 N B { tickD d with fs := fs } := ⟨hD.obj.gw hG2 hne hne, ⟨m, hm, hp⟩, hok.tick⟩
      have hG3 : Gw N B w w2 := (hG.wide B).trans (hG2.wide N).swap
      clear hw
      have hw := Below.refl w2.heap.size w2
      repeat' (first | (refine lw_pure rfl (pv_move rfl) ?_) | (refine lw_pure rfl (pv_assign rfl) ?_) | (refine is_cw ?_; first | (refine cw_seq ?_) | (refine cw_region ?_) | (refine cw_true rfl rfl ?_) | (refine cw_false rfl rfl ?_) | (refine cw_true rfl (by first | assumption | exact decide_eq_true (by omega) | exact dec_notT (by omega)) ?_) | (refine cw_false rfl (by first | assumption | exact decide_eq_false (by omega) | exact dec_notF (by omega)) ?_) | (refine cw_skip ?_) | (refine cw_block ?_) | (refine cw_ret ?_)) | (refine is_qw ?_; first | (with_reducible refine qw_then ?_) | (with_reducible refine qw_in ?_) | (with_reducible refine qw_in_hit ?_) | (refine qw_in_miss rfl ?_) | (with_reducible refine qw_then_exit ?_) | (with_reducible refine qw_then_ret ?_) | (with_reducible refine qw_in_ret ?_)) | (refine lw_nil ?_) | ((refine is_bin ?_; first | (refine lw_pure rfl (pv_eql rfl rfl) ?_) | (refine lw_pure rfl (pv_sub rfl rfl (by omega)) ?_))) | ((refine is_load ?_; first | (refine lw_pure rfl (pv_load (t1 rfl) rfl (by first | fail)) ?_) | (refine lw_pure rfl (pv_loada (tA rfl) rfl (by first | fail) (by rfl)) ?_))) | ((refine is_fa ?_; first | (refine lw_pure rfl (pv_fa (tF rfl) rfl) ?_))) | (refine lw_pure rfl (pv_nilp rfl) ?_) | (refine lw_pure0 (pv_nilp rfl) ?_))
      exact qw_ret1 rfl rfl ⟨rfl, hD2, hG3⟩
end Go.Proofs.YtncicecmhibpcaaDoor
namespace Go.Proofs.YtncicecmhibpcaaDoor
open Go.RowKit

section
variable {P : Program} {ops : Array Oper} {Q : Exit → Act → World → Prop} {md : Region.Mode} {U : World → Prop} {f : Nat}
def wpAnyF (P : Program) (md : Region.Mode) (ops : Array Oper) (Q : Exit → Act → World → Prop) (f : Nat) (U : World → Prop) : Nat → Array Bool → Act → World → Prop
  | 0, listed, a, w => Region.ready md ops listed = [] ∧ Q .normal a w
  | fuel + 1, listed, a, w =>
    (Region.ready md ops listed = [] → Q .normal a w) ∧
    ∀ i ∈ Region.ready md ops listed, wpOp P ops Q i (fun a' w' => ((listed.setIfInBounds i true).getD f true = false → U w') ∧ wpAnyF P md ops Q f U fuel (listed.setIfInBounds i true) a' w') a w
theorem wpAny_of_F : ∀ (fuel : Nat) (listed : Array Bool) (a : Act) (w : World), wpAnyF P md ops Q f U fuel listed a w → wpAny P md ops Q fuel listed a w
  | 0, _, _, _, h => h
  | fuel + 1, _, _, _, h => ⟨h.1, fun i hi => wpOp_mono (fun a' w' h' => wpAny_of_F fuel _ a' w' h'.2) (h.2 i hi)⟩
theorem wpAnyF_first {i : Nat} {oi : Oper} {v : Value} (hif : i ≠ f) (hwait : ∃ o, ops[f]? = some o ∧ ∃ e ∈ o.after, Region.binds md e = true ∧ e.on = i) (hi : ops[i]? = some oi) (hsel : ∀ (j : Nat) (o : Oper) cs b, ops[j]? = some o → o.op ≠ .select cs b)
    (hQ : ∀ c a w, Q (.panic c) (a.put oi.dst v) w → Q (.panic c) a w) :
    ∀ (fuel : Nat) (listed : Array Bool) (a : Act) (w : World),
      (∀ j oj, ops[j]? = some oj → j ≠ i → listed.getD j true = false → (∀ e ∈ oj.after, Region.binds md e = true → e.on ≠ i) → oi.apart ops oj = true) →
      i ∈ Region.ready md ops listed → listed.getD f true = false → YieldsIf P ops U oi v a → U w →
      wpAnyF P md ops Q f U fuel (listed.setIfInBounds i true) (a.put oi.dst v) w → wpAnyF P md ops Q f U (fuel + 1) listed a w := by
  intro fuel
  induction fuel with
  | zero =>
    intro listed a w _ hr _ hy hS H
    refine ⟨fun h => (by rw [h] at hr; cases hr), fun j hj => ?_⟩
    by_cases hji : j = i
    · subst hji; exact hy.wpOp hi hS ⟨fun _ => hS, H⟩
    · have := ready_mono hj hji
      rw [H.1] at this
      cases this
  | succ fuel ih =>
    intro listed a w hfree hr hf hy hS H
    refine ⟨fun h => (by rw [h] at hr; cases hr), fun j hj => ?_⟩
    by_cases hji : j = i
    · subst hji; exact hy.wpOp hi hS ⟨fun _ => hS, H⟩
    · have h1 := H.2 j (ready_mono hj hji)
      obtain ⟨hjun, oj, hoj, hall⟩ := mem_ready.1 hj
      have hun : ∀ e ∈ oj.after, Region.binds md e = true → e.on ≠ i := fun e he hb heq => by
        have h1 := hall e he hb
        have h0 := (mem_ready.1 hr).1
        rw [heq] at h1
        rcases Nat.lt_or_ge i listed.size with h' | h'
        · simp [h'] at h0 h1; rw [h0] at h1; cases h1
        · simp [Array.getElem?_eq_none h'] at h1
      have hjf : j ≠ f := fun e => by
        subst e
        obtain ⟨o, ho, e, he, hb, heq⟩ := hwait
        rw [hoj] at ho; injection ho with ho; subst ho
        exact hun e he hb heq
      have h2 := wpOp_putIf hoj (hfree j oj hoj hji hjun hun) (fun cs b => hsel i oi cs b hi) (fun cs b => hsel j oj cs b hoj) hQ hy h1
      have hfree' : ∀ k ok, ops[k]? = some ok → k ≠ i → (listed.setIfInBounds j true).getD k true = false →
          (∀ e ∈ ok.after, Region.binds md e = true → e.on ≠ i) → oi.apart ops ok = true := fun k ok hk hki hun hno => by
        refine hfree k ok hk hki ?_ hno
        by_cases hjk : j = k
        · subst hjk; exact hjun
        · rw [getD_set_ne true hjk] at hun; exact hun
      refine wpOp_mono (fun a' w' h3 => ?_) h2
      have hU' : U w' := h3.2.1 (by rw [getD_set_ne true hjf, getD_set_ne true hif]; exact hf)
      refine ⟨fun _ => hU', ih (listed.setIfInBounds j true) a' w' hfree' (ready_mono hr (Ne.symm hji)) (by rw [getD_set_ne true hjf]; exact hf) h3.1 hU' ?_⟩
      rw [Array.setIfInBounds_comm _ _ hji]
      exact h3.2.2
end
def waits (ops : Array Oper) (f i : Nat) : Bool := match ops[f]? with
  | some o => o.after.toList.any fun e => Region.binds .any e && Nat.beq e.on i
  | none => false
theorem waits_of {ops : Array Oper} {f i : Nat} (h : waits ops f i = true) : ∃ o, ops[f]? = some o ∧ ∃ e ∈ o.after, Region.binds .any e = true ∧ e.on = i := by
  unfold waits at h
  cases ho : ops[f]? with
  | none => rw [ho] at h; cases h
  | some o =>
    rw [ho] at h
    rw [List.any_eq_true] at h
    obtain ⟨e, he, h2⟩ := h
    rw [Bool.and_eq_true] at h2
    exact ⟨o, rfl, e, by simpa using he, h2.1, Nat.eq_of_beq_eq_true h2.2⟩
section
variable {n : Nat} {l : Fr} {P : Program} {w : World} {Q : Exit → Act → World → Prop} {ops : Array Oper} {U : World → Prop} {fuel : Nat} {listed : Array Bool} {f : Nat}
structure FW (P : Program) (n : Nat) (ops : Array Oper) (Q : Exit → Act → World → Prop) (f : Nat) (U : World → Prop) (fuel : Nat) (listed : Array Bool) (l : Fr) (w : World) : Prop where
  out : ∀ a, Holds n l a → wpAnyF P .any ops Q f U fuel listed a w
theorem cw_drawnF {i : Nat} {ops : Array Oper} (f : Nat) (U : World → Prop) (hm : P.follows .mixedOrders = true) (hQ : NoPanic Q) (h : NoPanic Q → FW P n ops Q f U ops.size (Array.replicate ops.size false) l w.drew) : CW P n (.region i ops true) Q l w :=
  ⟨fun a ha => wp_region_any hm (wpAny_of_F _ _ _ _ ((h hQ).out a ha))⟩
theorem fw_take (i : Nat) {d : Nat} {op : Op} {ty : TypeId} {pos : String} {af : Array Edge} {v : Value} (ho : ops[i]? = some ⟨some d, op, ty, pos, af, none⟩) (hwt : waits ops f i = true) (hif : Nat.beq i f = false) (hfl : listed.getD f true = false)
    (hs : Region.noSelect ops = true) (hf : Region.free .any ops listed i = true) (hr : (Region.ready .any ops listed).contains i = true) (hQ : NoPanic Q) (hU : U w) (hd : Nat.blt d n = true)
    (hv : ∀ w, U w → Pv P n l ⟨some d, op, ty, pos, af, none⟩ v w) (h : FW P n ops Q f U fuel (listed.setIfInBounds i true) ((d, v) :: l) w) : FW P n ops Q f U (fuel + 1) listed l w := ⟨fun a ha =>
  wpAnyF_first (fun e => by subst e; simp at hif) (waits_of hwt) ho (Region.noSelect_spec hs) (fun c a w => hQ c _ v a w) fuel listed a w (Region.free_spec ho hf) (by simpa using hr) hfl (Or.inl ⟨rfl, fun w hw => (hv w hw).out a ha⟩) hU (h.out _ (ha.put hd v))⟩
theorem fw_last {o : Oper} (hr : Region.ready .any ops listed = [f]) (ho : ops[f]? = some o) (hg : guardOn ops l o.guard = true) (hd : inD o.dst n = true) (hfs : (listed.setIfInBounds f true).getD f true = true) (he : Region.ready .any ops (listed.setIfInBounds f true) = [])
    (h : Act1 P n l o w fun v w' => QW n Q .normal (putD o.dst v l) w') : FW P n ops Q f U (fuel + 1) listed l w := ⟨fun a ha => by
  refine ⟨fun h0 => (by rw [hr] at h0; cases h0), fun j hj => ?_⟩
  rw [hr, List.mem_singleton] at hj; subst hj
  unfold wpOp; rw [ho]
  dsimp only
  rw [if_pos (wanted_of ha hg)]
  refine Or.inl (h.out a ha _ _ fun v w' hZ => ⟨fun hf => (by rw [hfs] at hf; cases hf), ?_⟩)
  have hq := hZ.out _ (ha.putD hd v)
  cases fuel with
  | zero => exact ⟨he, hq⟩
  | succ m => exact ⟨fun _ => hq, by rw [he]; simp⟩⟩
theorem act_store {T t : TypeId} {N i : Nat} {cs : List Value} {v : Value} {x y : Operand} {ty : TypeId} {pos : String} {af : Array Edge} {g : Option (Nat × Bool)} {d : Option Nat} {Z : Value → World → Prop} (hp : PT w N T cs) (ht : sizeB P t 1 = true) (hx : ev l x = some (.pointer (some ⟨N, i, none⟩))) (hy : ev l y = some v) (h1 : v.oneCell' = true) (hi : i < cs.length) (h : ∀ w', PT w' N T (cs.set i v) → w.grownBy w' (some N) → w'.heap.size = w.heap.size → Z undef w') : Act1 P n l ⟨d, .store t x y, ty, pos, af, g⟩ w Z := by
  obtain ⟨w', a, b, c, e⟩ := sv_store (d := d) (ty := ty) (pos := pos) (af := af) (g := g) (P := P) (n := n) hp ht hx hy h1 hi
  exact act_sv a (h w' b c e)
theorem act_storea {T t : TypeId} {N m : Nat} {cs vs : List Value} {x y : Operand} {ty : TypeId} {pos : String} {af : Array Edge} {g : Option (Nat × Bool)} {d : Option Nat} {Z : Value → World → Prop} (hp : PT w N T cs) (ht : sizeB P t m = true) (hx : ev l x = some (.pointer (some ⟨N, 0, none⟩))) (hy : ev l y = some (.agg vs.toArray)) (hm : vs.length = m) (hc : cs.length = m) (h1 : ∀ v ∈ vs, v.oneCell' = true) (h : ∀ w', PT w' N T vs → w.grownBy w' (some N) → w'.heap.size = w.heap.size → Z undef w') : Act1 P n l ⟨d, .store t x y, ty, pos, af, g⟩ w Z := by
  obtain ⟨w', a, b, c, e⟩ := sv_storea (d := d) (ty := ty) (pos := pos) (af := af) (g := g) (P := P) (n := n) (i := 0) hp ht hx hy hm h1 (by omega)
  refine act_sv a (h w' ?_ c e)
  have e1 : cs.take 0 ++ vs ++ cs.drop (0 + m) = vs := by rw [List.drop_of_length_le (by omega)]; simp
  rwa [e1] at b
end
theorem act_alloc {P : Program} {n : Nat} {l : Fr} {w : World} {d : Option Nat} {t ty : TypeId} {pos : String} {af : Array Edge} {g : Option (Nat × Bool)} {z : Value} {Z : Value → World → Prop} (hz : ∀ w, (zeroValue t).run P w = .ok z w) {cs : List Value} (hcs : z.cells.toList = cs) (h : ∀ N w', w.heap.size ≤ N → PT w' N t cs → Below w.heap.size w w' → Z (.pointer (some ⟨N, 0, none⟩)) w') : Act1 P n l ⟨d, .alloc t, ty, pos, af, g⟩ w Z := by
  refine act_ev (ev_alloc hz) (h _ _ (Nat.le_refl _) (hcs ▸ PT.new w _ _) (below_alloc _ _))

section
variable {n : Nat} {l : Fr} {P : Program} {w : World} {Q : Exit → Act → World → Prop} {ops : Array Oper} {U : World → Prop} {fuel : Nat} {listed : Array Bool} {f : Nat}
theorem fw_act (i : Nat) {o : Oper} (hr : Region.ready .any ops listed = [i]) (ho : ops[i]? = some o) (hg : guardOn ops l o.guard = true) (hd : inD o.dst n = true)
    (h : Act1 P n l o w fun v w' => U w' ∧ (U w' → FW P n ops Q f U fuel (listed.setIfInBounds i true) (putD o.dst v l) w')) : FW P n ops Q f U (fuel + 1) listed l w := ⟨fun a ha => by
  refine ⟨fun h0 => (by rw [hr] at h0; cases h0), fun j hj => ?_⟩
  rw [hr, List.mem_singleton] at hj; subst hj
  unfold wpOp; rw [ho]
  dsimp only
  rw [if_pos (wanted_of ha hg)]
  exact Or.inl (h.out a ha _ _ fun v w' hZ => ⟨fun _ => hZ.1, (hZ.2 hZ.1).out _ (ha.putD hd v)⟩)⟩
theorem act_pv {d : Option Nat} {op : Op} {ty : TypeId} {pos : String} {af : Array Edge} {g : Option (Nat × Bool)} {v : Value} {Z : Value → World → Prop} (hv : Pv P n l ⟨d, op, ty, pos, af, g⟩ v w) (h : Z v w) : Act1 P n l ⟨d, op, ty, pos, af, g⟩ w Z := ⟨fun a ha K Q hK => by
  unfold Oper.wp; rw [hv.out a ha]; exact hK _ _ h⟩
end
theorem own_pt_ne {α : Type} {enc : α → List Value} {k : Nat} {T T' : TypeId} {B : Nat} {w : World} {v : Value} {xs : List α} {N : Nat} {cs : List Value} (h : Own enc k T B w v xs) (hp : PT w N T' cs) (hT : T ≠ T') : v.ownBlock ≠ some N := by
  obtain ⟨_, h2⟩ := h
  rcases h2 with ⟨rfl, _⟩ | ⟨g, cap, cur, rfl, _, hg, _⟩
  · simp [Value.ownBlock]
  · intro e
    have e2 : g = N := by simpa [Value.ownBlock] using e
    subst e2
    unfold PT at hp
    rw [hg] at hp; injection hp with hp; injection hp with _ hp _; exact hT hp
section
variable {α : Type} {enc : α → List Value} {k : Nat} {T t : TypeId} {base : Nat} {w : World} {g cap : Nat} {xs : List α} {P : Program} {n : Nat} {l : Fr} {Q : Exit → Act → World → Prop} {ops : Array Oper} {os : List Oper} {ty : TypeId} {pos : String} {af : Array Edge} {x y : Operand}
theorem flat_set (hk : ∀ x, (enc x).length = k) : ∀ {xs : List α} {i : Nat} {a u : α} {f : Nat} {v : Value}, xs[i]? = some a → enc u = (enc a).set f v → f < k → (xs.set i u).flatMap enc = (xs.flatMap enc).set (i * k + f) v
  | [], _, _, _, _, _, h, _, _ => by simp at h
  | b :: r, 0, a, u, f, v, h, hu, hf => by
    simp at h; subst h
    rw [List.set_cons_zero, List.flatMap_cons, List.flatMap_cons, hu, Nat.zero_mul, Nat.zero_add, List.set_append_left _ _ (by rw [hk]; exact hf)]
  | b :: r, i + 1, a, u, f, v, h, hu, hf => by
    have h' : r[i]? = some a := by simpa using h
    rw [List.set_cons_succ, List.flatMap_cons, List.flatMap_cons, flat_set hk h' hu hf, List.set_append_right _ _ (by rw [hk, Nat.add_mul]; omega), hk]
    congr 2
    rw [Nat.add_mul]; omega
theorem lw_storeF (hk : ∀ x, (enc x).length = k) (ht : sizeB P t 1 = true) {i f o : Nat} {v : Value} {a u : α} (hx : ev l x = some (.pointer (some ⟨g, o, none⟩))) (ho : o = i * k + f) (hy : ev l y = some v) (h1 : v.oneCell' = true) (hO : Own enc k T base w (.slice (some ⟨g, 0, none⟩) xs.length cap) xs) (ha : xs[i]? = some a) (hu : enc u = (enc a).set f v) (hf : f < k)
    (h : ∀ w', Own enc k T base w' (.slice (some ⟨g, 0, none⟩) xs.length cap) (xs.set i u) → w.grownBy w' (some g) → w'.heap.size = w.heap.size → LW P n ops Q os l w') : LW P n ops Q (⟨none, .store t x y, ty, pos, af, none⟩ :: os) l w := by
  subst ho
  obtain ⟨cur, hb, hg, hle, hmax, hsz, htk⟩ := Own.heap' hO
  have hi : i < xs.length := (List.getElem?_eq_some_iff.1 ha).1
  have hik : i * k + f < xs.length * k := by
    have := Nat.mul_le_mul_right k (show i + 1 ≤ xs.length from hi); rw [Nat.add_mul, Nat.one_mul] at this; omega
  have hck : xs.length * k ≤ cap * k := Nat.mul_le_mul_right k hle
  have hp : PT w g T cur.toList := by unfold PT; simpa using hg
  obtain ⟨w', a1, b1, c1, e1⟩ := sv_store (P := P) (n := n) (l := l) (d := none) (ty := ty) (pos := pos) (af := af) (g := none) hp ht hx hy h1 (by rw [Array.length_toList, hsz]; omega)
  refine lw_skip a1 (h w' ⟨by rw [flat_len enc k hk, List.length_set], Or.inr ⟨g, cap, (cur.toList.set (i * k + f) v).toArray, by rw [List.length_set], hb, b1, by rw [List.length_set]; exact hle, hmax, by simp [hsz], ?_⟩⟩ c1 e1)
  rw [List.length_set, flat_set hk ha hu hf, ← htk]
  simp only [List.take_set]
end
end Go.Proofs.YtncicecmhibpcaaDoor
namespace Go.Proofs.YtncicecmhibpcaaDoor
open Go.RowKit Go.PlainAid

def waitsT (ops : Array Oper) : Nat → Nat → Nat → Bool
  | 0, _, _ => false
  | m + 1, f, i => match ops[f]? with
    | some o => o.after.toList.any fun e => Region.binds .any e && (Nat.beq e.on i || waitsT ops m e.on i)
    | none => false
def ClosedL (ops : Array Oper) (listed : Array Bool) : Prop := ∀ (j : Nat) (o : Oper), ops[j]? = some o → listed.getD j false = true → ∀ e ∈ o.after, Region.binds .any e = true → listed.getD e.on false = true
def closedB (ops : Array Oper) (listed : Array Bool) : Bool := (List.range ops.size).all fun j => match ops[j]? with
  | some o => !listed.getD j false || o.after.toList.all fun e => !Region.binds .any e || listed.getD e.on false
  | none => true
theorem closed_of {ops : Array Oper} {listed : Array Bool} (h : closedB ops listed = true) : ClosedL ops listed := fun j o ho hl e he hb => by
  have hj : j < ops.size := (Array.getElem?_eq_some_iff.1 ho).1
  have h1 := List.all_eq_true.1 h j (List.mem_range.2 hj)
  rw [ho] at h1
  dsimp only at h1
  rw [hl] at h1
  simp only [Bool.not_true, Bool.false_or] at h1
  have h2 := List.all_eq_true.1 h1 e (by simpa using he)
  rw [hb] at h2
  simpa using h2
theorem ClosedL.step {ops : Array Oper} {listed : Array Bool} (h : ClosedL ops listed) {i : Nat} (hi : i ∈ Region.ready .any ops listed) : ClosedL ops (listed.setIfInBounds i true) := fun j o ho hl e he hb => by
  by_cases hij : i = j
  · subst hij
    obtain ⟨_, o', ho', hall⟩ := mem_ready.1 hi
    rw [ho] at ho'; injection ho' with ho'; subst ho'
    exact getD_set_true (hall e he hb)
  · rw [getD_set_ne false hij] at hl
    exact getD_set_true (h j o ho hl e he hb)
theorem waitsT_listed {ops : Array Oper} {listed : Array Bool} (hc : ClosedL ops listed) : ∀ {m f i : Nat}, waitsT ops m f i = true → (∀ o, ops[f]? = some o → ∀ e ∈ o.after, Region.binds .any e = true → listed.getD e.on false = true) → listed.getD i false = true
  | 0, _, _, h, _ => by cases h
  | m + 1, f, i, h, hf => by
    unfold waitsT at h
    cases ho : ops[f]? with
    | none => rw [ho] at h; cases h
    | some o =>
      rw [ho] at h
      rw [List.any_eq_true] at h
      obtain ⟨e, he, h2⟩ := h
      rw [Bool.and_eq_true] at h2
      have hl := hf o ho e (by simpa using he) h2.1
      rcases (Bool.or_eq_true _ _).mp h2.2 with h3 | h3
      · rw [← Nat.eq_of_beq_eq_true h3]; exact hl
      · exact waitsT_listed hc h3 fun o' ho' e' he' hb' => hc e.on o' ho' hl e' he' hb'
section
variable {P : Program} {ops : Array Oper} {Q : Exit → Act → World → Prop} {U : World → Prop} {f : Nat}
theorem wpAnyF_firstT {i : Nat} {oi : Oper} {v : Value} {m : Nat} (hif : i ≠ f) (hwait : waitsT ops m f i = true) (hi : ops[i]? = some oi) (hsel : ∀ (j : Nat) (o : Oper) cs b, ops[j]? = some o → o.op ≠ .select cs b)
    (hQ : ∀ c a w, Q (.panic c) (a.put oi.dst v) w → Q (.panic c) a w) :
    ∀ (fuel : Nat) (listed : Array Bool) (a : Act) (w : World), ClosedL ops listed →
      (∀ j oj, ops[j]? = some oj → j ≠ i → listed.getD j true = false → (∀ e ∈ oj.after, Region.binds .any e = true → e.on ≠ i) → oi.apart ops oj = true) →
      i ∈ Region.ready .any ops listed → listed.getD f true = false → YieldsIf P ops U oi v a → U w →
      wpAnyF P .any ops Q f U fuel (listed.setIfInBounds i true) (a.put oi.dst v) w → wpAnyF P .any ops Q f U (fuel + 1) listed a w := by
  intro fuel
  induction fuel with
  | zero =>
    intro listed a w _ _ hr _ hy hS H
    refine ⟨fun h => (by rw [h] at hr; cases hr), fun j hj => ?_⟩
    by_cases hji : j = i
    · subst hji; exact hy.wpOp hi hS ⟨fun _ => hS, H⟩
    · have := ready_mono hj hji
      rw [H.1] at this
      cases this
  | succ fuel ih =>
    intro listed a w hcl hfree hr hf hy hS H
    refine ⟨fun h => (by rw [h] at hr; cases hr), fun j hj => ?_⟩
    by_cases hji : j = i
    · subst hji; exact hy.wpOp hi hS ⟨fun _ => hS, H⟩
    · have h1 := H.2 j (ready_mono hj hji)
      obtain ⟨hjun, oj, hoj, hall⟩ := mem_ready.1 hj
      have h0 := (mem_ready.1 hr).1
      have hlt : i < listed.size := by
        rcases Nat.lt_or_ge i listed.size with h' | h'
        · exact h'
        · simp [Array.getElem?_eq_none h'] at h0
      have h00 : listed.getD i false = false := by simpa [hlt] using h0
      have hun : ∀ e ∈ oj.after, Region.binds .any e = true → e.on ≠ i := fun e he hb heq => by
        have h1 := hall e he hb
        rw [heq, h00] at h1; cases h1
      have hjf : j ≠ f := fun e => by
        subst e
        have := waitsT_listed hcl hwait fun o' ho' e' he' hb' => by
          rw [hoj] at ho'; injection ho' with ho'; subst ho'
          exact hall e' he' hb'
        rw [h00] at this; cases this
      have h2 := wpOp_putIf hoj (hfree j oj hoj hji hjun hun) (fun cs b => hsel i oi cs b hi) (fun cs b => hsel j oj cs b hoj) hQ hy h1
      have hfree' : ∀ k ok, ops[k]? = some ok → k ≠ i → (listed.setIfInBounds j true).getD k true = false →
          (∀ e ∈ ok.after, Region.binds .any e = true → e.on ≠ i) → oi.apart ops ok = true := fun k ok hk hki hun hno => by
        refine hfree k ok hk hki ?_ hno
        by_cases hjk : j = k
        · subst hjk; exact hjun
        · rw [getD_set_ne true hjk] at hun; exact hun
      refine wpOp_mono (fun a' w' h3 => ?_) h2
      have hU' : U w' := h3.2.1 (by rw [getD_set_ne true hjf, getD_set_ne true hif]; exact hf)
      refine ⟨fun _ => hU', ih (listed.setIfInBounds j true) a' w' (hcl.step hj) hfree' (ready_mono hr (Ne.symm hji)) (by rw [getD_set_ne true hjf]; exact hf) h3.1 hU' ?_⟩
      rw [Array.setIfInBounds_comm _ _ hji]
      exact h3.2.2
end
section
variable {n : Nat} {l : Fr} {P : Program} {w : World} {Q : Exit → Act → World → Prop} {ops : Array Oper} {U : World → Prop} {fuel : Nat} {listed : Array Bool} {f : Nat}
theorem fw_takeT (i m : Nat) {d : Nat} {op : Op} {ty : TypeId} {pos : String} {af : Array Edge} {v : Value} (ho : ops[i]? = some ⟨some d, op, ty, pos, af, none⟩) (hwt : waitsT ops m f i = true) (hcl : closedB ops listed = true) (hif : Nat.beq i f = false) (hfl : listed.getD f true = false)
    (hs : Region.noSelect ops = true) (hf : Region.free .any ops listed i = true) (hr : (Region.ready .any ops listed).contains i = true) (hQ : NoPanic Q) (hU : U w) (hd : Nat.blt d n = true)
    (hv : ∀ w, U w → Pv P n l ⟨some d, op, ty, pos, af, none⟩ v w) (h : FW P n ops Q f U fuel (listed.setIfInBounds i true) ((d, v) :: l) w) : FW P n ops Q f U (fuel + 1) listed l w := ⟨fun a ha =>
  wpAnyF_firstT (fun e => by subst e; simp at hif) hwt ho (Region.noSelect_spec hs) (fun c a w => hQ c _ v a w) fuel listed a w (closed_of hcl) (Region.free_spec ho hf) (by simpa using hr) hfl (Or.inl ⟨rfl, fun w hw => (hv w hw).out a ha⟩) hU (h.out _ (ha.put hd v))⟩
theorem fw_one (i : Nat) {o : Oper} (hr : Region.ready .any ops listed = [i]) (ho : ops[i]? = some o) (hg : guardOn ops l o.guard = true) (hd : inD o.dst n = true) (hfs : (listed.setIfInBounds i true).getD f true = true)
    (h : Act1 P n l o w fun v w' => FW P n ops Q f U fuel (listed.setIfInBounds i true) (putD o.dst v l) w') : FW P n ops Q f U (fuel + 1) listed l w := ⟨fun a ha => by
  refine ⟨fun h0 => (by rw [hr] at h0; cases h0), fun j hj => ?_⟩
  rw [hr, List.mem_singleton] at hj; subst hj
  unfold wpOp; rw [ho]
  dsimp only
  rw [if_pos (wanted_of ha hg)]
  exact Or.inl (h.out a ha _ _ fun v w' hZ => ⟨fun hf => (by rw [hfs] at hf; cases hf), hZ.out _ (ha.putD hd v)⟩)⟩
theorem fw_done (hr : Region.ready .any ops listed = []) (h : QW n Q .normal l w) : FW P n ops Q f U fuel listed l w := ⟨fun a ha => by
  cases fuel with
  | zero => exact ⟨hr, h.out a ha⟩
  | succ m => exact ⟨fun _ => h.out a ha, by rw [hr]; simp⟩⟩
end
section
variable {P : Program} {n : Nat} {l : Fr} {w : World} {d : Option Nat} {t t' ty : TypeId} {x y : Operand} {pos : String} {af : Array Edge} {g : Option (Nat × Bool)} {a b : Int}
theorem u64_in (a : Int) (h : 0 ≤ a ∧ a ≤ 18446744073709551615) : IntKind.u64.wrap a = a := by
  rw [IntKind.wrap_u64]; omega
theorem pv_addu (hx : ev l x = some (.int .u64 a)) (hy : ev l y = some (.int .u64 b)) (h : 0 ≤ a + b ∧ a + b ≤ 18446744073709551615) : Pv P n l ⟨d, .binOp .add t x y t', ty, pos, af, g⟩ (.int .u64 (a + b)) w := by
  have := pv_add_w (P := P) (n := n) (w := w) (d := d) (ty := ty) (pos := pos) (af := af) (g := g) (t := t) (t' := t') hx hy
  rwa [u64_in _ h] at this
theorem pv_mulu (hx : ev l x = some (.int .u64 a)) (hy : ev l y = some (.int .u64 b)) (h : 0 ≤ a * b ∧ a * b ≤ 18446744073709551615) : Pv P n l ⟨d, .binOp .mul t x y t', ty, pos, af, g⟩ (.int .u64 (a * b)) w := by
  have := pv_mul_w (P := P) (n := n) (w := w) (d := d) (ty := ty) (pos := pos) (af := af) (g := g) (t := t) (t' := t') hx hy
  rwa [u64_in _ h] at this
theorem pv_convu (ht : cvB P t t' .u64 = true) {k : IntKind} (hx : ev l x = some (.int k a)) (h : 0 ≤ a ∧ a ≤ 18446744073709551615) : Pv P n l ⟨d, .convert t t' x, ty, pos, af, g⟩ (.int .u64 a) w := by
  have := pv_conv_w (P := P) (n := n) (w := w) (d := d) (ty := ty) (pos := pos) (af := af) (g := g) ht hx
  rwa [u64_in _ h] at this
theorem u64_and32 (n : Int) : bits .and .u64 n 4294967295 = n % 4294967296 := by
  have h127 : (BitVec.ofInt 64 4294967295).toNat = 2 ^ 32 - 1 := by decide
  have key : (BitVec.ofInt 64 n &&& BitVec.ofInt 64 4294967295).toNat = (n % ((2 ^ 64 : Nat) : Int)).toNat % 2 ^ 32 := by
    rw [BitVec.toNat_and, BitVec.toNat_ofInt, h127, Nat.and_two_pow_sub_one_eq_mod]
  show IntKind.u64.wrap ((BitVec.ofInt 64 n &&& BitVec.ofInt 64 4294967295).toNat : Nat) = n % 4294967296
  rw [key, IntKind.wrap_u64]
  omega
theorem pv_and32u (hx : ev l x = some (.int .u64 a)) (hy : ev l y = some (.int .u64 4294967295)) : Pv P n l ⟨d, .binOp .and t x y t', ty, pos, af, g⟩ (.int .u64 (a % 4294967296)) w := ⟨fun A hA => by
  have h : (Op.intBits .and .u64 a 4294967295 : Sem Value) = pure (.int .u64 (a % 4294967296)) := by rw [← u64_and32 a]; rfl
  simp [execOp, hA.ev hx, hA.ev hy, eqGuard, binOp, h]⟩
theorem pv_shr32u {k' : IntKind} (hx : ev l x = some (.int .u64 a)) (hy : ev l y = some (.int k' 32)) : Pv P n l ⟨d, .binOp .shr t x y t', ty, pos, af, g⟩ (.int .u64 (a / 4294967296)) w := by
  have h := pv_shr (P := P) (n := n) (w := w) (d := d) (ty := ty) (pos := pos) (af := af) (g := g) (t := t) (t' := t') hx hy (by omega)
  have e : a.fdiv (2 ^ (min (32 : Int).toNat IntKind.u64.bits)) = a / 4294967296 := by
    rw [show ((2 : Int) ^ (min (32 : Int).toNat IntKind.u64.bits)) = 4294967296 by decide, Int.fdiv_eq_ediv_of_nonneg _ (by omega)]
  rwa [e] at h
theorem pv_half {k k' : IntKind} {m q : Nat} (hx : ev l x = some (.int k a)) (hy : ev l y = some (.int k' 1)) (ha : a = (m : Int)) (hq : m / 2 = q) (hk : 1 ≤ k.bits) : Pv P n l ⟨d, .binOp .shr t x y t', ty, pos, af, g⟩ (.int k (q : Nat)) w := by
  have h := pv_shr (P := P) (n := n) (w := w) (d := d) (ty := ty) (pos := pos) (af := af) (g := g) (t := t) (t' := t') hx hy (by omega)
  have e : a.fdiv (2 ^ (min (1 : Int).toNat k.bits)) = (q : Nat) := by
    rw [show min (1 : Int).toNat k.bits = 1 by have : (1 : Int).toNat = 1 := rfl; omega, Int.fdiv_eq_ediv_of_nonneg _ (by decide), ha, ← hq]
    omega
  rwa [e] at h
end

section
variable {ν : Type} {eV : ν → Value} {P : Program} {n : Nat} {l : Fr} {w : World} {B : Nat} {d : Option Nat} {ty : TypeId} {pos : String} {af : Array Edge} {g : Option (Nat × Bool)} {T K V : TypeId} {x y : Operand} {m : List (ByteArray × ν)} {k : ByteArray}
theorem pv_look0 (ht : P.underlying T = some (.map K V)) (E : KeyE P K ekS) {zv : ν} (hz : ∀ w, (zeroValue V).run P w = .ok (eV zv) w) (hk : k.size ≤ 9223372036854775807) (hg : getM m k = none) (hx : ev l x = some (.map (some B))) (hy : ev l y = some (.string k)) (h : MpB eV w B m) :
    Pv P n l ⟨d, .lookup T x y true, ty, pos, af, g⟩ (.tuple #[eV zv, .bool false]) w := by
  have := pv_lookB_ok (P := P) (n := n) (d := d) (ty := ty) (pos := pos) (af := af) (g := g) ht E hz hk hx hy h
  rwa [hg] at this
theorem pv_look1 (ht : P.underlying T = some (.map K V)) (E : KeyE P K ekS) {zv v : ν} (hz : ∀ w, (zeroValue V).run P w = .ok (eV zv) w) (hk : k.size ≤ 9223372036854775807) (hg : getM m k = some v) (hx : ev l x = some (.map (some B))) (hy : ev l y = some (.string k)) (h : MpB eV w B m) :
    Pv P n l ⟨d, .lookup T x y true, ty, pos, af, g⟩ (.tuple #[eV v, .bool true]) w := by
  have := pv_lookB_ok (P := P) (n := n) (d := d) (ty := ty) (pos := pos) (af := af) (g := g) ht E hz hk hx hy h
  rwa [hg] at this
theorem pv_look (ht : P.underlying T = some (.map K V)) (E : KeyE P K ekS) {zv v : ν} (hz : ∀ w, (zeroValue V).run P w = .ok (eV zv) w) (hk : k.size ≤ 9223372036854775807) (hg : getM m k = some v) (hx : ev l x = some (.map (some B))) (hy : ev l y = some (.string k)) (h : MpB eV w B m) :
    Pv P n l ⟨d, .lookup T x y false, ty, pos, af, g⟩ (eV v) w := by
  have := pv_lookB (P := P) (n := n) (d := d) (ty := ty) (pos := pos) (af := af) (g := g) ht E hz hk hx hy h
  rwa [hg] at this
end
set_option maxRecDepth 20000 in
theorem used0_c {w : World} {N B : Nat} {cs : List Value} {fs : List Fil} (H : PT w N 81 (.map (some B) :: cs)) (hmp : ∃ m, MpB evF w B m ∧ m.Perm (mapF fs)) (hus : usedF fs ≤ 9223372036854775807) : Calls Tryd.prog 32 #[.pointer (some ⟨N, 0, none⟩)] w fun e w' => e = .returned (.int .i64 (usedF fs : Nat)) ∧ Below w.heap.size w w' := by
  obtain ⟨m, ⟨m', hm, rfl⟩, hp⟩ := hmp
  have hu := perm_used hp
  rw [List.map_map] at hu
  have hw := Below.refl w.heap.size w
  refine fn_enter 22 Tryd.func32 rfl rfl rfl ?_
  repeat' (first | (refine lw_pure rfl (pv_move rfl) ?_) | (refine lw_pure rfl (pv_assign rfl) ?_) | (refine is_cw ?_; first | (refine cw_seq ?_) | (refine cw_region ?_) | (refine cw_true rfl rfl ?_) | (refine cw_false rfl rfl ?_) | (refine cw_true rfl (by first | assumption | exact decide_eq_true (by omega) | exact dec_notT (by omega)) ?_) | (refine cw_false rfl (by first | assumption | exact decide_eq_false (by omega) | exact dec_notF (by omega)) ?_) | (refine cw_skip ?_) | (refine cw_block ?_) | (refine cw_exit ?_) | (refine cw_ret ?_)) | (refine is_qw ?_; first | (with_reducible refine qw_then ?_) | (with_reducible refine qw_in ?_) | (with_reducible refine qw_in_hit ?_) | (refine qw_in_miss rfl ?_) | (with_reducible refine qw_then_exit ?_) | (with_reducible refine qw_then_ret ?_) | (with_reducible refine qw_in_ret ?_)) | (refine lw_nil ?_) | ((refine is_bin ?_; first | (refine lw_pure rfl (pv_pnnil tpD rfl rfl) ?_) | (refine lw_pure rfl (pv_neq rfl rfl) ?_) | (refine lw_pure rfl (pv_inc rfl rfl (by omega)) ?_) | (refine lw_pure rfl (pv_add rfl rfl (by omega)) ?_))) | ((refine is_load ?_; first | (refine lw_pure rfl (pv_load (t1 rfl) rfl (by first | exact PT.ld0 (H.mono hw) rfl | exact PT.ld (H.mono hw) rfl)) ?_) | (refine lw_pure rfl (pv_loada (tA rfl) rfl (by first | exact PT.lda (H.mono hw)) (by rfl)) ?_))) | ((refine is_fa ?_; first | (refine lw_pure rfl (pv_fa (tF rfl) rfl) ?_))) | (refine lw_pure rfl (pv_extract rfl rfl) ?_) | (refine lw_pure rfl (pv_nilp rfl) ?_) | (refine lw_pure0 (pv_nilp rfl) ?_))
  refine lw_rangeM Tryd.underlying79 rfl rfl (hm.mono hw) ?_; intro I w1 hI HI hb
  replace hI := Nat.le_trans hw.size hI
  replace hw := grow_trans hw hb
  clear hb
  repeat' (first | (refine lw_pure rfl (pv_move rfl) ?_) | (refine lw_pure rfl (pv_assign rfl) ?_) | (refine is_cw ?_; first | (refine cw_seq ?_) | (refine cw_region ?_) | (refine cw_true rfl rfl ?_) | (refine cw_false rfl rfl ?_) | (refine cw_true rfl (by first | assumption | exact decide_eq_true (by omega) | exact dec_notT (by omega)) ?_) | (refine cw_false rfl (by first | assumption | exact decide_eq_false (by omega) | exact dec_notF (by omega)) ?_) | (refine cw_skip ?_) | (refine cw_block ?_) | (refine cw_exit ?_) | (refine cw_ret ?_)) | (refine is_qw ?_; first | (with_reducible refine qw_then ?_) | (with_reducible refine qw_in ?_) | (with_reducible refine qw_in_hit ?_) | (refine qw_in_miss rfl ?_) | (with_reducible refine qw_then_exit ?_) | (with_reducible refine qw_then_ret ?_) | (with_reducible refine qw_in_ret ?_)) | (refine lw_nil ?_) | ((refine is_bin ?_; first | (refine lw_pure rfl (pv_neq rfl rfl) ?_) | (refine lw_pure rfl (pv_inc rfl rfl (by omega)) ?_) | (refine lw_pure rfl (pv_add rfl rfl (by omega)) ?_))) | ((refine is_load ?_; first | (refine lw_pure rfl (pv_load (t1 rfl) rfl (by first | fail)) ?_) | (refine lw_pure rfl (pv_loada (tA rfl) rfl (by first | fail) (by rfl)) ?_))) | ((refine is_fa ?_; first | (refine lw_pure rfl (pv_fa (tF rfl) rfl) ?_))) | (refine lw_pure rfl (pv_extract rfl rfl) ?_) | (refine lw_pure rfl (pv_nilp rfl) ?_) | (refine lw_pure0 (pv_nilp rfl) ?_))
  refine cw_loop (σ := List (Nm × (ByteArray × ByteArray)) × Nat) (fun s => [(3, .int .i64 (s.2 : Nat)), (12, .pointer (some ⟨I, 0, none⟩))]) (fun s wr => Below w.heap.size w wr ∧ (∃ cur, It ekS evF wr I B m' s.1 cur) ∧ s.2 + (s.1.map fun e => e.2.1.size + e.2.2.size).sum = usedF fs) (fun s => s.1.length) (m', 0) (by repeat' (first | exact trivial | refine ⟨rfl, ?_⟩)) ⟨hw, ⟨_, HI⟩, by simpa [Function.comp_def, unN] using hu⟩ ?_
  clear hw HI
  rintro ⟨rest, acc⟩ wr ⟨hw, ⟨cur, HI⟩, hsum⟩
  replace HI : It ekS evF wr I B m' rest cur := HI
  replace hsum : acc + (rest.map fun e => e.2.1.size + e.2.2.size).sum = usedF fs := hsum
  repeat' (first | (refine lw_pure rfl (pv_move rfl) ?_) | (refine lw_pure rfl (pv_assign rfl) ?_) | (refine is_cw ?_; first | (refine cw_seq ?_) | (refine cw_region ?_) | (refine cw_true rfl rfl ?_) | (refine cw_false rfl rfl ?_) | (refine cw_true rfl (by first | assumption | exact decide_eq_true (by omega) | exact dec_notT (by omega)) ?_) | (refine cw_false rfl (by first | assumption | exact decide_eq_false (by omega) | exact dec_notF (by omega)) ?_) | (refine cw_skip ?_) | (refine cw_block ?_) | (refine cw_exit ?_) | (refine cw_ret ?_)) | (refine is_qw ?_; first | (with_reducible refine qw_then ?_) | (with_reducible refine qw_in ?_) | (with_reducible refine qw_in_hit ?_) | (refine qw_in_miss rfl ?_) | (with_reducible refine qw_then_exit ?_) | (with_reducible refine qw_then_ret ?_) | (with_reducible refine qw_in_ret ?_)) | (refine lw_nil ?_) | ((refine is_bin ?_; first | (refine lw_pure rfl (pv_neq rfl rfl) ?_) | (refine lw_pure rfl (pv_inc rfl rfl (by omega)) ?_) | (refine lw_pure rfl (pv_add rfl rfl (by omega)) ?_))) | ((refine is_load ?_; first | (refine lw_pure rfl (pv_load (t1 rfl) rfl (by first | fail)) ?_) | (refine lw_pure rfl (pv_loada (tA rfl) rfl (by first | fail) (by rfl)) ?_))) | ((refine is_fa ?_; first | (refine lw_pure rfl (pv_fa (tF rfl) rfl) ?_))) | (refine lw_pure rfl (pv_extract rfl rfl) ?_) | (refine lw_pure rfl (pv_nilp rfl) ?_) | (refine lw_pure0 (pv_nilp rfl) ?_))
  refine lw_nextM rfl rfl HI (fun hr => ?_) (fun q v rest' w2 hq HI2 hg hz9 => ?_)
  · subst hr
    repeat' (first | (refine lw_pure rfl (pv_move rfl) ?_) | (refine lw_pure rfl (pv_assign rfl) ?_) | (refine is_cw ?_; first | (refine cw_seq ?_) | (refine cw_region ?_) | (refine cw_true rfl rfl ?_) | (refine cw_false rfl rfl ?_) | (refine cw_true rfl (by first | assumption | exact decide_eq_true (by omega) | exact dec_notT (by omega)) ?_) | (refine cw_false rfl (by first | assumption | exact decide_eq_false (by omega) | exact dec_notF (by omega)) ?_) | (refine cw_skip ?_) | (refine cw_block ?_) | (refine cw_exit ?_) | (refine cw_ret ?_)) | (refine is_qw ?_; first | (with_reducible refine qw_then ?_) | (with_reducible refine qw_in ?_) | (with_reducible refine qw_in_hit ?_) | (refine qw_in_miss rfl ?_) | (with_reducible refine qw_then_exit ?_) | (with_reducible refine qw_then_ret ?_) | (with_reducible refine qw_in_ret ?_)) | (refine lw_nil ?_) | ((refine is_bin ?_; first | (refine lw_pure rfl (pv_neq rfl rfl) ?_) | (refine lw_pure rfl (pv_inc rfl rfl (by omega)) ?_) | (refine lw_pure rfl (pv_add rfl rfl (by omega)) ?_))) | ((refine is_load ?_; first | (refine lw_pure rfl (pv_load (t1 rfl) rfl (by first | fail)) ?_) | (refine lw_pure rfl (pv_loada (tA rfl) rfl (by first | fail) (by rfl)) ?_))) | ((refine is_fa ?_; first | (refine lw_pure rfl (pv_fa (tF rfl) rfl) ?_))) | (refine lw_pure rfl (pv_extract rfl rfl) ?_) | (refine lw_pure rfl (pv_nilp rfl) ?_) | (refine lw_pure0 (pv_nilp rfl) ?_))
    have e : acc = usedF fs := by simpa using hsum
    exact qw_ret1 rfl rfl ⟨by rw [e], hw⟩
  · have hwB := st_hw hw hg hI
    clear hw
    have hw := Below.refl w2.heap.size w2
    have hl := hq.length_eq
    have hs2 := (hq.map fun e : Nm × (ByteArray × ByteArray) => e.2.1.size + e.2.2.size).sum_nat
    rw [hs2, List.map_cons, List.sum_cons] at hsum
    rw [List.length_cons] at hl
    obtain ⟨va, vb⟩ := v
    dsimp only at hsum
    repeat' (first | (refine lw_pure rfl (pv_move rfl) ?_) | (refine lw_pure rfl (pv_assign rfl) ?_) | (refine lw_pure rfl (pv_entryM rfl HI2) ?_) | (refine is_cw ?_; first | (refine cw_seq ?_) | (refine cw_region ?_) | (refine cw_true rfl rfl ?_) | (refine cw_false rfl rfl ?_) | (refine cw_true rfl (by first | assumption | exact decide_eq_true (by omega) | exact dec_notT (by omega)) ?_) | (refine cw_false rfl (by first | assumption | exact decide_eq_false (by omega) | exact dec_notF (by omega)) ?_) | (refine cw_skip ?_) | (refine cw_block ?_) | (refine cw_exit ?_) | (refine cw_ret ?_)) | (refine is_qw ?_; first | (with_reducible refine qw_then ?_) | (with_reducible refine qw_in ?_) | (with_reducible refine qw_in_hit ?_) | (refine qw_in_miss rfl ?_) | (with_reducible refine qw_then_exit ?_) | (with_reducible refine qw_then_ret ?_) | (with_reducible refine qw_in_ret ?_)) | (refine lw_nil ?_) | ((refine is_bin ?_; first | (refine lw_pure rfl (pv_neq rfl rfl) ?_) | (refine lw_pure rfl (pv_inc rfl rfl (by omega)) ?_) | (refine lw_pure rfl (pv_add rfl rfl (by omega)) ?_))) | ((refine is_load ?_; first | (refine lw_pure rfl (pv_load (t1 rfl) rfl (by first | fail)) ?_) | (refine lw_pure rfl (pv_loada (tA rfl) rfl (by first | fail) (by rfl)) ?_))) | ((refine is_fa ?_; first | (refine lw_pure rfl (pv_fa (tF rfl) rfl) ?_))) | (refine lw_pure rfl (pv_extract rfl rfl) ?_) | (refine lw_pure rfl (pv_nilp rfl) ?_) | (refine lw_pure0 (pv_nilp rfl) ?_))
    refine lw_varN rfl (by first | exact tyv_28 | exact tyv_29 | exact tyv_34 | exact tyv_35 | exact tyv_43 | exact tyv_44 | exact tyv_77 | exact tyv_78 | exact tyv_80 | exact tyv_81 | exact tyv_86 | exact tyv_87 | exact tyv_126 | exact tyv_127) rfl (tZ rfl) (fun _ => rfl) rfl rfl ?_; intro N5 wn hN5 H5 hb; replace hN5 := Nat.le_trans hw.size hN5; replace hw := grow_trans hw hb; clear hb
    repeat' (first | (refine lw_pure rfl (pv_move rfl) ?_) | (refine lw_pure rfl (pv_assign rfl) ?_) | (refine lw_call (f := 49) (by kernel_rfl) rfl rfl (size_c (a := va) (b := vb) (by omega) _) ?_; rintro e w1 ⟨rfl, hb⟩; refine ⟨_, rfl, ?_⟩; replace hw := grow_trans hw hb; clear hb) | (refine is_cw ?_; first | (refine cw_seq ?_) | (refine cw_region ?_) | (refine cw_true rfl rfl ?_) | (refine cw_false rfl rfl ?_) | (refine cw_true rfl (by first | assumption | exact decide_eq_true (by omega) | exact dec_notT (by omega)) ?_) | (refine cw_false rfl (by first | assumption | exact decide_eq_false (by omega) | exact dec_notF (by omega)) ?_) | (refine cw_skip ?_) | (refine cw_block ?_) | (refine cw_exit ?_) | (refine cw_ret ?_)) | (refine is_qw ?_; first | (with_reducible refine qw_then ?_) | (with_reducible refine qw_in ?_) | (with_reducible refine qw_in_hit ?_) | (refine qw_in_miss rfl ?_) | (with_reducible refine qw_then_exit ?_) | (with_reducible refine qw_then_ret ?_) | (with_reducible refine qw_in_ret ?_)) | (refine lw_nil ?_) | ((refine is_bin ?_; first | (refine lw_pure rfl (pv_neq rfl rfl) ?_) | (refine lw_pure rfl (pv_inc rfl rfl (by omega)) ?_) | (refine lw_pure rfl (pv_add rfl rfl (by omega)) ?_))) | ((refine is_load ?_; first | (refine lw_pure rfl (pv_load (t1 rfl) rfl (by first | exact PT.ld0 H5 rfl | exact PT.ld H5 rfl)) ?_) | (refine lw_pure rfl (pv_loada (tA rfl) rfl (by first | exact PT.lda H5) (by rfl)) ?_))) | ((refine is_fa ?_; first | (refine lw_pure rfl (pv_fa (tF rfl) rfl) ?_))) | (refine lw_pure rfl (pv_extract rfl rfl) ?_) | (refine lw_pure rfl (pv_nilp rfl) ?_) | (refine lw_pure0 (pv_nilp rfl) ?_))
    exact qw_round (rest', acc + (va.size + vb.size)) (by repeat' (first | exact trivial | refine ⟨rfl, ?_⟩)) ⟨grow_trans hwB hw, ⟨_, HI2.mono hw⟩, by show acc + (va.size + vb.size) + _ = _; rw [← hsum, Nat.add_assoc]⟩ (by show rest'.length < rest.length; omega)
theorem used_c {w : World} {N B : Nat} {d : Dsk} (h : DkW w N B d) : Calls Tryd.prog 32 #[.pointer (some ⟨N, 0, none⟩)] w fun e w' => e = .returned (.int .i64 (usedF d.fs : Nat)) ∧ Below w.heap.size w w' :=
  used0_c h.obj h.mp (by have := h.ok.used; have := h.ok.cap; omega)
set_option maxRecDepth 20000 in
theorem usedn_c (w : World) : Calls Tryd.prog 32 #[.pointer none] w fun e w' => e = .returned (.int .i64 0) ∧ Below w.heap.size w w' := by
  have hw := Below.refl w.heap.size w
  refine fn_enter 22 Tryd.func32 rfl rfl rfl ?_
  repeat' (first | (refine lw_pure rfl (pv_move rfl) ?_) | (refine lw_pure rfl (pv_assign rfl) ?_) | (refine is_cw ?_; first | (refine cw_seq ?_) | (refine cw_region ?_) | (refine cw_true rfl rfl ?_) | (refine cw_false rfl rfl ?_) | (refine cw_true rfl (by first | assumption | exact decide_eq_true (by omega) | exact dec_notT (by omega)) ?_) | (refine cw_false rfl (by first | assumption | exact decide_eq_false (by omega) | exact dec_notF (by omega)) ?_) | (refine cw_skip ?_) | (refine cw_block ?_) | (refine cw_exit ?_) | (refine cw_ret ?_)) | (refine is_qw ?_; first | (with_reducible refine qw_then ?_) | (with_reducible refine qw_in ?_) | (with_reducible refine qw_in_hit ?_) | (refine qw_in_miss rfl ?_) | (with_reducible refine qw_then_exit ?_) | (with_reducible refine qw_then_ret ?_) | (with_reducible refine qw_in_ret ?_)) | (refine lw_nil ?_) | ((refine is_bin ?_; first | (refine lw_pure rfl (pv_pnnil tpD rfl rfl) ?_) | (refine lw_pure rfl (pv_neq rfl rfl) ?_) | (refine lw_pure rfl (pv_inc rfl rfl (by omega)) ?_) | (refine lw_pure rfl (pv_add rfl rfl (by omega)) ?_))) | ((refine is_load ?_; first | (refine lw_pure rfl (pv_load (t1 rfl) rfl (by first | fail)) ?_) | (refine lw_pure rfl (pv_loada (tA rfl) rfl (by first | fail) (by rfl)) ?_))) | ((refine is_fa ?_; first | (refine lw_pure rfl (pv_fa (tF rfl) rfl) ?_))) | (refine lw_pure rfl (pv_extract rfl rfl) ?_) | (refine lw_pure rfl (pv_nilp rfl) ?_) | (refine lw_pure0 (pv_nilp rfl) ?_))
  exact qw_ret1 rfl rfl ⟨rfl, hw⟩
def Left (w w' : World) (B : Nat) (fs : List Fil) (e : Ending) : Prop := (∃ v, e = .returned v) ∧ (∃ m, MpB evF w' B m ∧ m.Perm (mapF fs)) ∧ Gw B B w w'
set_option maxRecDepth 20000 in
theorem create1_c {w : World} {N B N2 N3 : Nat} {T2 T3 : TypeId} {d : Dsk} {n : ByteArray} (h : DkW w N B d) (hn : n.size ≤ 9223372036854775807) (H2 : PT w N2 T2 [.pointer (some ⟨N, 0, none⟩)]) (H3 : PT w N3 T3 [.string n]) : Calls Tryd.prog 52 #[.pointer (some ⟨N2, 0, none⟩), .pointer (some ⟨N3, 0, none⟩)] w fun e w' => Left w w' B (putF d.fs ⟨n, emptyB, emptyB⟩) e := by
  obtain ⟨m, hm, hp⟩ := h.mp
  have hs := h.ok.srt
  have H := h.obj
  have hw := Below.refl w.heap.size w
  refine fn_enter 8 Tryd.func52 rfl rfl rfl ?_
  refine cw_drawnF 6 (fun w' => Below w.heap.size w w' ∧ True) (by kernel_rfl) (by repeat (first | exact NoPanic.body | with_reducible refine NoPanic.then ?_ | with_reducible refine NoPanic.inBlock ?_)) (fun hNP => ?_)
  have hU := And.intro hw.drew trivial
  first | (refine fw_take 0 rfl (by kernel_rfl) rfl rfl (by kernel_rfl) (by kernel_rfl) (by kernel_rfl) hNP hU rfl (fun w' hq => pv_load (t1 rfl) rfl (by first | exact PT.ld0 hq.2 rfl | exact PT.ld hq.2 rfl)) ?_) | (refine fw_take 0 rfl (by kernel_rfl) rfl rfl (by kernel_rfl) (by kernel_rfl) (by kernel_rfl) hNP hU rfl (fun w' hq => pv_loada (tA rfl) rfl (by first | exact PT.lda hq.2) (by rfl)) ?_) | (refine fw_take 0 rfl (by kernel_rfl) rfl rfl (by kernel_rfl) (by kernel_rfl) (by kernel_rfl) hNP hU rfl (fun w' hq => pv_load (t1 rfl) rfl (by first | exact PT.ld0 (H2.mono hq.1) rfl | exact PT.ld (H2.mono hq.1) rfl | exact PT.ld0 (H3.mono hq.1) rfl | exact PT.ld (H3.mono hq.1) rfl | exact PT.ld0 (H.mono hq.1) rfl | exact PT.ld (H.mono hq.1) rfl)) ?_) | (refine fw_take 0 rfl (by kernel_rfl) rfl rfl (by kernel_rfl) (by kernel_rfl) (by kernel_rfl) hNP hU rfl (fun w' hq => pv_loada (tA rfl) rfl (by first | exact PT.lda (H2.mono hq.1) | exact PT.lda (H3.mono hq.1) | exact PT.lda (H.mono hq.1)) (by rfl)) ?_)
  first | (refine fw_take 1 rfl (by kernel_rfl) rfl rfl (by kernel_rfl) (by kernel_rfl) (by kernel_rfl) hNP hU rfl (fun w' hq => pv_nilp rfl) ?_)
  first | (refine fw_take 2 rfl (by kernel_rfl) rfl rfl (by kernel_rfl) (by kernel_rfl) (by kernel_rfl) hNP hU rfl (fun w' hq => pv_fa (tF rfl) rfl) ?_)
  first | (refine fw_take 3 rfl (by kernel_rfl) rfl rfl (by kernel_rfl) (by kernel_rfl) (by kernel_rfl) hNP hU rfl (fun w' hq => pv_load (t1 rfl) rfl (by first | exact PT.ld0 hq.2 rfl | exact PT.ld hq.2 rfl)) ?_) | (refine fw_take 3 rfl (by kernel_rfl) rfl rfl (by kernel_rfl) (by kernel_rfl) (by kernel_rfl) hNP hU rfl (fun w' hq => pv_loada (tA rfl) rfl (by first | exact PT.lda hq.2) (by rfl)) ?_) | (refine fw_take 3 rfl (by kernel_rfl) rfl rfl (by kernel_rfl) (by kernel_rfl) (by kernel_rfl) hNP hU rfl (fun w' hq => pv_load (t1 rfl) rfl (by first | exact PT.ld0 (H2.mono hq.1) rfl | exact PT.ld (H2.mono hq.1) rfl | exact PT.ld0 (H3.mono hq.1) rfl | exact PT.ld (H3.mono hq.1) rfl | exact PT.ld0 (H.mono hq.1) rfl | exact PT.ld (H.mono hq.1) rfl)) ?_) | (refine fw_take 3 rfl (by kernel_rfl) rfl rfl (by kernel_rfl) (by kernel_rfl) (by kernel_rfl) hNP hU rfl (fun w' hq => pv_loada (tA rfl) rfl (by first | exact PT.lda (H2.mono hq.1) | exact PT.lda (H3.mono hq.1) | exact PT.lda (H.mono hq.1)) (by rfl)) ?_)
  first | (refine fw_take 4 rfl (by kernel_rfl) rfl rfl (by kernel_rfl) (by kernel_rfl) (by kernel_rfl) hNP hU rfl (fun w' hq => pv_load (t1 rfl) rfl (by first | exact PT.ld0 hq.2 rfl | exact PT.ld hq.2 rfl)) ?_) | (refine fw_take 4 rfl (by kernel_rfl) rfl rfl (by kernel_rfl) (by kernel_rfl) (by kernel_rfl) hNP hU rfl (fun w' hq => pv_loada (tA rfl) rfl (by first | exact PT.lda hq.2) (by rfl)) ?_) | (refine fw_take 4 rfl (by kernel_rfl) rfl rfl (by kernel_rfl) (by kernel_rfl) (by kernel_rfl) hNP hU rfl (fun w' hq => pv_load (t1 rfl) rfl (by first | exact PT.ld0 (H2.mono hq.1) rfl | exact PT.ld (H2.mono hq.1) rfl | exact PT.ld0 (H3.mono hq.1) rfl | exact PT.ld (H3.mono hq.1) rfl | exact PT.ld0 (H.mono hq.1) rfl | exact PT.ld (H.mono hq.1) rfl)) ?_) | (refine fw_take 4 rfl (by kernel_rfl) rfl rfl (by kernel_rfl) (by kernel_rfl) (by kernel_rfl) hNP hU rfl (fun w' hq => pv_loada (tA rfl) rfl (by first | exact PT.lda (H2.mono hq.1) | exact PT.lda (H3.mono hq.1) | exact PT.lda (H.mono hq.1)) (by rfl)) ?_)
  first | (refine fw_take 5 rfl (by kernel_rfl) rfl rfl (by kernel_rfl) (by kernel_rfl) (by kernel_rfl) hNP hU rfl (fun w' hq => tyB_78 rfl rfl rfl) ?_)
  refine fw_last (by kernel_rfl) rfl rfl rfl rfl (by kernel_rfl) ?_
  obtain ⟨hw, -⟩ := hU; clear hNP
  refine act_svs (some_updB (k := n) (v := ((⟨n, emptyB, emptyB⟩ : Fil).firm, (⟨n, emptyB, emptyB⟩ : Fil).pend)) Tryd.underlying79 keyS hn rfl rfl rfl (hm.mono hw)) ?_; rintro w6 ⟨hm6, hg6, hz6⟩; exact qw_end0 rfl ⟨⟨_, rfl⟩, ⟨_, hm6, perm_put (φ := fun f => (f.firm, f.pend)) hp hs (⟨n, emptyB, emptyB⟩ : Fil)⟩, (Gw.of_below hw).trans (Gw.of_b hg6)⟩
set_option maxRecDepth 20000 in
theorem append1_c (w : World) : Calls Tryd.prog 51 #[] w fun e w' => (∃ v, e = .returned v) ∧ w' = w := by
  refine fn_enter 0 Tryd.func51 rfl rfl rfl ?_
  repeat' (first | (refine lw_pure rfl (pv_move rfl) ?_) | (refine lw_pure rfl (pv_assign rfl) ?_) | (refine is_cw ?_; first | (refine cw_skip ?_)) | (refine is_qw ?_; first | (with_reducible refine qw_then ?_) | (with_reducible refine qw_then_ret ?_)) | (refine lw_nil ?_))
  exact qw_end0 rfl ⟨⟨_, rfl⟩, rfl⟩
set_option maxRecDepth 20000 in
theorem sync1_c {w : World} {N B N2 N3 N5 : Nat} {T2 T3 T5 : TypeId} {d : Dsk} {n a b : ByteArray} (h : DkW w N B d) (hn : n.size ≤ 9223372036854775807) (hc : a.size + b.size ≤ 9223372036854775807) (H5 : PT w N5 T5 [.string a, .string b]) (H2 : PT w N2 T2 [.pointer (some ⟨N, 0, none⟩)]) (H3 : PT w N3 T3 [.string n]) : Calls Tryd.prog 53 #[.pointer (some ⟨N5, 0, none⟩), .pointer (some ⟨N2, 0, none⟩), .pointer (some ⟨N3, 0, none⟩)] w fun e w' => Left w w' B (putF d.fs ⟨n, a ++ b, emptyB⟩) e := by
  obtain ⟨m, hm, hp⟩ := h.mp
  have hs := h.ok.srt
  have H := h.obj
  have hw := Below.refl w.heap.size w
  refine fn_enter 14 Tryd.func53 rfl rfl rfl ?_
  refine cw_drawnF 11 (fun w' => Below w.heap.size w w' ∧ True) (by kernel_rfl) (by repeat (first | exact NoPanic.body | with_reducible refine NoPanic.then ?_ | with_reducible refine NoPanic.inBlock ?_)) (fun hNP => ?_)
  have hU := And.intro hw.drew trivial
  first | (refine fw_take 0 rfl (by kernel_rfl) rfl rfl (by kernel_rfl) (by kernel_rfl) (by kernel_rfl) hNP hU rfl (fun w' hq => pv_load (t1 rfl) rfl (by first | exact PT.ld0 hq.2 rfl | exact PT.ld hq.2 rfl)) ?_) | (refine fw_take 0 rfl (by kernel_rfl) rfl rfl (by kernel_rfl) (by kernel_rfl) (by kernel_rfl) hNP hU rfl (fun w' hq => pv_loada (tA rfl) rfl (by first | exact PT.lda hq.2) (by rfl)) ?_) | (refine fw_take 0 rfl (by kernel_rfl) rfl rfl (by kernel_rfl) (by kernel_rfl) (by kernel_rfl) hNP hU rfl (fun w' hq => pv_load (t1 rfl) rfl (by first | exact PT.ld0 (H2.mono hq.1) rfl | exact PT.ld (H2.mono hq.1) rfl | exact PT.ld0 (H3.mono hq.1) rfl | exact PT.ld (H3.mono hq.1) rfl | exact PT.ld0 (H5.mono hq.1) rfl | exact PT.ld (H5.mono hq.1) rfl | exact PT.ld0 (H.mono hq.1) rfl | exact PT.ld (H.mono hq.1) rfl)) ?_) | (refine fw_take 0 rfl (by kernel_rfl) rfl rfl (by kernel_rfl) (by kernel_rfl) (by kernel_rfl) hNP hU rfl (fun w' hq => pv_loada (tA rfl) rfl (by first | exact PT.lda (H2.mono hq.1) | exact PT.lda (H3.mono hq.1) | exact PT.lda (H5.mono hq.1) | exact PT.lda (H.mono hq.1)) (by rfl)) ?_)
  first | (refine fw_take 1 rfl (by kernel_rfl) rfl rfl (by kernel_rfl) (by kernel_rfl) (by kernel_rfl) hNP hU rfl (fun w' hq => pv_nilp rfl) ?_)
  first | (refine fw_take 2 rfl (by kernel_rfl) rfl rfl (by kernel_rfl) (by kernel_rfl) (by kernel_rfl) hNP hU rfl (fun w' hq => pv_fa (tF rfl) rfl) ?_)
  first | (refine fw_take 3 rfl (by kernel_rfl) rfl rfl (by kernel_rfl) (by kernel_rfl) (by kernel_rfl) hNP hU rfl (fun w' hq => pv_load (t1 rfl) rfl (by first | exact PT.ld0 hq.2 rfl | exact PT.ld hq.2 rfl)) ?_) | (refine fw_take 3 rfl (by kernel_rfl) rfl rfl (by kernel_rfl) (by kernel_rfl) (by kernel_rfl) hNP hU rfl (fun w' hq => pv_loada (tA rfl) rfl (by first | exact PT.lda hq.2) (by rfl)) ?_) | (refine fw_take 3 rfl (by kernel_rfl) rfl rfl (by kernel_rfl) (by kernel_rfl) (by kernel_rfl) hNP hU rfl (fun w' hq => pv_load (t1 rfl) rfl (by first | exact PT.ld0 (H2.mono hq.1) rfl | exact PT.ld (H2.mono hq.1) rfl | exact PT.ld0 (H3.mono hq.1) rfl | exact PT.ld (H3.mono hq.1) rfl | exact PT.ld0 (H5.mono hq.1) rfl | exact PT.ld (H5.mono hq.1) rfl | exact PT.ld0 (H.mono hq.1) rfl | exact PT.ld (H.mono hq.1) rfl)) ?_) | (refine fw_take 3 rfl (by kernel_rfl) rfl rfl (by kernel_rfl) (by kernel_rfl) (by kernel_rfl) hNP hU rfl (fun w' hq => pv_loada (tA rfl) rfl (by first | exact PT.lda (H2.mono hq.1) | exact PT.lda (H3.mono hq.1) | exact PT.lda (H5.mono hq.1) | exact PT.lda (H.mono hq.1)) (by rfl)) ?_)
  first | (refine fw_take 4 rfl (by kernel_rfl) rfl rfl (by kernel_rfl) (by kernel_rfl) (by kernel_rfl) hNP hU rfl (fun w' hq => pv_load (t1 rfl) rfl (by first | exact PT.ld0 hq.2 rfl | exact PT.ld hq.2 rfl)) ?_) | (refine fw_take 4 rfl (by kernel_rfl) rfl rfl (by kernel_rfl) (by kernel_rfl) (by kernel_rfl) hNP hU rfl (fun w' hq => pv_loada (tA rfl) rfl (by first | exact PT.lda hq.2) (by rfl)) ?_) | (refine fw_take 4 rfl (by kernel_rfl) rfl rfl (by kernel_rfl) (by kernel_rfl) (by kernel_rfl) hNP hU rfl (fun w' hq => pv_load (t1 rfl) rfl (by first | exact PT.ld0 (H2.mono hq.1) rfl | exact PT.ld (H2.mono hq.1) rfl | exact PT.ld0 (H3.mono hq.1) rfl | exact PT.ld (H3.mono hq.1) rfl | exact PT.ld0 (H5.mono hq.1) rfl | exact PT.ld (H5.mono hq.1) rfl | exact PT.ld0 (H.mono hq.1) rfl | exact PT.ld (H.mono hq.1) rfl)) ?_) | (refine fw_take 4 rfl (by kernel_rfl) rfl rfl (by kernel_rfl) (by kernel_rfl) (by kernel_rfl) hNP hU rfl (fun w' hq => pv_loada (tA rfl) rfl (by first | exact PT.lda (H2.mono hq.1) | exact PT.lda (H3.mono hq.1) | exact PT.lda (H5.mono hq.1) | exact PT.lda (H.mono hq.1)) (by rfl)) ?_)
  first | (refine fw_take 5 rfl (by kernel_rfl) rfl rfl (by kernel_rfl) (by kernel_rfl) (by kernel_rfl) hNP hU rfl (fun w' hq => pv_fa (tF rfl) rfl) ?_)
  first | (refine fw_take 6 rfl (by kernel_rfl) rfl rfl (by kernel_rfl) (by kernel_rfl) (by kernel_rfl) hNP hU rfl (fun w' hq => pv_load (t1 rfl) rfl (by first | exact PT.ld0 hq.2 rfl | exact PT.ld hq.2 rfl)) ?_) | (refine fw_take 6 rfl (by kernel_rfl) rfl rfl (by kernel_rfl) (by kernel_rfl) (by kernel_rfl) hNP hU rfl (fun w' hq => pv_loada (tA rfl) rfl (by first | exact PT.lda hq.2) (by rfl)) ?_) | (refine fw_take 6 rfl (by kernel_rfl) rfl rfl (by kernel_rfl) (by kernel_rfl) (by kernel_rfl) hNP hU rfl (fun w' hq => pv_load (t1 rfl) rfl (by first | exact PT.ld0 (H2.mono hq.1) rfl | exact PT.ld (H2.mono hq.1) rfl | exact PT.ld0 (H3.mono hq.1) rfl | exact PT.ld (H3.mono hq.1) rfl | exact PT.ld0 (H5.mono hq.1) rfl | exact PT.ld (H5.mono hq.1) rfl | exact PT.ld0 (H.mono hq.1) rfl | exact PT.ld (H.mono hq.1) rfl)) ?_) | (refine fw_take 6 rfl (by kernel_rfl) rfl rfl (by kernel_rfl) (by kernel_rfl) (by kernel_rfl) hNP hU rfl (fun w' hq => pv_loada (tA rfl) rfl (by first | exact PT.lda (H2.mono hq.1) | exact PT.lda (H3.mono hq.1) | exact PT.lda (H5.mono hq.1) | exact PT.lda (H.mono hq.1)) (by rfl)) ?_)
  first | (refine fw_take 7 rfl (by kernel_rfl) rfl rfl (by kernel_rfl) (by kernel_rfl) (by kernel_rfl) hNP hU rfl (fun w' hq => pv_fa (tF rfl) rfl) ?_)
  first | (refine fw_take 8 rfl (by kernel_rfl) rfl rfl (by kernel_rfl) (by kernel_rfl) (by kernel_rfl) hNP hU rfl (fun w' hq => pv_load (t1 rfl) rfl (by first | exact PT.ld0 hq.2 rfl | exact PT.ld hq.2 rfl)) ?_) | (refine fw_take 8 rfl (by kernel_rfl) rfl rfl (by kernel_rfl) (by kernel_rfl) (by kernel_rfl) hNP hU rfl (fun w' hq => pv_loada (tA rfl) rfl (by first | exact PT.lda hq.2) (by rfl)) ?_) | (refine fw_take 8 rfl (by kernel_rfl) rfl rfl (by kernel_rfl) (by kernel_rfl) (by kernel_rfl) hNP hU rfl (fun w' hq => pv_load (t1 rfl) rfl (by first | exact PT.ld0 (H2.mono hq.1) rfl | exact PT.ld (H2.mono hq.1) rfl | exact PT.ld0 (H3.mono hq.1) rfl | exact PT.ld (H3.mono hq.1) rfl | exact PT.ld0 (H5.mono hq.1) rfl | exact PT.ld (H5.mono hq.1) rfl | exact PT.ld0 (H.mono hq.1) rfl | exact PT.ld (H.mono hq.1) rfl)) ?_) | (refine fw_take 8 rfl (by kernel_rfl) rfl rfl (by kernel_rfl) (by kernel_rfl) (by kernel_rfl) hNP hU rfl (fun w' hq => pv_loada (tA rfl) rfl (by first | exact PT.lda (H2.mono hq.1) | exact PT.lda (H3.mono hq.1) | exact PT.lda (H5.mono hq.1) | exact PT.lda (H.mono hq.1)) (by rfl)) ?_)
  first | (refine fw_take 9 rfl (by kernel_rfl) rfl rfl (by kernel_rfl) (by kernel_rfl) (by kernel_rfl) hNP hU rfl (fun w' hq => pv_cat rfl rfl hc) ?_) | (refine fw_take 9 rfl (by kernel_rfl) rfl rfl (by kernel_rfl) (by kernel_rfl) (by kernel_rfl) hNP hU rfl (fun w' hq => pv_inc rfl rfl (by omega)) ?_) | (refine fw_take 9 rfl (by kernel_rfl) rfl rfl (by kernel_rfl) (by kernel_rfl) (by kernel_rfl) hNP hU rfl (fun w' hq => pv_add rfl rfl (by omega)) ?_)
  first | (refine fw_take 10 rfl (by kernel_rfl) rfl rfl (by kernel_rfl) (by kernel_rfl) (by kernel_rfl) hNP hU rfl (fun w' hq => tyB_78 rfl rfl rfl) ?_)
  refine fw_last (by kernel_rfl) rfl rfl rfl rfl (by kernel_rfl) ?_
  obtain ⟨hw, -⟩ := hU; clear hNP
  refine act_svs (some_updB (k := n) (v := ((⟨n, a ++ b, emptyB⟩ : Fil).firm, (⟨n, a ++ b, emptyB⟩ : Fil).pend)) Tryd.underlying79 keyS hn rfl rfl rfl (hm.mono hw)) ?_; rintro w6 ⟨hm6, hg6, hz6⟩; exact qw_end0 rfl ⟨⟨_, rfl⟩, ⟨_, hm6, perm_put (φ := fun f => (f.firm, f.pend)) hp hs (⟨n, a ++ b, emptyB⟩ : Fil)⟩, (Gw.of_below hw).trans (Gw.of_b hg6)⟩
set_option maxRecDepth 20000 in
theorem trim1_c {w : World} {N B N2 N3 N4 N5 : Nat} {T2 T3 T4 T5 : TypeId} {d : Dsk} {n a b : ByteArray} {k : Int} (h : DkW w N B d) (hn : n.size ≤ 9223372036854775807) (hc : a.size + b.size ≤ 9223372036854775807) (hk : 0 ≤ k ∧ k ≤ (a ++ b).size) (H5 : PT w N5 T5 [.string a, .string b]) (H4 : PT w N4 T4 [.int .i64 k]) (H2 : PT w N2 T2 [.pointer (some ⟨N, 0, none⟩)]) (H3 : PT w N3 T3 [.string n]) : Calls Tryd.prog 54 #[.pointer (some ⟨N5, 0, none⟩), .pointer (some ⟨N4, 0, none⟩), .pointer (some ⟨N2, 0, none⟩), .pointer (some ⟨N3, 0, none⟩)] w fun e w' => Left w w' B (putF d.fs ⟨n, (a ++ b).extract 0 k.toNat, emptyB⟩) e := by
  obtain ⟨m, hm, hp⟩ := h.mp
  have hs := h.ok.srt
  have H := h.obj
  have hw := Below.refl w.heap.size w
  refine fn_enter 17 Tryd.func54 rfl rfl rfl ?_
  refine cw_drawnF 13 (fun w' => Below w.heap.size w w' ∧ True) (by kernel_rfl) (by repeat (first | exact NoPanic.body | with_reducible refine NoPanic.then ?_ | with_reducible refine NoPanic.inBlock ?_)) (fun hNP => ?_)
  have hU := And.intro hw.drew trivial
  first | (refine fw_take 0 rfl (by kernel_rfl) rfl rfl (by kernel_rfl) (by kernel_rfl) (by kernel_rfl) hNP hU rfl (fun w' hq => pv_load (t1 rfl) rfl (by first | exact PT.ld0 hq.2 rfl | exact PT.ld hq.2 rfl)) ?_) | (refine fw_take 0 rfl (by kernel_rfl) rfl rfl (by kernel_rfl) (by kernel_rfl) (by kernel_rfl) hNP hU rfl (fun w' hq => pv_loada (tA rfl) rfl (by first | exact PT.lda hq.2) (by rfl)) ?_) | (refine fw_take 0 rfl (by kernel_rfl) rfl rfl (by kernel_rfl) (by kernel_rfl) (by kernel_rfl) hNP hU rfl (fun w' hq => pv_load (t1 rfl) rfl (by first | exact PT.ld0 (H2.mono hq.1) rfl | exact PT.ld (H2.mono hq.1) rfl | exact PT.ld0 (H3.mono hq.1) rfl | exact PT.ld (H3.mono hq.1) rfl | exact PT.ld0 (H4.mono hq.1) rfl | exact PT.ld (H4.mono hq.1) rfl | exact PT.ld0 (H5.mono hq.1) rfl | exact PT.ld (H5.mono hq.1) rfl | exact PT.ld0 (H.mono hq.1) rfl | exact PT.ld (H.mono hq.1) rfl)) ?_) | (refine fw_take 0 rfl (by kernel_rfl) rfl rfl (by kernel_rfl) (by kernel_rfl) (by kernel_rfl) hNP hU rfl (fun w' hq => pv_loada (tA rfl) rfl (by first | exact PT.lda (H2.mono hq.1) | exact PT.lda (H3.mono hq.1) | exact PT.lda (H4.mono hq.1) | exact PT.lda (H5.mono hq.1) | exact PT.lda (H.mono hq.1)) (by rfl)) ?_)
  first | (refine fw_take 1 rfl (by kernel_rfl) rfl rfl (by kernel_rfl) (by kernel_rfl) (by kernel_rfl) hNP hU rfl (fun w' hq => pv_nilp rfl) ?_)
  first | (refine fw_take 2 rfl (by kernel_rfl) rfl rfl (by kernel_rfl) (by kernel_rfl) (by kernel_rfl) hNP hU rfl (fun w' hq => pv_fa (tF rfl) rfl) ?_)
  first | (refine fw_take 3 rfl (by kernel_rfl) rfl rfl (by kernel_rfl) (by kernel_rfl) (by kernel_rfl) hNP hU rfl (fun w' hq => pv_load (t1 rfl) rfl (by first | exact PT.ld0 hq.2 rfl | exact PT.ld hq.2 rfl)) ?_) | (refine fw_take 3 rfl (by kernel_rfl) rfl rfl (by kernel_rfl) (by kernel_rfl) (by kernel_rfl) hNP hU rfl (fun w' hq => pv_loada (tA rfl) rfl (by first | exact PT.lda hq.2) (by rfl)) ?_) | (refine fw_take 3 rfl (by kernel_rfl) rfl rfl (by kernel_rfl) (by kernel_rfl) (by kernel_rfl) hNP hU rfl (fun w' hq => pv_load (t1 rfl) rfl (by first | exact PT.ld0 (H2.mono hq.1) rfl | exact PT.ld (H2.mono hq.1) rfl | exact PT.ld0 (H3.mono hq.1) rfl | exact PT.ld (H3.mono hq.1) rfl | exact PT.ld0 (H4.mono hq.1) rfl | exact PT.ld (H4.mono hq.1) rfl | exact PT.ld0 (H5.mono hq.1) rfl | exact PT.ld (H5.mono hq.1) rfl | exact PT.ld0 (H.mono hq.1) rfl | exact PT.ld (H.mono hq.1) rfl)) ?_) | (refine fw_take 3 rfl (by kernel_rfl) rfl rfl (by kernel_rfl) (by kernel_rfl) (by kernel_rfl) hNP hU rfl (fun w' hq => pv_loada (tA rfl) rfl (by first | exact PT.lda (H2.mono hq.1) | exact PT.lda (H3.mono hq.1) | exact PT.lda (H4.mono hq.1) | exact PT.lda (H5.mono hq.1) | exact PT.lda (H.mono hq.1)) (by rfl)) ?_)
  first | (refine fw_take 4 rfl (by kernel_rfl) rfl rfl (by kernel_rfl) (by kernel_rfl) (by kernel_rfl) hNP hU rfl (fun w' hq => pv_load (t1 rfl) rfl (by first | exact PT.ld0 hq.2 rfl | exact PT.ld hq.2 rfl)) ?_) | (refine fw_take 4 rfl (by kernel_rfl) rfl rfl (by kernel_rfl) (by kernel_rfl) (by kernel_rfl) hNP hU rfl (fun w' hq => pv_loada (tA rfl) rfl (by first | exact PT.lda hq.2) (by rfl)) ?_) | (refine fw_take 4 rfl (by kernel_rfl) rfl rfl (by kernel_rfl) (by kernel_rfl) (by kernel_rfl) hNP hU rfl (fun w' hq => pv_load (t1 rfl) rfl (by first | exact PT.ld0 (H2.mono hq.1) rfl | exact PT.ld (H2.mono hq.1) rfl | exact PT.ld0 (H3.mono hq.1) rfl | exact PT.ld (H3.mono hq.1) rfl | exact PT.ld0 (H4.mono hq.1) rfl | exact PT.ld (H4.mono hq.1) rfl | exact PT.ld0 (H5.mono hq.1) rfl | exact PT.ld (H5.mono hq.1) rfl | exact PT.ld0 (H.mono hq.1) rfl | exact PT.ld (H.mono hq.1) rfl)) ?_) | (refine fw_take 4 rfl (by kernel_rfl) rfl rfl (by kernel_rfl) (by kernel_rfl) (by kernel_rfl) hNP hU rfl (fun w' hq => pv_loada (tA rfl) rfl (by first | exact PT.lda (H2.mono hq.1) | exact PT.lda (H3.mono hq.1) | exact PT.lda (H4.mono hq.1) | exact PT.lda (H5.mono hq.1) | exact PT.lda (H.mono hq.1)) (by rfl)) ?_)
  first | (refine fw_take 5 rfl (by kernel_rfl) rfl rfl (by kernel_rfl) (by kernel_rfl) (by kernel_rfl) hNP hU rfl (fun w' hq => pv_fa (tF rfl) rfl) ?_)
  first | (refine fw_take 6 rfl (by kernel_rfl) rfl rfl (by kernel_rfl) (by kernel_rfl) (by kernel_rfl) hNP hU rfl (fun w' hq => pv_load (t1 rfl) rfl (by first | exact PT.ld0 hq.2 rfl | exact PT.ld hq.2 rfl)) ?_) | (refine fw_take 6 rfl (by kernel_rfl) rfl rfl (by kernel_rfl) (by kernel_rfl) (by kernel_rfl) hNP hU rfl (fun w' hq => pv_loada (tA rfl) rfl (by first | exact PT.lda hq.2) (by rfl)) ?_) | (refine fw_take 6 rfl (by kernel_rfl) rfl rfl (by kernel_rfl) (by kernel_rfl) (by kernel_rfl) hNP hU rfl (fun w' hq => pv_load (t1 rfl) rfl (by first | exact PT.ld0 (H2.mono hq.1) rfl | exact PT.ld (H2.mono hq.1) rfl | exact PT.ld0 (H3.mono hq.1) rfl | exact PT.ld (H3.mono hq.1) rfl | exact PT.ld0 (H4.mono hq.1) rfl | exact PT.ld (H4.mono hq.1) rfl | exact PT.ld0 (H5.mono hq.1) rfl | exact PT.ld (H5.mono hq.1) rfl | exact PT.ld0 (H.mono hq.1) rfl | exact PT.ld (H.mono hq.1) rfl)) ?_) | (refine fw_take 6 rfl (by kernel_rfl) rfl rfl (by kernel_rfl) (by kernel_rfl) (by kernel_rfl) hNP hU rfl (fun w' hq => pv_loada (tA rfl) rfl (by first | exact PT.lda (H2.mono hq.1) | exact PT.lda (H3.mono hq.1) | exact PT.lda (H4.mono hq.1) | exact PT.lda (H5.mono hq.1) | exact PT.lda (H.mono hq.1)) (by rfl)) ?_)
  first | (refine fw_take 7 rfl (by kernel_rfl) rfl rfl (by kernel_rfl) (by kernel_rfl) (by kernel_rfl) hNP hU rfl (fun w' hq => pv_fa (tF rfl) rfl) ?_)
  first | (refine fw_take 8 rfl (by kernel_rfl) rfl rfl (by kernel_rfl) (by kernel_rfl) (by kernel_rfl) hNP hU rfl (fun w' hq => pv_load (t1 rfl) rfl (by first | exact PT.ld0 hq.2 rfl | exact PT.ld hq.2 rfl)) ?_) | (refine fw_take 8 rfl (by kernel_rfl) rfl rfl (by kernel_rfl) (by kernel_rfl) (by kernel_rfl) hNP hU rfl (fun w' hq => pv_loada (tA rfl) rfl (by first | exact PT.lda hq.2) (by rfl)) ?_) | (refine fw_take 8 rfl (by kernel_rfl) rfl rfl (by kernel_rfl) (by kernel_rfl) (by kernel_rfl) hNP hU rfl (fun w' hq => pv_load (t1 rfl) rfl (by first | exact PT.ld0 (H2.mono hq.1) rfl | exact PT.ld (H2.mono hq.1) rfl | exact PT.ld0 (H3.mono hq.1) rfl | exact PT.ld (H3.mono hq.1) rfl | exact PT.ld0 (H4.mono hq.1) rfl | exact PT.ld (H4.mono hq.1) rfl | exact PT.ld0 (H5.mono hq.1) rfl | exact PT.ld (H5.mono hq.1) rfl | exact PT.ld0 (H.mono hq.1) rfl | exact PT.ld (H.mono hq.1) rfl)) ?_) | (refine fw_take 8 rfl (by kernel_rfl) rfl rfl (by kernel_rfl) (by kernel_rfl) (by kernel_rfl) hNP hU rfl (fun w' hq => pv_loada (tA rfl) rfl (by first | exact PT.lda (H2.mono hq.1) | exact PT.lda (H3.mono hq.1) | exact PT.lda (H4.mono hq.1) | exact PT.lda (H5.mono hq.1) | exact PT.lda (H.mono hq.1)) (by rfl)) ?_)
  first | (refine fw_take 9 rfl (by kernel_rfl) rfl rfl (by kernel_rfl) (by kernel_rfl) (by kernel_rfl) hNP hU rfl (fun w' hq => pv_cat rfl rfl hc) ?_) | (refine fw_take 9 rfl (by kernel_rfl) rfl rfl (by kernel_rfl) (by kernel_rfl) (by kernel_rfl) hNP hU rfl (fun w' hq => pv_inc rfl rfl (by omega)) ?_) | (refine fw_take 9 rfl (by kernel_rfl) rfl rfl (by kernel_rfl) (by kernel_rfl) (by kernel_rfl) hNP hU rfl (fun w' hq => pv_add rfl rfl (by omega)) ?_)
  first | (refine fw_take 10 rfl (by kernel_rfl) rfl rfl (by kernel_rfl) (by kernel_rfl) (by kernel_rfl) hNP hU rfl (fun w' hq => pv_load (t1 rfl) rfl (by first | exact PT.ld0 hq.2 rfl | exact PT.ld hq.2 rfl)) ?_) | (refine fw_take 10 rfl (by kernel_rfl) rfl rfl (by kernel_rfl) (by kernel_rfl) (by kernel_rfl) hNP hU rfl (fun w' hq => pv_loada (tA rfl) rfl (by first | exact PT.lda hq.2) (by rfl)) ?_) | (refine fw_take 10 rfl (by kernel_rfl) rfl rfl (by kernel_rfl) (by kernel_rfl) (by kernel_rfl) hNP hU rfl (fun w' hq => pv_load (t1 rfl) rfl (by first | exact PT.ld0 (H2.mono hq.1) rfl | exact PT.ld (H2.mono hq.1) rfl | exact PT.ld0 (H3.mono hq.1) rfl | exact PT.ld (H3.mono hq.1) rfl | exact PT.ld0 (H4.mono hq.1) rfl | exact PT.ld (H4.mono hq.1) rfl | exact PT.ld0 (H5.mono hq.1) rfl | exact PT.ld (H5.mono hq.1) rfl | exact PT.ld0 (H.mono hq.1) rfl | exact PT.ld (H.mono hq.1) rfl)) ?_) | (refine fw_take 10 rfl (by kernel_rfl) rfl rfl (by kernel_rfl) (by kernel_rfl) (by kernel_rfl) hNP hU rfl (fun w' hq => pv_loada (tA rfl) rfl (by first | exact PT.lda (H2.mono hq.1) | exact PT.lda (H3.mono hq.1) | exact PT.lda (H4.mono hq.1) | exact PT.lda (H5.mono hq.1) | exact PT.lda (H.mono hq.1)) (by rfl)) ?_)
  first | (refine fw_take 11 rfl (by kernel_rfl) rfl rfl (by kernel_rfl) (by kernel_rfl) (by kernel_rfl) hNP hU rfl (fun w' hq => pv_sleft (tStr rfl) rfl rfl hk) ?_) | (refine fw_take 11 rfl (by kernel_rfl) rfl rfl (by kernel_rfl) (by kernel_rfl) (by kernel_rfl) hNP hU rfl (fun w' hq => pv_slice_l (tS rfl) rfl rfl (by omega)) ?_) | (refine fw_take 11 rfl (by kernel_rfl) rfl rfl (by kernel_rfl) (by kernel_rfl) (by kernel_rfl) hNP hU rfl (fun w' hq => pv_slice_h (tS rfl) rfl rfl (by omega)) ?_) | (refine fw_take 11 rfl (by kernel_rfl) rfl rfl (by kernel_rfl) (by kernel_rfl) (by kernel_rfl) hNP hU rfl (fun w' hq => pv_slice_lh (tS rfl) rfl rfl rfl (by omega)) ?_)
  first | (refine fw_take 12 rfl (by kernel_rfl) rfl rfl (by kernel_rfl) (by kernel_rfl) (by kernel_rfl) hNP hU rfl (fun w' hq => tyB_78 rfl rfl rfl) ?_)
  refine fw_last (by kernel_rfl) rfl rfl rfl rfl (by kernel_rfl) ?_
  obtain ⟨hw, -⟩ := hU; clear hNP
  refine act_svs (some_updB (k := n) (v := ((⟨n, (a ++ b).extract 0 k.toNat, emptyB⟩ : Fil).firm, (⟨n, (a ++ b).extract 0 k.toNat, emptyB⟩ : Fil).pend)) Tryd.underlying79 keyS hn rfl rfl rfl (hm.mono hw)) ?_; rintro w6 ⟨hm6, hg6, hz6⟩; exact qw_end0 rfl ⟨⟨_, rfl⟩, ⟨_, hm6, perm_put (φ := fun f => (f.firm, f.pend)) hp hs (⟨n, (a ++ b).extract 0 k.toNat, emptyB⟩ : Fil)⟩, (Gw.of_below hw).trans (Gw.of_b hg6)⟩
set_option maxRecDepth 20000 in
theorem delete1_c {w : World} {N B N2 N3 : Nat} {T2 T3 : TypeId} {d : Dsk} {n : ByteArray} (h : DkW w N B d) (hn : n.size ≤ 9223372036854775807) (H2 : PT w N2 T2 [.pointer (some ⟨N, 0, none⟩)]) (H3 : PT w N3 T3 [.string n]) : Calls Tryd.prog 56 #[.pointer (some ⟨N2, 0, none⟩), .pointer (some ⟨N3, 0, none⟩)] w fun e w' => Left w w' B (dropF d.fs n) e := by
  obtain ⟨m, hm, hp⟩ := h.mp
  have hs := h.ok.srt
  have H := h.obj
  have hw := Below.refl w.heap.size w
  refine fn_enter 7 Tryd.func56 rfl rfl rfl ?_
  refine cw_drawnF 5 (fun w' => Below w.heap.size w w' ∧ True) (by kernel_rfl) (by repeat (first | exact NoPanic.body | with_reducible refine NoPanic.then ?_ | with_reducible refine NoPanic.inBlock ?_)) (fun hNP => ?_)
  have hU := And.intro hw.drew trivial
  first | (refine fw_takeT 0 9 rfl (by kernel_rfl) (by kernel_rfl) rfl rfl (by kernel_rfl) (by kernel_rfl) (by kernel_rfl) hNP hU rfl (fun w' hq => pv_load (t1 rfl) rfl (by first | exact PT.ld0 hq.2 rfl | exact PT.ld hq.2 rfl)) ?_) | (refine fw_takeT 0 9 rfl (by kernel_rfl) (by kernel_rfl) rfl rfl (by kernel_rfl) (by kernel_rfl) (by kernel_rfl) hNP hU rfl (fun w' hq => pv_loada (tA rfl) rfl (by first | exact PT.lda hq.2) (by rfl)) ?_) | (refine fw_takeT 0 9 rfl (by kernel_rfl) (by kernel_rfl) rfl rfl (by kernel_rfl) (by kernel_rfl) (by kernel_rfl) hNP hU rfl (fun w' hq => pv_load (t1 rfl) rfl (by first | exact PT.ld0 (H2.mono hq.1) rfl | exact PT.ld (H2.mono hq.1) rfl | exact PT.ld0 (H3.mono hq.1) rfl | exact PT.ld (H3.mono hq.1) rfl | exact PT.ld0 (H.mono hq.1) rfl | exact PT.ld (H.mono hq.1) rfl)) ?_) | (refine fw_takeT 0 9 rfl (by kernel_rfl) (by kernel_rfl) rfl rfl (by kernel_rfl) (by kernel_rfl) (by kernel_rfl) hNP hU rfl (fun w' hq => pv_loada (tA rfl) rfl (by first | exact PT.lda (H2.mono hq.1) | exact PT.lda (H3.mono hq.1) | exact PT.lda (H.mono hq.1)) (by rfl)) ?_)
  first | (refine fw_takeT 1 9 rfl (by kernel_rfl) (by kernel_rfl) rfl rfl (by kernel_rfl) (by kernel_rfl) (by kernel_rfl) hNP hU rfl (fun w' hq => pv_nilp rfl) ?_)
  first | (refine fw_takeT 2 9 rfl (by kernel_rfl) (by kernel_rfl) rfl rfl (by kernel_rfl) (by kernel_rfl) (by kernel_rfl) hNP hU rfl (fun w' hq => pv_fa (tF rfl) rfl) ?_)
  first | (refine fw_takeT 3 9 rfl (by kernel_rfl) (by kernel_rfl) rfl rfl (by kernel_rfl) (by kernel_rfl) (by kernel_rfl) hNP hU rfl (fun w' hq => pv_load (t1 rfl) rfl (by first | exact PT.ld0 hq.2 rfl | exact PT.ld hq.2 rfl)) ?_) | (refine fw_takeT 3 9 rfl (by kernel_rfl) (by kernel_rfl) rfl rfl (by kernel_rfl) (by kernel_rfl) (by kernel_rfl) hNP hU rfl (fun w' hq => pv_loada (tA rfl) rfl (by first | exact PT.lda hq.2) (by rfl)) ?_) | (refine fw_takeT 3 9 rfl (by kernel_rfl) (by kernel_rfl) rfl rfl (by kernel_rfl) (by kernel_rfl) (by kernel_rfl) hNP hU rfl (fun w' hq => pv_load (t1 rfl) rfl (by first | exact PT.ld0 (H2.mono hq.1) rfl | exact PT.ld (H2.mono hq.1) rfl | exact PT.ld0 (H3.mono hq.1) rfl | exact PT.ld (H3.mono hq.1) rfl | exact PT.ld0 (H.mono hq.1) rfl | exact PT.ld (H.mono hq.1) rfl)) ?_) | (refine fw_takeT 3 9 rfl (by kernel_rfl) (by kernel_rfl) rfl rfl (by kernel_rfl) (by kernel_rfl) (by kernel_rfl) hNP hU rfl (fun w' hq => pv_loada (tA rfl) rfl (by first | exact PT.lda (H2.mono hq.1) | exact PT.lda (H3.mono hq.1) | exact PT.lda (H.mono hq.1)) (by rfl)) ?_)
  first | (refine fw_takeT 4 9 rfl (by kernel_rfl) (by kernel_rfl) rfl rfl (by kernel_rfl) (by kernel_rfl) (by kernel_rfl) hNP hU rfl (fun w' hq => pv_load (t1 rfl) rfl (by first | exact PT.ld0 hq.2 rfl | exact PT.ld hq.2 rfl)) ?_) | (refine fw_takeT 4 9 rfl (by kernel_rfl) (by kernel_rfl) rfl rfl (by kernel_rfl) (by kernel_rfl) (by kernel_rfl) hNP hU rfl (fun w' hq => pv_loada (tA rfl) rfl (by first | exact PT.lda hq.2) (by rfl)) ?_) | (refine fw_takeT 4 9 rfl (by kernel_rfl) (by kernel_rfl) rfl rfl (by kernel_rfl) (by kernel_rfl) (by kernel_rfl) hNP hU rfl (fun w' hq => pv_load (t1 rfl) rfl (by first | exact PT.ld0 (H2.mono hq.1) rfl | exact PT.ld (H2.mono hq.1) rfl | exact PT.ld0 (H3.mono hq.1) rfl | exact PT.ld (H3.mono hq.1) rfl | exact PT.ld0 (H.mono hq.1) rfl | exact PT.ld (H.mono hq.1) rfl)) ?_) | (refine fw_takeT 4 9 rfl (by kernel_rfl) (by kernel_rfl) rfl rfl (by kernel_rfl) (by kernel_rfl) (by kernel_rfl) hNP hU rfl (fun w' hq => pv_loada (tA rfl) rfl (by first | exact PT.lda (H2.mono hq.1) | exact PT.lda (H3.mono hq.1) | exact PT.lda (H.mono hq.1)) (by rfl)) ?_)
  obtain ⟨hw, -⟩ := hU; clear hNP
  refine fw_one 5 (by kernel_rfl) rfl rfl rfl (by kernel_rfl) ?_
  refine act_some (some_delB (k := n) rfl Tryd.underlying79 keyS hn rfl rfl (hm.mono hw)) ?_; rintro v w6 ⟨rfl, hm6, hg6, hz6⟩; skip
  refine fw_done (by kernel_rfl) ?_
  exact qw_end0 rfl ⟨⟨_, rfl⟩, ⟨_, hm6, perm_drop (φ := fun f => (f.firm, f.pend)) hp hs n⟩, (Gw.of_below hw).trans (Gw.of_b hg6)⟩
set_option maxRecDepth 20000 in
theorem rename1_c {w : World} {N B N2 N3 N4 N5 : Nat} {T2 T3 T4 T5 : TypeId} {d : Dsk} {n t a b : ByteArray} (h : DkW w N B d) (hn : n.size ≤ 9223372036854775807) (ht : t.size ≤ 9223372036854775807) (H2 : PT w N2 T2 [.pointer (some ⟨N, 0, none⟩)]) (H3 : PT w N3 T3 [.string n]) (H5 : PT w N5 T5 [.string a, .string b]) (H4 : PT w N4 T4 [.string t]) : Calls Tryd.prog 55 #[.pointer (some ⟨N2, 0, none⟩), .pointer (some ⟨N3, 0, none⟩), .pointer (some ⟨N5, 0, none⟩), .pointer (some ⟨N4, 0, none⟩)] w fun e w' => Left w w' B (putF (dropF d.fs n) ⟨t, a, b⟩) e := by
  obtain ⟨m, hm, hp⟩ := h.mp
  have hs := h.ok.srt
  have H := h.obj
  have hw := Below.refl w.heap.size w
  have e1 := hm.ne H
  have e2 := hm.ne H2
  have e3 := hm.ne H3
  have e4 := hm.ne H4
  have e5 := hm.ne H5
  refine fn_enter 15 Tryd.func55 rfl rfl rfl ?_
  refine cw_seq ?_
  refine cw_drawnF 5 (fun w' => Below w.heap.size w w' ∧ True) (by kernel_rfl) (by repeat (first | exact NoPanic.body | with_reducible refine NoPanic.then ?_ | with_reducible refine NoPanic.inBlock ?_)) (fun hNP => ?_)
  have hU := And.intro hw.drew trivial
  first | (refine fw_takeT 0 9 rfl (by kernel_rfl) (by kernel_rfl) rfl rfl (by kernel_rfl) (by kernel_rfl) (by kernel_rfl) hNP hU rfl (fun w' hq => pv_load (t1 rfl) rfl (by first | exact PT.ld0 hq.2 rfl | exact PT.ld hq.2 rfl)) ?_) | (refine fw_takeT 0 9 rfl (by kernel_rfl) (by kernel_rfl) rfl rfl (by kernel_rfl) (by kernel_rfl) (by kernel_rfl) hNP hU rfl (fun w' hq => pv_loada (tA rfl) rfl (by first | exact PT.lda hq.2) (by rfl)) ?_) | (refine fw_takeT 0 9 rfl (by kernel_rfl) (by kernel_rfl) rfl rfl (by kernel_rfl) (by kernel_rfl) (by kernel_rfl) hNP hU rfl (fun w' hq => pv_load (t1 rfl) rfl (by first | exact PT.ld0 (H2.mono hq.1) rfl | exact PT.ld (H2.mono hq.1) rfl | exact PT.ld0 (H3.mono hq.1) rfl | exact PT.ld (H3.mono hq.1) rfl | exact PT.ld0 (H.mono hq.1) rfl | exact PT.ld (H.mono hq.1) rfl)) ?_) | (refine fw_takeT 0 9 rfl (by kernel_rfl) (by kernel_rfl) rfl rfl (by kernel_rfl) (by kernel_rfl) (by kernel_rfl) hNP hU rfl (fun w' hq => pv_loada (tA rfl) rfl (by first | exact PT.lda (H2.mono hq.1) | exact PT.lda (H3.mono hq.1) | exact PT.lda (H.mono hq.1)) (by rfl)) ?_)
  first | (refine fw_takeT 1 9 rfl (by kernel_rfl) (by kernel_rfl) rfl rfl (by kernel_rfl) (by kernel_rfl) (by kernel_rfl) hNP hU rfl (fun w' hq => pv_nilp rfl) ?_)
  first | (refine fw_takeT 2 9 rfl (by kernel_rfl) (by kernel_rfl) rfl rfl (by kernel_rfl) (by kernel_rfl) (by kernel_rfl) hNP hU rfl (fun w' hq => pv_fa (tF rfl) rfl) ?_)
  first | (refine fw_takeT 3 9 rfl (by kernel_rfl) (by kernel_rfl) rfl rfl (by kernel_rfl) (by kernel_rfl) (by kernel_rfl) hNP hU rfl (fun w' hq => pv_load (t1 rfl) rfl (by first | exact PT.ld0 hq.2 rfl | exact PT.ld hq.2 rfl)) ?_) | (refine fw_takeT 3 9 rfl (by kernel_rfl) (by kernel_rfl) rfl rfl (by kernel_rfl) (by kernel_rfl) (by kernel_rfl) hNP hU rfl (fun w' hq => pv_loada (tA rfl) rfl (by first | exact PT.lda hq.2) (by rfl)) ?_) | (refine fw_takeT 3 9 rfl (by kernel_rfl) (by kernel_rfl) rfl rfl (by kernel_rfl) (by kernel_rfl) (by kernel_rfl) hNP hU rfl (fun w' hq => pv_load (t1 rfl) rfl (by first | exact PT.ld0 (H2.mono hq.1) rfl | exact PT.ld (H2.mono hq.1) rfl | exact PT.ld0 (H3.mono hq.1) rfl | exact PT.ld (H3.mono hq.1) rfl | exact PT.ld0 (H.mono hq.1) rfl | exact PT.ld (H.mono hq.1) rfl)) ?_) | (refine fw_takeT 3 9 rfl (by kernel_rfl) (by kernel_rfl) rfl rfl (by kernel_rfl) (by kernel_rfl) (by kernel_rfl) hNP hU rfl (fun w' hq => pv_loada (tA rfl) rfl (by first | exact PT.lda (H2.mono hq.1) | exact PT.lda (H3.mono hq.1) | exact PT.lda (H.mono hq.1)) (by rfl)) ?_)
  first | (refine fw_takeT 4 9 rfl (by kernel_rfl) (by kernel_rfl) rfl rfl (by kernel_rfl) (by kernel_rfl) (by kernel_rfl) hNP hU rfl (fun w' hq => pv_load (t1 rfl) rfl (by first | exact PT.ld0 hq.2 rfl | exact PT.ld hq.2 rfl)) ?_) | (refine fw_takeT 4 9 rfl (by kernel_rfl) (by kernel_rfl) rfl rfl (by kernel_rfl) (by kernel_rfl) (by kernel_rfl) hNP hU rfl (fun w' hq => pv_loada (tA rfl) rfl (by first | exact PT.lda hq.2) (by rfl)) ?_) | (refine fw_takeT 4 9 rfl (by kernel_rfl) (by kernel_rfl) rfl rfl (by kernel_rfl) (by kernel_rfl) (by kernel_rfl) hNP hU rfl (fun w' hq => pv_load (t1 rfl) rfl (by first | exact PT.ld0 (H2.mono hq.1) rfl | exact PT.ld (H2.mono hq.1) rfl | exact PT.ld0 (H3.mono hq.1) rfl | exact PT.ld (H3.mono hq.1) rfl | exact PT.ld0 (H.mono hq.1) rfl | exact PT.ld (H.mono hq.1) rfl)) ?_) | (refine fw_takeT 4 9 rfl (by kernel_rfl) (by kernel_rfl) rfl rfl (by kernel_rfl) (by kernel_rfl) (by kernel_rfl) hNP hU rfl (fun w' hq => pv_loada (tA rfl) rfl (by first | exact PT.lda (H2.mono hq.1) | exact PT.lda (H3.mono hq.1) | exact PT.lda (H.mono hq.1)) (by rfl)) ?_)
  obtain ⟨hw, -⟩ := hU; clear hNP
  refine fw_one 5 (by kernel_rfl) rfl rfl rfl (by kernel_rfl) ?_
  refine act_some (some_delB (k := n) rfl Tryd.underlying79 keyS hn rfl rfl (hm.mono hw)) ?_; rintro v w6 ⟨rfl, hm6, hg6, hz6⟩
  refine fw_done (by kernel_rfl) ?_
  have G6 := (Gw.of_below (a := B) (b := B) hw).trans (Gw.of_b hg6)
  have hp6 := perm_drop (φ := fun f => (f.firm, f.pend)) hp hs n
  have hs6 := hs.drop n
  replace H := H.gw G6 e1 e1
  replace H2 := H2.gw G6 e2 e2
  replace H3 := H3.gw G6 e3 e3
  replace H4 := H4.gw G6 e4 e4
  replace H5 := H5.gw G6 e5 e5
  clear hw hm hg6 hz6
  have hw := Below.refl w6.heap.size w6
  (with_reducible refine qw_then ?_)
  refine cw_drawnF 6 (fun w' => Below w6.heap.size w6 w' ∧ True) (by kernel_rfl) (by repeat (first | exact NoPanic.body | with_reducible refine NoPanic.then ?_ | with_reducible refine NoPanic.inBlock ?_)) (fun hNP => ?_)
  have hU := And.intro hw.drew trivial
  first | (refine fw_take 0 rfl (by kernel_rfl) rfl rfl (by kernel_rfl) (by kernel_rfl) (by kernel_rfl) hNP hU rfl (fun w' hq => pv_load (t1 rfl) rfl (by first | exact PT.ld0 hq.2 rfl | exact PT.ld hq.2 rfl)) ?_) | (refine fw_take 0 rfl (by kernel_rfl) rfl rfl (by kernel_rfl) (by kernel_rfl) (by kernel_rfl) hNP hU rfl (fun w' hq => pv_loada (tA rfl) rfl (by first | exact PT.lda hq.2) (by rfl)) ?_) | (refine fw_take 0 rfl (by kernel_rfl) rfl rfl (by kernel_rfl) (by kernel_rfl) (by kernel_rfl) hNP hU rfl (fun w' hq => pv_load (t1 rfl) rfl (by first | exact PT.ld0 (H2.mono hq.1) rfl | exact PT.ld (H2.mono hq.1) rfl | exact PT.ld0 (H4.mono hq.1) rfl | exact PT.ld (H4.mono hq.1) rfl | exact PT.ld0 (H5.mono hq.1) rfl | exact PT.ld (H5.mono hq.1) rfl | exact PT.ld0 (H.mono hq.1) rfl | exact PT.ld (H.mono hq.1) rfl)) ?_) | (refine fw_take 0 rfl (by kernel_rfl) rfl rfl (by kernel_rfl) (by kernel_rfl) (by kernel_rfl) hNP hU rfl (fun w' hq => pv_loada (tA rfl) rfl (by first | exact PT.lda (H2.mono hq.1) | exact PT.lda (H4.mono hq.1) | exact PT.lda (H5.mono hq.1) | exact PT.lda (H.mono hq.1)) (by rfl)) ?_)
  first | (refine fw_take 1 rfl (by kernel_rfl) rfl rfl (by kernel_rfl) (by kernel_rfl) (by kernel_rfl) hNP hU rfl (fun w' hq => pv_nilp rfl) ?_)
  first | (refine fw_take 2 rfl (by kernel_rfl) rfl rfl (by kernel_rfl) (by kernel_rfl) (by kernel_rfl) hNP hU rfl (fun w' hq => pv_fa (tF rfl) rfl) ?_)
  first | (refine fw_take 3 rfl (by kernel_rfl) rfl rfl (by kernel_rfl) (by kernel_rfl) (by kernel_rfl) hNP hU rfl (fun w' hq => pv_load (t1 rfl) rfl (by first | exact PT.ld0 hq.2 rfl | exact PT.ld hq.2 rfl)) ?_) | (refine fw_take 3 rfl (by kernel_rfl) rfl rfl (by kernel_rfl) (by kernel_rfl) (by kernel_rfl) hNP hU rfl (fun w' hq => pv_loada (tA rfl) rfl (by first | exact PT.lda hq.2) (by rfl)) ?_) | (refine fw_take 3 rfl (by kernel_rfl) rfl rfl (by kernel_rfl) (by kernel_rfl) (by kernel_rfl) hNP hU rfl (fun w' hq => pv_load (t1 rfl) rfl (by first | exact PT.ld0 (H2.mono hq.1) rfl | exact PT.ld (H2.mono hq.1) rfl | exact PT.ld0 (H4.mono hq.1) rfl | exact PT.ld (H4.mono hq.1) rfl | exact PT.ld0 (H5.mono hq.1) rfl | exact PT.ld (H5.mono hq.1) rfl | exact PT.ld0 (H.mono hq.1) rfl | exact PT.ld (H.mono hq.1) rfl)) ?_) | (refine fw_take 3 rfl (by kernel_rfl) rfl rfl (by kernel_rfl) (by kernel_rfl) (by kernel_rfl) hNP hU rfl (fun w' hq => pv_loada (tA rfl) rfl (by first | exact PT.lda (H2.mono hq.1) | exact PT.lda (H4.mono hq.1) | exact PT.lda (H5.mono hq.1) | exact PT.lda (H.mono hq.1)) (by rfl)) ?_)
  first | (refine fw_take 4 rfl (by kernel_rfl) rfl rfl (by kernel_rfl) (by kernel_rfl) (by kernel_rfl) hNP hU rfl (fun w' hq => pv_load (t1 rfl) rfl (by first | exact PT.ld0 hq.2 rfl | exact PT.ld hq.2 rfl)) ?_) | (refine fw_take 4 rfl (by kernel_rfl) rfl rfl (by kernel_rfl) (by kernel_rfl) (by kernel_rfl) hNP hU rfl (fun w' hq => pv_loada (tA rfl) rfl (by first | exact PT.lda hq.2) (by rfl)) ?_) | (refine fw_take 4 rfl (by kernel_rfl) rfl rfl (by kernel_rfl) (by kernel_rfl) (by kernel_rfl) hNP hU rfl (fun w' hq => pv_load (t1 rfl) rfl (by first | exact PT.ld0 (H2.mono hq.1) rfl | exact PT.ld (H2.mono hq.1) rfl | exact PT.ld0 (H4.mono hq.1) rfl | exact PT.ld (H4.mono hq.1) rfl | exact PT.ld0 (H5.mono hq.1) rfl | exact PT.ld (H5.mono hq.1) rfl | exact PT.ld0 (H.mono hq.1) rfl | exact PT.ld (H.mono hq.1) rfl)) ?_) | (refine fw_take 4 rfl (by kernel_rfl) rfl rfl (by kernel_rfl) (by kernel_rfl) (by kernel_rfl) hNP hU rfl (fun w' hq => pv_loada (tA rfl) rfl (by first | exact PT.lda (H2.mono hq.1) | exact PT.lda (H4.mono hq.1) | exact PT.lda (H5.mono hq.1) | exact PT.lda (H.mono hq.1)) (by rfl)) ?_)
  first | (refine fw_take 5 rfl (by kernel_rfl) rfl rfl (by kernel_rfl) (by kernel_rfl) (by kernel_rfl) hNP hU rfl (fun w' hq => pv_load (t1 rfl) rfl (by first | exact PT.ld0 hq.2 rfl | exact PT.ld hq.2 rfl)) ?_) | (refine fw_take 5 rfl (by kernel_rfl) rfl rfl (by kernel_rfl) (by kernel_rfl) (by kernel_rfl) hNP hU rfl (fun w' hq => pv_loada (tA rfl) rfl (by first | exact PT.lda hq.2) (by rfl)) ?_) | (refine fw_take 5 rfl (by kernel_rfl) rfl rfl (by kernel_rfl) (by kernel_rfl) (by kernel_rfl) hNP hU rfl (fun w' hq => pv_load (t1 rfl) rfl (by first | exact PT.ld0 (H2.mono hq.1) rfl | exact PT.ld (H2.mono hq.1) rfl | exact PT.ld0 (H4.mono hq.1) rfl | exact PT.ld (H4.mono hq.1) rfl | exact PT.ld0 (H5.mono hq.1) rfl | exact PT.ld (H5.mono hq.1) rfl | exact PT.ld0 (H.mono hq.1) rfl | exact PT.ld (H.mono hq.1) rfl)) ?_) | (refine fw_take 5 rfl (by kernel_rfl) rfl rfl (by kernel_rfl) (by kernel_rfl) (by kernel_rfl) hNP hU rfl (fun w' hq => pv_loada (tA rfl) rfl (by first | exact PT.lda (H2.mono hq.1) | exact PT.lda (H4.mono hq.1) | exact PT.lda (H5.mono hq.1) | exact PT.lda (H.mono hq.1)) (by rfl)) ?_)
  refine fw_last (by kernel_rfl) rfl rfl rfl rfl (by kernel_rfl) ?_
  obtain ⟨hw, -⟩ := hU; clear hNP
  refine act_svs (some_updB (k := t) (v := (a, b)) Tryd.underlying79 keyS ht rfl rfl rfl (hm6.mono hw)) ?_; rintro w7 ⟨hm7, hg7, hz7⟩; exact qw_end0 rfl ⟨⟨_, rfl⟩, ⟨_, hm7, perm_put (φ := fun f => (f.firm, f.pend)) hp6 hs6 ⟨t, a, b⟩⟩, (G6.trans (Gw.of_below hw)).trans (Gw.of_b hg7)⟩
end Go.Proofs.YtncicecmhibpcaaDoor
namespace Go.Proofs
open Go.Shelf
def Tryd.keysZ_ren : Go.Shelf.Ren := ⟨fun | 7 => 58 | 10 => 69 | n => n, fun | 23 => 79 | 26 => 9 | 3 => 78 | 28 => 94 | 0 => 0 | 27 => 93 | 33 => 46 | 4 => 4 | n => n, fun | n => n⟩
theorem Tryd.keysZ : Go.Proofs.SlLaysZ.n7 Tryd.prog Tryd.keysZ_ren := {
  mixed := by kernel_rfl
  f7 := ⟨Tryd.f58.name, by decide, Tryd.func58.trans (congrArg some (by kernel_rfl))⟩
  f10 := ⟨Tryd.f69.name, by decide, Tryd.func69.trans (congrArg some (by kernel_rfl))⟩
  t0 := Tryd.underlying0
  a0 := Tryd.isAgg0
  z0 := Tryd.sizeOf0
  v0 := Tryd.zeroValue0
  t4 := Tryd.underlying4
  a4 := Tryd.isAgg4
  z4 := Tryd.sizeOf4
  v4 := Tryd.zeroValue4
  t23 := Tryd.underlying79
  a23 := Tryd.isAgg79
  z23 := Tryd.sizeOf79
  v23 := Tryd.zeroValue79
  t26 := Tryd.underlying9
  a26 := Tryd.isAgg9
  z26 := Tryd.sizeOf9
  v26 := Tryd.zeroValue9
  t27 := Tryd.underlying93
  a27 := Tryd.isAgg93
  z27 := Tryd.sizeOf93
  v27 := Tryd.zeroValue93
  t28 := Tryd.underlying94
  a28 := Tryd.isAgg94
  z28 := Tryd.sizeOf94
  v28 := Tryd.zeroValue94
  t33 := Tryd.underlying46
  a33 := Tryd.isAgg46
  z33 := Tryd.sizeOf46
  v33 := Tryd.zeroValue46 }
def Tryd.sortedZ_ren : Go.Shelf.Ren := ⟨fun | 6 => 57 | 8 => 67 | 9 => 68 | 11 => 74 | 13 => 76 | 12 => 75 | 23 => 89 | 24 => 90 | 14 => 80 | 15 => 81 | 16 => 82 | 17 => 83 | 18 => 84 | 19 => 85 | 20 => 86 | 21 => 87 | 22 => 88 | 25 => 95 | 26 => 96 | 27 => 97 | 28 => 98 | 29 => 99 | 30 => 100 | 31 => 102 | n => n, fun | 26 => 9 | 28 => 94 | 24 => 47 | 0 => 0 | 3 => 3 | 37 => 63 | 48 => 123 | 50 => 40 | 4 => 4 | 40 => 115 | 39 => 114 | 45 => 120 | 5 => 5 | 9 => 9 | 51 => 133 | 55 => 137 | 57 => 139 | 58 => 140 | 33 => 46 | n => n, fun | n => n⟩
theorem Tryd.sortedZ : Go.Proofs.SlLaysZ.n6 Tryd.prog Tryd.sortedZ_ren := {
  mixed := by kernel_rfl
  f6 := ⟨Tryd.f57.name, by decide, Tryd.func57.trans (congrArg some (by kernel_rfl))⟩
  f8 := ⟨Tryd.f67.name, by decide, Tryd.func67.trans (congrArg some (by kernel_rfl))⟩
  f11 := ⟨Tryd.f74.name, by decide, Tryd.func74.trans (congrArg some (by kernel_rfl))⟩
  t0 := Tryd.underlying0
  a0 := Tryd.isAgg0
  z0 := Tryd.sizeOf0
  v0 := Tryd.zeroValue0
  t24 := Tryd.underlying47
  a24 := Tryd.isAgg47
  z24 := Tryd.sizeOf47
  v24 := Tryd.zeroValue47
  t26 := Tryd.underlying9
  a26 := Tryd.isAgg9
  z26 := Tryd.sizeOf9
  v26 := Tryd.zeroValue9
  t28 := Tryd.underlying94
  a28 := Tryd.isAgg94
  z28 := Tryd.sizeOf94
  v28 := Tryd.zeroValue94
  i26 := by kernel_rfl }
def Tryd.sortM_ren : Go.Shelf.Ren := ⟨fun | 6 => 68 | 8 => 76 | 9 => 75 | 19 => 89 | 20 => 90 | 21 => 80 | 22 => 81 | 23 => 82 | 24 => 83 | 25 => 84 | 26 => 85 | 27 => 86 | 28 => 87 | 29 => 88 | 36 => 95 | 31 => 96 | 32 => 97 | 37 => 98 | 38 => 99 | 39 => 100 | 41 => 102 | n => n, fun | 27 => 47 | 29 => 9 | 3 => 3 | 32 => 63 | 26 => 47 | 0 => 0 | 44 => 123 | 46 => 40 | 4 => 4 | 36 => 115 | 35 => 114 | 41 => 120 | 5 => 5 | 9 => 9 | 53 => 133 | 57 => 137 | 63 => 139 | 64 => 140 | n => n, fun | n => n⟩
theorem Tryd.sortM : Go.Proofs.SlLaysM.n6 Tryd.prog Tryd.sortM_ren := {
  mixed := by kernel_rfl
  f6 := ⟨Tryd.f68.name, by decide, Tryd.func68.trans (congrArg some (by kernel_rfl))⟩
  f8 := Tryd.func76.trans (congrArg some (by kernel_rfl))
  f9 := ⟨Tryd.f75.name, by decide, Tryd.func75.trans (congrArg some (by kernel_rfl))⟩
  f19 := Tryd.func89.trans (congrArg some (by kernel_rfl))
  f20 := Tryd.func90.trans (congrArg some (by kernel_rfl))
  f21 := ⟨Tryd.f80.name, by decide, Tryd.func80.trans (congrArg some (by kernel_rfl))⟩
  f22 := ⟨Tryd.f81.name, by decide, Tryd.func81.trans (congrArg some (by kernel_rfl))⟩
  f23 := ⟨Tryd.f82.name, by decide, Tryd.func82.trans (congrArg some (by kernel_rfl))⟩
  f24 := ⟨Tryd.f83.name, by decide, Tryd.func83.trans (congrArg some (by kernel_rfl))⟩
  f25 := ⟨Tryd.f84.name, by decide, Tryd.func84.trans (congrArg some (by kernel_rfl))⟩
  f26 := ⟨Tryd.f85.name, by decide, Tryd.func85.trans (congrArg some (by kernel_rfl))⟩
  f27 := ⟨Tryd.f86.name, by decide, Tryd.func86.trans (congrArg some (by kernel_rfl))⟩
  f28 := ⟨Tryd.f87.name, by decide, Tryd.func87.trans (congrArg some (by kernel_rfl))⟩
  f29 := ⟨Tryd.f88.name, by decide, Tryd.func88.trans (congrArg some (by kernel_rfl))⟩
  f31 := Tryd.func96.trans (congrArg some (by kernel_rfl))
  f32 := Tryd.func97.trans (congrArg some (by kernel_rfl))
  f36 := ⟨Tryd.f95.name, by decide, Tryd.func95.trans (congrArg some (by kernel_rfl))⟩
  f37 := ⟨Tryd.f98.name, by decide, Tryd.func98.trans (congrArg some (by kernel_rfl))⟩
  f38 := ⟨Tryd.f99.name, by decide, Tryd.func99.trans (congrArg some (by kernel_rfl))⟩
  f39 := ⟨Tryd.f100.name, by decide, Tryd.func100.trans (congrArg some (by kernel_rfl))⟩
  f41 := ⟨Tryd.f102.name, by decide, Tryd.func102.trans (congrArg some (by kernel_rfl))⟩
  t0 := Tryd.underlying0
  a0 := Tryd.isAgg0
  z0 := Tryd.sizeOf0
  v0 := Tryd.zeroValue0
  t3 := Tryd.underlying3
  a3 := Tryd.isAgg3
  z3 := Tryd.sizeOf3
  v3 := Tryd.zeroValue3
  t4 := Tryd.underlying4
  a4 := Tryd.isAgg4
  z4 := Tryd.sizeOf4
  v4 := Tryd.zeroValue4
  t5 := Tryd.underlying5
  a5 := Tryd.isAgg5
  z5 := Tryd.sizeOf5
  v5 := Tryd.zeroValue5
  t9 := Tryd.underlying9
  a9 := Tryd.isAgg9
  z9 := Tryd.sizeOf9
  v9 := Tryd.zeroValue9
  t26 := Tryd.underlying47
  a26 := Tryd.isAgg47
  z26 := Tryd.sizeOf47
  v26 := Tryd.zeroValue47
  t27 := Tryd.underlying47
  a27 := Tryd.isAgg47
  z27 := Tryd.sizeOf47
  v27 := Tryd.zeroValue47
  t29 := Tryd.underlying9
  a29 := Tryd.isAgg9
  z29 := Tryd.sizeOf9
  v29 := Tryd.zeroValue9
  t32 := Tryd.underlying63
  a32 := Tryd.isAgg63
  z32 := Tryd.sizeOf63
  v32 := Tryd.zeroValue63
  t35 := Tryd.underlying114
  a35 := Tryd.isAgg114
  z35 := Tryd.sizeOf114
  v35 := Tryd.zeroValue114
  t36 := Tryd.underlying115
  a36 := Tryd.isAgg115
  z36 := Tryd.sizeOf115
  v36 := Tryd.zeroValue115
  t41 := Tryd.underlying120
  a41 := Tryd.isAgg120
  z41 := Tryd.sizeOf120
  v41 := Tryd.zeroValue120
  t44 := Tryd.underlying123
  a44 := Tryd.isAgg123
  z44 := Tryd.sizeOf123
  v44 := Tryd.zeroValue123
  t46 := Tryd.underlying40
  a46 := Tryd.isAgg40
  z46 := Tryd.sizeOf40
  v46 := Tryd.zeroValue40
  t53 := Tryd.underlying133
  a53 := Tryd.isAgg133
  z53 := Tryd.sizeOf133
  v53 := Tryd.zeroValue133
  t57 := Tryd.underlying137
  a57 := Tryd.isAgg137
  z57 := Tryd.sizeOf137
  v57 := Tryd.zeroValue137
  t63 := Tryd.underlying139
  a63 := Tryd.isAgg139
  z63 := Tryd.sizeOf139
  v63 := Tryd.zeroValue139
  t64 := Tryd.underlying140
  a64 := Tryd.isAgg140
  z64 := Tryd.sizeOf140
  v64 := Tryd.zeroValue140 }
def Tryd.trimL_ren : Go.Shelf.Ren := ⟨fun | 160 => 43 | 232 => 60 | 231 => 59 | 227 => 61 | 234 => 63 | 233 => 62 | 236 => 65 | 235 => 64 | 228 => 70 | 271 => 73 | 151 => 72 | 197 => 71 | 120 => 79 | 152 => 78 | 260 => 77 | 137 => 91 | 119 => 92 | 224 => 93 | 225 => 94 | 217 => 101 | 266 => 103 | n => n, fun | 9 => 9 | 4 => 4 | 3 => 3 | 5 => 5 | 117 => 99 | 116 => 98 | 0 => 0 | 124 => 102 | 21 => 21 | 105 => 106 | 46 => 63 | 119 => 125 | 139 => 128 | 138 => 127 | n => n, fun | 3 => 0 | 4 => 1 | n => n⟩
theorem Tryd.trimL : Go.Proofs.Lays.n160 Tryd.prog Tryd.trimL_ren := {
  mixed := by kernel_rfl
  f119 := Tryd.func92.trans (congrArg some (by kernel_rfl))
  f120 := Tryd.func79.trans (congrArg some (by kernel_rfl))
  f137 := Tryd.func91.trans (congrArg some (by kernel_rfl))
  f151 := Tryd.func72.trans (congrArg some (by kernel_rfl))
  f152 := Tryd.func78.trans (congrArg some (by kernel_rfl))
  f160 := Tryd.func43.trans (congrArg some (by kernel_rfl))
  f197 := Tryd.func71.trans (congrArg some (by kernel_rfl))
  f217 := Tryd.func101.trans (congrArg some (by kernel_rfl))
  f224 := Tryd.func93.trans (congrArg some (by kernel_rfl))
  f225 := Tryd.func94.trans (congrArg some (by kernel_rfl))
  f227 := Tryd.func61.trans (congrArg some (by kernel_rfl))
  f228 := Tryd.func70.trans (congrArg some (by kernel_rfl))
  f231 := Tryd.func59.trans (congrArg some (by kernel_rfl))
  f232 := Tryd.func60.trans (congrArg some (by kernel_rfl))
  f233 := Tryd.func62.trans (congrArg some (by kernel_rfl))
  f234 := Tryd.func63.trans (congrArg some (by kernel_rfl))
  f235 := Tryd.func64.trans (congrArg some (by kernel_rfl))
  f236 := Tryd.func65.trans (congrArg some (by kernel_rfl))
  f260 := Tryd.func77.trans (congrArg some (by kernel_rfl))
  f266 := Tryd.func103.trans (congrArg some (by kernel_rfl))
  f271 := Tryd.func73.trans (congrArg some (by kernel_rfl))
  t0 := Tryd.underlying0
  a0 := Tryd.isAgg0
  z0 := Tryd.sizeOf0
  v0 := Tryd.zeroValue0
  t3 := Tryd.underlying3
  a3 := Tryd.isAgg3
  z3 := Tryd.sizeOf3
  v3 := Tryd.zeroValue3
  t4 := Tryd.underlying4
  a4 := Tryd.isAgg4
  z4 := Tryd.sizeOf4
  v4 := Tryd.zeroValue4
  t5 := Tryd.underlying5
  a5 := Tryd.isAgg5
  z5 := Tryd.sizeOf5
  v5 := Tryd.zeroValue5
  t9 := Tryd.underlying9
  a9 := Tryd.isAgg9
  z9 := Tryd.sizeOf9
  v9 := Tryd.zeroValue9
  t21 := Tryd.underlying21
  a21 := Tryd.isAgg21
  z21 := Tryd.sizeOf21
  v21 := Tryd.zeroValue21
  t46 := Tryd.underlying63
  a46 := Tryd.isAgg63
  z46 := Tryd.sizeOf63
  v46 := Tryd.zeroValue63
  t105 := Tryd.underlying106
  a105 := Tryd.isAgg106
  z105 := Tryd.sizeOf106
  v105 := Tryd.zeroValue106
  t116 := Tryd.underlying98
  a116 := Tryd.isAgg98
  z116 := Tryd.sizeOf98
  t117 := Tryd.underlying99
  a117 := Tryd.isAgg99
  z117 := Tryd.sizeOf99
  v117 := Tryd.zeroValue99
  t119 := Tryd.underlying125
  a119 := Tryd.isAgg125
  z119 := Tryd.sizeOf125
  t124 := Tryd.underlying102
  a124 := Tryd.isAgg102
  z124 := Tryd.sizeOf102
  v124 := Tryd.zeroValue102
  t138 := Tryd.underlying127
  a138 := Tryd.isAgg127
  z138 := Tryd.sizeOf127
  v138 := Tryd.zeroValue127
  t139 := Tryd.underlying128
  a139 := Tryd.isAgg128
  z139 := Tryd.sizeOf128
  v139 := Tryd.zeroValue128
  g3 := by kernel_rfl
  g4 := by kernel_rfl }
def Tryd.cloneW_ren : Go.Shelf.Ren := ⟨fun | 5 => 48 | 7 => 66 | n => n, fun | 23 => 79 | 25 => 9 | 3 => 78 | 4 => 4 | 20 => 20 | n => n, fun | n => n⟩
theorem Tryd.cloneW : Go.Proofs.SlLaysW.n5 Tryd.prog Tryd.cloneW_ren := {
  mixed := by kernel_rfl
  f5 := ⟨Tryd.f48.name, by decide, Tryd.func48.trans (congrArg some (by kernel_rfl))⟩
  f7 := Tryd.func66.trans (congrArg some (by kernel_rfl))
  t4 := Tryd.underlying4
  a4 := Tryd.isAgg4
  z4 := Tryd.sizeOf4
  v4 := Tryd.zeroValue4
  t20 := Tryd.underlying20
  a20 := Tryd.isAgg20
  z20 := Tryd.sizeOf20
  v20 := Tryd.zeroValue20
  t23 := Tryd.underlying79
  a23 := Tryd.isAgg79
  z23 := Tryd.sizeOf79
  v23 := Tryd.zeroValue79 }
end Go.Proofs
namespace Go.Proofs.YtncicecmhibpcaaDoor
open Go.RowKit Go.PlainAid

def lettersB : ByteArray := ⟨#[97, 98, 99, 100, 101, 102, 103, 104, 105, 106, 107, 108, 109, 110, 111, 112, 113, 114, 115, 116, 117, 118, 119, 120, 121, 122, 65, 66, 67, 68, 69, 70, 71, 72, 73, 74, 75, 76, 77, 78, 79, 80, 81, 82, 83, 84, 85, 86, 87, 88, 89, 90, 48, 49, 50, 51, 52, 53, 54, 55, 56, 57, 45, 95, 46]⟩
theorem letters_all : ∀ n : Fin 256, lettersB.data.toList.contains (UInt8.ofNat n.val) = letB (n.val : Int) := by decide +kernel
theorem letters_b (b : UInt8) : lettersB.data.toList.contains b = letB (b.toNat : Int) := by
  have h := letters_all ⟨b.toNat, b.toNat_lt⟩
  simpa using h
theorem drop_all {α : Type} (p : α → Bool) : ∀ l : List α, l.dropWhile p = [] ↔ ∀ x ∈ l, p x = true
  | [] => by simp
  | a :: r => by
    by_cases h : p a = true
    · rw [List.dropWhile_cons_of_pos h, drop_all p r]; simp [h]
    · rw [List.dropWhile_cons_of_neg h]; simp [h]
theorem trim_nil (l cs : List UInt8) : Lib.trimS l cs = [] ↔ ∀ x ∈ l, cs.contains x = true := by
  unfold Lib.trimS Lib.trimLeftS
  rw [drop_all]
  unfold Lib.trimRightS
  constructor
  · intro h
    cases hd : l.reverse.dropWhile (cs.contains ·) with
    | nil =>
      rw [drop_all] at hd
      exact fun x hx => hd x (List.mem_reverse.2 hx)
    | cons a r =>
      have h1 := h a (by rw [hd]; simp)
      have h2 : ¬ (cs.contains a = true) := by
        have := List.head?_dropWhile_not (cs.contains ·) l.reverse
        rw [hd] at this
        simpa using this
      exact absurd h1 h2
  · intro h x hx
    rw [List.mem_reverse] at hx
    exact h x (List.mem_reverse.1 ((List.dropWhile_sublist _).mem hx))
theorem trim_name (s : ByteArray) : (⟨(Lib.trimS s.data.toList lettersB.data.toList).toArray⟩ : ByteArray) = ⟨#[]⟩ ↔ (bytesI s).all letB = true := by
  have e : (⟨(Lib.trimS s.data.toList lettersB.data.toList).toArray⟩ : ByteArray) = ⟨#[]⟩ ↔ Lib.trimS s.data.toList lettersB.data.toList = [] := by
    constructor
    · intro h
      have := congrArg (fun b : ByteArray => b.data.toList) h
      simpa using this
    · intro h; rw [h]
  rw [e, trim_nil, List.all_eq_true]
  unfold bytesI
  simp only [List.mem_map, letters_b]
  constructor
  · rintro h x ⟨b, hb, rfl⟩
    exact h b hb
  · intro h b hb
    exact h _ ⟨b, hb, rfl⟩
theorem trim_c (s : ByteArray) (hs : s.size ≤ 9223372036854775807) (w : World) : Calls Tryd.prog 43 #[.string s, .string lettersB] w fun e w' => (∃ t, e = .returned (.string t) ∧ (t = ⟨#[]⟩ ↔ (bytesI s).all letB = true)) ∧ Below w.heap.size w w' :=
  (Any.strings_Trim_laid Tryd.trimL (by kernel_rfl) s lettersB w hs (by decide) (ascii_of_all (by decide))).mono fun _ _ h => ⟨⟨_, h.1, trim_name s⟩, h.2⟩
set_option maxRecDepth 20000 in
theorem name_c {s : ByteArray} (hs : s.size ≤ 9223372036854775807) (w : World) : Calls Tryd.prog 18 #[.string s] w fun e w' => e = .returned (.bool (nameF s)) ∧ Below w.heap.size w w' := by
  have hE := Ext.refl w
  have hw := Below.refl w.heap.size w
  refine fn_enter 16 Tryd.func18 rfl rfl rfl ?_
  by_cases h1 : 1 ≤ s.size ∧ s.size ≤ 24
  · obtain ⟨h2, h3⟩ := h1
    repeat' (first | (refine lw_pure rfl (pv_move rfl) ?_) | (refine lw_pure rfl (pv_assign rfl) ?_) | ((refine lw_call (f := 43) (by kernel_rfl) rfl rfl (trim_c s hs _) ?_; rintro e w1 ⟨⟨t, rfl, ht⟩, hb⟩; refine ⟨_, rfl, ?_⟩; replace hw := grow_trans hw hb; clear hb)) | (refine is_cw ?_; first | (refine cw_seq ?_) | (refine cw_region ?_) | (refine cw_ret ?_)) | (refine is_qw ?_; first | (with_reducible refine qw_then ?_) | (with_reducible refine qw_then_ret ?_)) | (refine lw_nil ?_) | (refine is_guarded ?_; first | (refine lw_not rfl rfl rfl rfl ?_) | (refine lw_not_u rfl rfl rfl ?_) | (refine lw_on rfl rfl rfl ?_) | (refine lw_on rfl rfl (by first | assumption | exact decide_eq_true (by omega) | exact decide_eq_false (by omega) | exact dec_notT (by omega) | exact dec_notF (by omega)) ?_) | (refine lw_not rfl rfl rfl (by first | assumption | exact decide_eq_true (by omega) | exact decide_eq_false (by omega) | exact dec_notT (by omega) | exact dec_notF (by omega)) ?_) | (refine lw_gs_t rfl rfl rfl (fun hc => ?_) (fun hc => ?_) <;> (first | replace hc := of_decide_eq_true hc | replace hc := of_decide_eq_false hc | replace hc := dec_nT hc | replace hc := dec_nF hc | skip) <;> (try (exfalso; omega))) | (refine lw_gs_f rfl rfl rfl (fun hc => ?_) (fun hc => ?_) <;> (first | replace hc := of_decide_eq_true hc | replace hc := of_decide_eq_false hc | replace hc := dec_nT hc | replace hc := dec_nF hc | skip) <;> (try (exfalso; omega)))) | ((refine is_bin ?_; first | (refine lw_pure rfl (pv_eql rfl rfl) ?_) | (refine lw_pure rfl (pv_leq rfl rfl) ?_) | (refine lw_pure rfl (pv_geq rfl rfl) ?_) | (refine lw_pure rfl (pv_seqlD rfl rfl) ?_))) | ((refine is_bi ?_; first | (refine lw_pure rfl (pv_lenl (tS rfl) rfl) ?_) | (refine lw_pure rfl (pv_lens (tStr rfl) rfl) ?_))) | (refine lw_pure rfl (pv_pick_t rfl rfl rfl) ?_) | (refine lw_pure rfl (pv_pick_f rfl rfl rfl) ?_) | (refine lw_pure rfl (pv_pick_t rfl (by first | assumption | exact decide_eq_true (by omega) | exact dec_notT (by omega)) rfl) ?_) | (refine lw_pure rfl (pv_pick_f rfl (by first | assumption | exact decide_eq_false (by omega) | exact dec_notF (by omega)) rfl) ?_) | (refine lw_pure rfl (pv_pick rfl rfl rfl) ?_) | (refine is_cw ?_; refine cw_split rfl (fun hc => ?_) (fun hc => ?_) <;> (first | replace hc := of_decide_eq_true hc | replace hc := of_decide_eq_false hc | replace hc := dec_nT hc | replace hc := dec_nF hc | skip) <;> (try (exfalso; omega))))
    refine qw_ret1 rfl rfl ⟨?_, (hE.mono hw).b⟩
    unfold nameF
    rw [decide_eq_true (show 1 ≤ s.size ∧ s.size ≤ 24 from ⟨h2, h3⟩), Bool.true_and]
    cases hq : (bytesI s).all letB with
    | true => rw [ht.2 hq]; rfl
    | false => rw [decide_eq_false (fun e => by rw [ht.1 e] at hq; cases hq)]
  · have e : nameF s = false := by unfold nameF; rw [decide_eq_false h1, Bool.false_and]
    rw [e]
    by_cases h2 : 1 ≤ s.size
    · have h3 : ¬ s.size ≤ 24 := fun h => h1 ⟨h2, h⟩
      repeat' (first | (refine lw_pure rfl (pv_move rfl) ?_) | (refine lw_pure rfl (pv_assign rfl) ?_) | (refine is_cw ?_; first | (refine cw_seq ?_) | (refine cw_region ?_) | (refine cw_ret ?_)) | (refine is_qw ?_; first | (with_reducible refine qw_then ?_) | (with_reducible refine qw_then_ret ?_)) | (refine lw_nil ?_) | (refine is_guarded ?_; first | (refine lw_not rfl rfl rfl rfl ?_) | (refine lw_not_u rfl rfl rfl ?_) | (refine lw_on rfl rfl rfl ?_) | (refine lw_on rfl rfl (by first | assumption | exact decide_eq_true (by omega) | exact decide_eq_false (by omega) | exact dec_notT (by omega) | exact dec_notF (by omega)) ?_) | (refine lw_not rfl rfl rfl (by first | assumption | exact decide_eq_true (by omega) | exact decide_eq_false (by omega) | exact dec_notT (by omega) | exact dec_notF (by omega)) ?_) | (refine lw_gs_t rfl rfl rfl (fun hc => ?_) (fun hc => ?_) <;> (first | replace hc := of_decide_eq_true hc | replace hc := of_decide_eq_false hc | replace hc := dec_nT hc | replace hc := dec_nF hc | skip) <;> (try (exfalso; omega))) | (refine lw_gs_f rfl rfl rfl (fun hc => ?_) (fun hc => ?_) <;> (first | replace hc := of_decide_eq_true hc | replace hc := of_decide_eq_false hc | replace hc := dec_nT hc | replace hc := dec_nF hc | skip) <;> (try (exfalso; omega)))) | ((refine is_bin ?_; first | (refine lw_pure rfl (pv_eql rfl rfl) ?_) | (refine lw_pure rfl (pv_leq rfl rfl) ?_) | (refine lw_pure rfl (pv_geq rfl rfl) ?_) | (refine lw_pure rfl (pv_seqlD rfl rfl) ?_))) | ((refine is_bi ?_; first | (refine lw_pure rfl (pv_lenl (tS rfl) rfl) ?_) | (refine lw_pure rfl (pv_lens (tStr rfl) rfl) ?_))) | (refine lw_pure rfl (pv_pick_t rfl rfl rfl) ?_) | (refine lw_pure rfl (pv_pick_f rfl rfl rfl) ?_) | (refine lw_pure rfl (pv_pick_t rfl (by first | assumption | exact decide_eq_true (by omega) | exact dec_notT (by omega)) rfl) ?_) | (refine lw_pure rfl (pv_pick_f rfl (by first | assumption | exact decide_eq_false (by omega) | exact dec_notF (by omega)) rfl) ?_) | (refine lw_pure rfl (pv_pick rfl rfl rfl) ?_) | (refine is_cw ?_; refine cw_split rfl (fun hc => ?_) (fun hc => ?_) <;> (first | replace hc := of_decide_eq_true hc | replace hc := of_decide_eq_false hc | replace hc := dec_nT hc | replace hc := dec_nF hc | skip) <;> (try (exfalso; omega))))
      exact qw_ret1 rfl rfl ⟨rfl, (hE.mono hw).b⟩
    · have h4 : s.size = 0 := by omega
      repeat' (first | (refine lw_pure rfl (pv_move rfl) ?_) | (refine lw_pure rfl (pv_assign rfl) ?_) | (refine is_cw ?_; first | (refine cw_seq ?_) | (refine cw_region ?_) | (refine cw_ret ?_)) | (refine is_qw ?_; first | (with_reducible refine qw_then ?_) | (with_reducible refine qw_then_ret ?_)) | (refine lw_nil ?_) | (refine is_guarded ?_; first | (refine lw_not rfl rfl rfl rfl ?_) | (refine lw_not_u rfl rfl rfl ?_) | (refine lw_on rfl rfl rfl ?_) | (refine lw_on rfl rfl (by first | assumption | exact decide_eq_true (by omega) | exact decide_eq_false (by omega) | exact dec_notT (by omega) | exact dec_notF (by omega)) ?_) | (refine lw_not rfl rfl rfl (by first | assumption | exact decide_eq_true (by omega) | exact decide_eq_false (by omega) | exact dec_notT (by omega) | exact dec_notF (by omega)) ?_) | (refine lw_gs_t rfl rfl rfl (fun hc => ?_) (fun hc => ?_) <;> (first | replace hc := of_decide_eq_true hc | replace hc := of_decide_eq_false hc | replace hc := dec_nT hc | replace hc := dec_nF hc | skip) <;> (try (exfalso; omega))) | (refine lw_gs_f rfl rfl rfl (fun hc => ?_) (fun hc => ?_) <;> (first | replace hc := of_decide_eq_true hc | replace hc := of_decide_eq_false hc | replace hc := dec_nT hc | replace hc := dec_nF hc | skip) <;> (try (exfalso; omega)))) | ((refine is_bin ?_; first | (refine lw_pure rfl (pv_eql rfl rfl) ?_) | (refine lw_pure rfl (pv_leq rfl rfl) ?_) | (refine lw_pure rfl (pv_geq rfl rfl) ?_) | (refine lw_pure rfl (pv_seqlD rfl rfl) ?_))) | ((refine is_bi ?_; first | (refine lw_pure rfl (pv_lenl (tS rfl) rfl) ?_) | (refine lw_pure rfl (pv_lens (tStr rfl) rfl) ?_))) | (refine lw_pure rfl (pv_pick_t rfl rfl rfl) ?_) | (refine lw_pure rfl (pv_pick_f rfl rfl rfl) ?_) | (refine lw_pure rfl (pv_pick_t rfl (by first | assumption | exact decide_eq_true (by omega) | exact dec_notT (by omega)) rfl) ?_) | (refine lw_pure rfl (pv_pick_f rfl (by first | assumption | exact decide_eq_false (by omega) | exact dec_notF (by omega)) rfl) ?_) | (refine lw_pure rfl (pv_pick rfl rfl rfl) ?_) | (refine is_cw ?_; refine cw_split rfl (fun hc => ?_) (fun hc => ?_) <;> (first | replace hc := of_decide_eq_true hc | replace hc := of_decide_eq_false hc | replace hc := dec_nT hc | replace hc := dec_nF hc | skip) <;> (try (exfalso; omega))))
      exact qw_ret1 rfl rfl ⟨rfl, (hE.mono hw).b⟩

theorem name_is {s : ByteArray} {b : Bool} (hs : s.size ≤ 9223372036854775807) (hb : nameF s = b) (w : World) : Calls Tryd.prog 18 #[.string s] w fun e w' => e = .returned (.bool b) ∧ Below w.heap.size w w' := by
  rw [← hb]; exact name_c hs w
theorem DskOk.put0 {d : Dsk} (h : DskOk d) {n : ByteArray} (hq : nameF n = true) (hg : getF d.fs n = none) (hl : ¬ 64 ≤ d.fs.length) : DskOk { d with fs := putF d.fs ⟨n, emptyB, emptyB⟩ } := by
  refine h.put (f := ⟨n, emptyB, emptyB⟩) hq (by show 0 + 0 ≤ _; omega) (fun _ => by omega) ?_
  have := h.used
  show (usedF d.fs + ((0 + 0 : Nat) : Int)) ≤ _
  simp only [hg]; simpa using this
theorem getF_sz {d : Dsk} (h : DskOk d) {n : ByteArray} {f : Fil} (hg : getF d.fs n = some f) : f.firm.size + f.pend.size ≤ 1048576 ∧ n.size ≤ 24 := by
  obtain ⟨h1, h2⟩ := getF_some hg
  refine ⟨h.sizes f h1, ?_⟩
  have := h.names f h1
  unfold nameF at this
  rw [h2] at this
  simp only [Bool.and_eq_true, decide_eq_true_eq] at this
  omega
set_option maxRecDepth 20000 in
theorem create_c {w : World} {N B : Nat} {d : Dsk} (h : DkW w N B d) {n : ByteArray} (hn : n.size ≤ 9223372036854775807) : Calls Tryd.prog 35 #[.pointer (some ⟨N, 0, none⟩), .string n] w fun e w' => e = .returned (.int .i64 (createD d n).1) ∧ DkW w' N B (createD d n).2 ∧ Gw N B w w' := by
  have hlt := h.lt
  have hw := Below.refl w.heap.size w
  refine fn_enter 38 Tryd.func35 rfl rfl rfl ?_
  repeat' (first | (refine lw_pure rfl (pv_move rfl) ?_) | (refine lw_pure rfl (pv_assign rfl) ?_) | (refine is_cw ?_; first | (refine cw_seq ?_) | (refine cw_region ?_) | (refine cw_true rfl rfl ?_) | (refine cw_false rfl rfl ?_) | (refine cw_true rfl (by first | assumption | exact decide_eq_true (by omega) | exact dec_notT (by omega)) ?_) | (refine cw_false rfl (by first | assumption | exact decide_eq_false (by omega) | exact dec_notF (by omega)) ?_) | (refine cw_skip ?_) | (refine cw_block ?_) | (refine cw_ret ?_)) | (refine is_qw ?_; first | (with_reducible refine qw_then ?_) | (with_reducible refine qw_in ?_) | (with_reducible refine qw_in_hit ?_) | (refine qw_in_miss rfl ?_) | (with_reducible refine qw_then_exit ?_) | (with_reducible refine qw_then_ret ?_) | (with_reducible refine qw_in_ret ?_)) | (refine lw_nil ?_) | ((refine is_bin ?_; first | (refine lw_pure rfl (pv_neq rfl rfl) ?_) | (refine lw_pure rfl (pv_geq rfl rfl) ?_))) | ((refine is_load ?_; first | (refine lw_pure rfl (pv_load (t1 rfl) rfl (by first | fail)) ?_) | (refine lw_pure rfl (pv_loada (tA rfl) rfl (by first | fail) (by rfl)) ?_))) | ((refine is_fa ?_; first | (refine lw_pure rfl (pv_fa (tF rfl) rfl) ?_))) | ((refine is_un ?_; first | (refine lw_pure rfl (pv_not rfl) ?_))) | ((refine is_bi ?_; first | (refine lw_pure rfl (pv_lenl (tS rfl) rfl) ?_) | (refine lw_pure rfl (pv_lens (tStr rfl) rfl) ?_))) | (refine lw_pure rfl (pv_extract rfl rfl) ?_) | (refine lw_pure rfl (pv_makeFunc rfl rfl) ?_) | (refine lw_pure rfl (pv_nilp rfl) ?_) | (refine lw_pure0 (pv_nilp rfl) ?_))
  refine lw_boxN rfl rfl (cs := [.pointer (some ⟨N, 0, none⟩)]) rfl ?_; intro N2 w2 hN2 H2 hb; replace hw := grow_trans hw hb; clear hb
  refine lw_boxN rfl rfl (cs := [.string n]) rfl ?_; intro N3 w3 hN3 H3 hb; replace H2 := H2.mono hb; replace hN3 := Nat.le_trans hw.size hN3; replace hw := grow_trans hw hb; clear hb
  have hw0 := hw
  replace h := h.mono hw; clear hw; have hw := Below.refl w3.heap.size w3
  repeat' (first | (refine lw_pure rfl (pv_move rfl) ?_) | (refine lw_pure rfl (pv_assign rfl) ?_) | (refine is_cw ?_; first | (refine cw_seq ?_) | (refine cw_region ?_) | (refine cw_true rfl rfl ?_) | (refine cw_false rfl rfl ?_) | (refine cw_true rfl (by first | assumption | exact decide_eq_true (by omega) | exact dec_notT (by omega)) ?_) | (refine cw_false rfl (by first | assumption | exact decide_eq_false (by omega) | exact dec_notF (by omega)) ?_) | (refine cw_skip ?_) | (refine cw_block ?_) | (refine cw_ret ?_)) | (refine is_qw ?_; first | (with_reducible refine qw_then ?_) | (with_reducible refine qw_in ?_) | (with_reducible refine qw_in_hit ?_) | (refine qw_in_miss rfl ?_) | (with_reducible refine qw_then_exit ?_) | (with_reducible refine qw_then_ret ?_) | (with_reducible refine qw_in_ret ?_)) | (refine lw_nil ?_) | ((refine is_bin ?_; first | (refine lw_pure rfl (pv_neq rfl rfl) ?_) | (refine lw_pure rfl (pv_geq rfl rfl) ?_))) | ((refine is_load ?_; first | (refine lw_pure rfl (pv_load (t1 rfl) rfl (by first | exact PT.ld0 (H2.mono hw) rfl | exact PT.ld (H2.mono hw) rfl | exact PT.ld0 (H3.mono hw) rfl | exact PT.ld (H3.mono hw) rfl)) ?_) | (refine lw_pure rfl (pv_loada (tA rfl) rfl (by first | exact PT.lda (H2.mono hw) | exact PT.lda (H3.mono hw)) (by rfl)) ?_))) | ((refine is_fa ?_; first | (refine lw_pure rfl (pv_fa (tF rfl) rfl) ?_))) | ((refine is_un ?_; first | (refine lw_pure rfl (pv_not rfl) ?_))) | ((refine is_bi ?_; first | (refine lw_pure rfl (pv_lenl (tS rfl) rfl) ?_) | (refine lw_pure rfl (pv_lens (tStr rfl) rfl) ?_))) | (refine lw_pure rfl (pv_extract rfl rfl) ?_) | (refine lw_pure rfl (pv_makeFunc rfl rfl) ?_) | (refine lw_pure rfl (pv_nilp rfl) ?_) | (refine lw_pure0 (pv_nilp rfl) ?_))
  cases hk : d.dark with
  | true =>
    rw [show createD d n = (45, d) from by unfold createD; rw [if_pos hk]]
    repeat' (first | (refine lw_pure rfl (pv_move rfl) ?_) | (refine lw_pure rfl (pv_assign rfl) ?_) | (refine lw_call (f := 44) (by kernel_rfl) rfl rfl (down1_c (h.mono hw) hk) ?_; rintro e w1 ⟨rfl, hb⟩; refine ⟨_, rfl, ?_⟩; replace hw := grow_trans hw hb; clear hb) | (refine is_cw ?_; first | (refine cw_seq ?_) | (refine cw_region ?_) | (refine cw_true rfl rfl ?_) | (refine cw_false rfl rfl ?_) | (refine cw_true rfl (by first | assumption | exact decide_eq_true (by omega) | exact dec_notT (by omega)) ?_) | (refine cw_false rfl (by first | assumption | exact decide_eq_false (by omega) | exact dec_notF (by omega)) ?_) | (refine cw_skip ?_) | (refine cw_block ?_) | (refine cw_ret ?_)) | (refine is_qw ?_; first | (with_reducible refine qw_then ?_) | (with_reducible refine qw_in ?_) | (with_reducible refine qw_in_hit ?_) | (refine qw_in_miss rfl ?_) | (with_reducible refine qw_then_exit ?_) | (with_reducible refine qw_then_ret ?_) | (with_reducible refine qw_in_ret ?_)) | (refine lw_nil ?_) | ((refine is_bin ?_; first | (refine lw_pure rfl (pv_neq rfl rfl) ?_) | (refine lw_pure rfl (pv_geq rfl rfl) ?_))) | ((refine is_load ?_; first | (refine lw_pure rfl (pv_load (t1 rfl) rfl (by first | exact PT.ld0 (H2.mono hw) rfl | exact PT.ld (H2.mono hw) rfl | exact PT.ld0 (H3.mono hw) rfl | exact PT.ld (H3.mono hw) rfl)) ?_) | (refine lw_pure rfl (pv_loada (tA rfl) rfl (by first | exact PT.lda (H2.mono hw) | exact PT.lda (H3.mono hw)) (by rfl)) ?_))) | ((refine is_fa ?_; first | (refine lw_pure rfl (pv_fa (tF rfl) rfl) ?_))) | ((refine is_un ?_; first | (refine lw_pure rfl (pv_not rfl) ?_))) | ((refine is_bi ?_; first | (refine lw_pure rfl (pv_lenl (tS rfl) rfl) ?_) | (refine lw_pure rfl (pv_lens (tStr rfl) rfl) ?_))) | (refine lw_pure rfl (pv_extract rfl rfl) ?_) | (refine lw_pure rfl (pv_makeFunc rfl rfl) ?_) | (refine lw_pure rfl (pv_nilp rfl) ?_) | (refine lw_pure0 (pv_nilp rfl) ?_))
    exact qw_ret1 rfl rfl ⟨rfl, h.mono hw, Gw.of_below (grow_trans hw0 hw)⟩
  | false =>
    have H := h.obj
    obtain ⟨m, hm, hp⟩ := h.mp
    have hs := h.ok.srt
    have hml := perm_len hp
    cases hg : getF d.fs n with
    | some f =>
      have hpg : getM m n = some (f.firm, f.pend) := by rw [perm_get (φ := fun f => (f.firm, f.pend)) hp hs, hg]; rfl
      repeat' (first | (refine lw_pure rfl (pv_move rfl) ?_) | (refine lw_pure rfl (pv_assign rfl) ?_) | (refine lw_call (f := 44) (by kernel_rfl) rfl rfl (down0_c (h.mono hw) hk) ?_; rintro e w1 ⟨rfl, hb⟩; refine ⟨_, rfl, ?_⟩; replace hw := grow_trans hw hb; clear hb) | (refine is_cw ?_; first | (refine cw_seq ?_) | (refine cw_region ?_) | (refine cw_true rfl rfl ?_) | (refine cw_false rfl rfl ?_) | (refine cw_true rfl (by first | assumption | exact decide_eq_true (by omega) | exact dec_notT (by omega)) ?_) | (refine cw_false rfl (by first | assumption | exact decide_eq_false (by omega) | exact dec_notF (by omega)) ?_) | (refine cw_skip ?_) | (refine cw_block ?_) | (refine cw_ret ?_)) | (refine is_qw ?_; first | (with_reducible refine qw_then ?_) | (with_reducible refine qw_in ?_) | (with_reducible refine qw_in_hit ?_) | (refine qw_in_miss rfl ?_) | (with_reducible refine qw_then_exit ?_) | (with_reducible refine qw_then_ret ?_) | (with_reducible refine qw_in_ret ?_)) | (refine lw_nil ?_) | ((refine is_bin ?_; first | (refine lw_pure rfl (pv_neq rfl rfl) ?_) | (refine lw_pure rfl (pv_geq rfl rfl) ?_))) | ((refine is_load ?_; first | (refine lw_pure rfl (pv_load (t1 rfl) rfl (by first | exact PT.ld0 (H2.mono hw) rfl | exact PT.ld (H2.mono hw) rfl | exact PT.ld0 (H3.mono hw) rfl | exact PT.ld (H3.mono hw) rfl)) ?_) | (refine lw_pure rfl (pv_loada (tA rfl) rfl (by first | exact PT.lda (H2.mono hw) | exact PT.lda (H3.mono hw)) (by rfl)) ?_))) | ((refine is_fa ?_; first | (refine lw_pure rfl (pv_fa (tF rfl) rfl) ?_))) | ((refine is_un ?_; first | (refine lw_pure rfl (pv_not rfl) ?_))) | ((refine is_bi ?_; first | (refine lw_pure rfl (pv_lenl (tS rfl) rfl) ?_) | (refine lw_pure rfl (pv_lens (tStr rfl) rfl) ?_))) | (refine lw_pure rfl (pv_extract rfl rfl) ?_) | (refine lw_pure rfl (pv_makeFunc rfl rfl) ?_) | (refine lw_pure rfl (pv_nilp rfl) ?_) | (refine lw_pure0 (pv_nilp rfl) ?_))
      refine cw_drawn (fun w' => Below w3.heap.size w3 w') (by kernel_rfl) (by repeat (first | exact NoPanic.body | with_reducible refine NoPanic.then ?_ | with_reducible refine NoPanic.inBlock ?_)) (fun hNP => ?_)
      have hS := hw.drew
      first | (refine at0 0 rfl (fun w' hq => pv_load (t1 rfl) rfl (by first | exact PT.ld0 (H2.mono hq) rfl | exact PT.ld (H2.mono hq) rfl | exact PT.ld0 (H3.mono hq) rfl | exact PT.ld (H3.mono hq) rfl | exact PT.ld0 (H.mono hq) rfl | exact PT.ld (H.mono hq) rfl)) ?_) | (refine at0 0 rfl (fun w' hq => pv_loada (tA rfl) rfl (by first | exact PT.lda (H2.mono hq) | exact PT.lda (H3.mono hq) | exact PT.lda (H.mono hq)) (by rfl)) ?_)
      (refine at0 1 rfl (fun w' hq => pv_nilp rfl) ?_)
      (refine at0 2 rfl (fun w' hq => pv_fa (tF rfl) rfl) ?_)
      first | (refine at0 3 rfl (fun w' hq => pv_load (t1 rfl) rfl (by first | exact PT.ld0 (H2.mono hq) rfl | exact PT.ld (H2.mono hq) rfl | exact PT.ld0 (H3.mono hq) rfl | exact PT.ld (H3.mono hq) rfl | exact PT.ld0 (H.mono hq) rfl | exact PT.ld (H.mono hq) rfl)) ?_) | (refine at0 3 rfl (fun w' hq => pv_loada (tA rfl) rfl (by first | exact PT.lda (H2.mono hq) | exact PT.lda (H3.mono hq) | exact PT.lda (H.mono hq)) (by rfl)) ?_)
      first | (refine at0 4 rfl (fun w' hq => pv_load (t1 rfl) rfl (by first | exact PT.ld0 (H2.mono hq) rfl | exact PT.ld (H2.mono hq) rfl | exact PT.ld0 (H3.mono hq) rfl | exact PT.ld (H3.mono hq) rfl | exact PT.ld0 (H.mono hq) rfl | exact PT.ld (H.mono hq) rfl)) ?_) | (refine at0 4 rfl (fun w' hq => pv_loada (tA rfl) rfl (by first | exact PT.lda (H2.mono hq) | exact PT.lda (H3.mono hq) | exact PT.lda (H.mono hq)) (by rfl)) ?_)
      (refine at0 5 rfl (fun w' hq => pv_look1 Tryd.underlying79 keyS zF hn hpg rfl rfl (hm.mono hq)) ?_)
      (refine at0 6 rfl (fun w' hq => pv_move rfl) ?_)
      (refine at0 7 rfl (fun w' hq => pv_extract rfl rfl) ?_)
      (refine at0 8 rfl (fun w' hq => pv_extract rfl rfl) ?_)
      refine aw_act 9 (by kernel_rfl) rfl rfl rfl ?_
      refine act_alloc (by first | exact tyv_28 | exact tyv_29 | exact tyv_34 | exact tyv_35 | exact tyv_43 | exact tyv_44 | exact tyv_77 | exact tyv_78 | exact tyv_80 | exact tyv_81 | exact tyv_86 | exact tyv_87 | exact tyv_126 | exact tyv_127) rfl ?_; intro N6 wb hN6 H6 hb; replace hN6 := Nat.le_trans hS.size hN6; refine ⟨grow_trans hS hb, fun hS => ?_⟩
      refine aw_act 10 (by kernel_rfl) rfl rfl rfl ?_
      refine act_storea (vs := [.string f.firm, .string f.pend]) H6 (tZ rfl) rfl rfl rfl rfl (by intro v hv; simp at hv; rcases hv with rfl | rfl <;> rfl) ?_; intro wc H7 hg7 hz7; refine ⟨st_hw hS hg7 hN6, fun hS => ?_⟩
      (refine at0 11 rfl (fun w' hq => pv_assign rfl) ?_)
      refine aw_done (by kernel_rfl) ?_
      replace hw := hS; clear hS hNP
      cases hq : nameF n with
      | false =>
        rw [show createD d n = (4, d) from by unfold createD; rw [hk, if_neg (by simp), if_pos hq]]
        repeat' (first | (refine lw_pure rfl (pv_move rfl) ?_) | (refine lw_pure rfl (pv_assign rfl) ?_) | (refine lw_call (f := 18) (by kernel_rfl) rfl rfl (name_is hn hq _) ?_; rintro e w1 ⟨rfl, hb⟩; refine ⟨_, rfl, ?_⟩; replace hw := grow_trans hw hb; clear hb) | (refine is_cw ?_; first | (refine cw_seq ?_) | (refine cw_region ?_) | (refine cw_true rfl rfl ?_) | (refine cw_false rfl rfl ?_) | (refine cw_true rfl (by first | assumption | exact decide_eq_true (by omega) | exact dec_notT (by omega)) ?_) | (refine cw_false rfl (by first | assumption | exact decide_eq_false (by omega) | exact dec_notF (by omega)) ?_) | (refine cw_skip ?_) | (refine cw_block ?_) | (refine cw_ret ?_)) | (refine is_qw ?_; first | (with_reducible refine qw_then ?_) | (with_reducible refine qw_in ?_) | (with_reducible refine qw_in_hit ?_) | (refine qw_in_miss rfl ?_) | (with_reducible refine qw_then_exit ?_) | (with_reducible refine qw_then_ret ?_) | (with_reducible refine qw_in_ret ?_)) | (refine lw_nil ?_) | ((refine is_bin ?_; first | (refine lw_pure rfl (pv_neq rfl rfl) ?_) | (refine lw_pure rfl (pv_geq rfl rfl) ?_))) | ((refine is_load ?_; first | (refine lw_pure rfl (pv_load (t1 rfl) rfl (by first | exact PT.ld0 (H2.mono hw) rfl | exact PT.ld (H2.mono hw) rfl | exact PT.ld0 (H3.mono hw) rfl | exact PT.ld (H3.mono hw) rfl)) ?_) | (refine lw_pure rfl (pv_loada (tA rfl) rfl (by first | exact PT.lda (H2.mono hw) | exact PT.lda (H3.mono hw)) (by rfl)) ?_))) | ((refine is_fa ?_; first | (refine lw_pure rfl (pv_fa (tF rfl) rfl) ?_))) | ((refine is_un ?_; first | (refine lw_pure rfl (pv_not rfl) ?_))) | ((refine is_bi ?_; first | (refine lw_pure rfl (pv_lenl (tS rfl) rfl) ?_) | (refine lw_pure rfl (pv_lens (tStr rfl) rfl) ?_))) | (refine lw_pure rfl (pv_extract rfl rfl) ?_) | (refine lw_pure rfl (pv_makeFunc rfl rfl) ?_) | (refine lw_pure rfl (pv_nilp rfl) ?_) | (refine lw_pure0 (pv_nilp rfl) ?_))
        exact qw_ret1 rfl rfl ⟨rfl, h.mono hw, Gw.of_below (grow_trans hw0 hw)⟩
      | true =>
        rw [show createD d n = (6, d) from by unfold createD; rw [hk, if_neg (by simp), hq, if_neg (by simp), hg]; rfl]
        repeat' (first | (refine lw_pure rfl (pv_move rfl) ?_) | (refine lw_pure rfl (pv_assign rfl) ?_) | (refine lw_call (f := 18) (by kernel_rfl) rfl rfl (name_is hn hq _) ?_; rintro e w1 ⟨rfl, hb⟩; refine ⟨_, rfl, ?_⟩; replace hw := grow_trans hw hb; clear hb) | (refine is_cw ?_; first | (refine cw_seq ?_) | (refine cw_region ?_) | (refine cw_true rfl rfl ?_) | (refine cw_false rfl rfl ?_) | (refine cw_true rfl (by first | assumption | exact decide_eq_true (by omega) | exact dec_notT (by omega)) ?_) | (refine cw_false rfl (by first | assumption | exact decide_eq_false (by omega) | exact dec_notF (by omega)) ?_) | (refine cw_skip ?_) | (refine cw_block ?_) | (refine cw_ret ?_)) | (refine is_qw ?_; first | (with_reducible refine qw_then ?_) | (with_reducible refine qw_in ?_) | (with_reducible refine qw_in_hit ?_) | (refine qw_in_miss rfl ?_) | (with_reducible refine qw_then_exit ?_) | (with_reducible refine qw_then_ret ?_) | (with_reducible refine qw_in_ret ?_)) | (refine lw_nil ?_) | ((refine is_bin ?_; first | (refine lw_pure rfl (pv_neq rfl rfl) ?_) | (refine lw_pure rfl (pv_geq rfl rfl) ?_))) | ((refine is_load ?_; first | (refine lw_pure rfl (pv_load (t1 rfl) rfl (by first | exact PT.ld0 (H2.mono hw) rfl | exact PT.ld (H2.mono hw) rfl | exact PT.ld0 (H3.mono hw) rfl | exact PT.ld (H3.mono hw) rfl)) ?_) | (refine lw_pure rfl (pv_loada (tA rfl) rfl (by first | exact PT.lda (H2.mono hw) | exact PT.lda (H3.mono hw)) (by rfl)) ?_))) | ((refine is_fa ?_; first | (refine lw_pure rfl (pv_fa (tF rfl) rfl) ?_))) | ((refine is_un ?_; first | (refine lw_pure rfl (pv_not rfl) ?_))) | ((refine is_bi ?_; first | (refine lw_pure rfl (pv_lenl (tS rfl) rfl) ?_) | (refine lw_pure rfl (pv_lens (tStr rfl) rfl) ?_))) | (refine lw_pure rfl (pv_extract rfl rfl) ?_) | (refine lw_pure rfl (pv_makeFunc rfl rfl) ?_) | (refine lw_pure rfl (pv_nilp rfl) ?_) | (refine lw_pure0 (pv_nilp rfl) ?_))
        exact qw_ret1 rfl rfl ⟨rfl, h.mono hw, Gw.of_below (grow_trans hw0 hw)⟩
    | none =>
      have hpg : getM m n = none := by rw [perm_get (φ := fun f => (f.firm, f.pend)) hp hs, hg]; rfl
      repeat' (first | (refine lw_pure rfl (pv_move rfl) ?_) | (refine lw_pure rfl (pv_assign rfl) ?_) | (refine lw_call (f := 44) (by kernel_rfl) rfl rfl (down0_c (h.mono hw) hk) ?_; rintro e w1 ⟨rfl, hb⟩; refine ⟨_, rfl, ?_⟩; replace hw := grow_trans hw hb; clear hb) | (refine is_cw ?_; first | (refine cw_seq ?_) | (refine cw_region ?_) | (refine cw_true rfl rfl ?_) | (refine cw_false rfl rfl ?_) | (refine cw_true rfl (by first | assumption | exact decide_eq_true (by omega) | exact dec_notT (by omega)) ?_) | (refine cw_false rfl (by first | assumption | exact decide_eq_false (by omega) | exact dec_notF (by omega)) ?_) | (refine cw_skip ?_) | (refine cw_block ?_) | (refine cw_ret ?_)) | (refine is_qw ?_; first | (with_reducible refine qw_then ?_) | (with_reducible refine qw_in ?_) | (with_reducible refine qw_in_hit ?_) | (refine qw_in_miss rfl ?_) | (with_reducible refine qw_then_exit ?_) | (with_reducible refine qw_then_ret ?_) | (with_reducible refine qw_in_ret ?_)) | (refine lw_nil ?_) | ((refine is_bin ?_; first | (refine lw_pure rfl (pv_neq rfl rfl) ?_) | (refine lw_pure rfl (pv_geq rfl rfl) ?_))) | ((refine is_load ?_; first | (refine lw_pure rfl (pv_load (t1 rfl) rfl (by first | exact PT.ld0 (H2.mono hw) rfl | exact PT.ld (H2.mono hw) rfl | exact PT.ld0 (H3.mono hw) rfl | exact PT.ld (H3.mono hw) rfl)) ?_) | (refine lw_pure rfl (pv_loada (tA rfl) rfl (by first | exact PT.lda (H2.mono hw) | exact PT.lda (H3.mono hw)) (by rfl)) ?_))) | ((refine is_fa ?_; first | (refine lw_pure rfl (pv_fa (tF rfl) rfl) ?_))) | ((refine is_un ?_; first | (refine lw_pure rfl (pv_not rfl) ?_))) | ((refine is_bi ?_; first | (refine lw_pure rfl (pv_lenl (tS rfl) rfl) ?_) | (refine lw_pure rfl (pv_lens (tStr rfl) rfl) ?_))) | (refine lw_pure rfl (pv_extract rfl rfl) ?_) | (refine lw_pure rfl (pv_makeFunc rfl rfl) ?_) | (refine lw_pure rfl (pv_nilp rfl) ?_) | (refine lw_pure0 (pv_nilp rfl) ?_))
      refine cw_drawn (fun w' => Below w3.heap.size w3 w') (by kernel_rfl) (by repeat (first | exact NoPanic.body | with_reducible refine NoPanic.then ?_ | with_reducible refine NoPanic.inBlock ?_)) (fun hNP => ?_)
      have hS := hw.drew
      first | (refine at0 0 rfl (fun w' hq => pv_load (t1 rfl) rfl (by first | exact PT.ld0 (H2.mono hq) rfl | exact PT.ld (H2.mono hq) rfl | exact PT.ld0 (H3.mono hq) rfl | exact PT.ld (H3.mono hq) rfl | exact PT.ld0 (H.mono hq) rfl | exact PT.ld (H.mono hq) rfl)) ?_) | (refine at0 0 rfl (fun w' hq => pv_loada (tA rfl) rfl (by first | exact PT.lda (H2.mono hq) | exact PT.lda (H3.mono hq) | exact PT.lda (H.mono hq)) (by rfl)) ?_)
      (refine at0 1 rfl (fun w' hq => pv_nilp rfl) ?_)
      (refine at0 2 rfl (fun w' hq => pv_fa (tF rfl) rfl) ?_)
      first | (refine at0 3 rfl (fun w' hq => pv_load (t1 rfl) rfl (by first | exact PT.ld0 (H2.mono hq) rfl | exact PT.ld (H2.mono hq) rfl | exact PT.ld0 (H3.mono hq) rfl | exact PT.ld (H3.mono hq) rfl | exact PT.ld0 (H.mono hq) rfl | exact PT.ld (H.mono hq) rfl)) ?_) | (refine at0 3 rfl (fun w' hq => pv_loada (tA rfl) rfl (by first | exact PT.lda (H2.mono hq) | exact PT.lda (H3.mono hq) | exact PT.lda (H.mono hq)) (by rfl)) ?_)
      first | (refine at0 4 rfl (fun w' hq => pv_load (t1 rfl) rfl (by first | exact PT.ld0 (H2.mono hq) rfl | exact PT.ld (H2.mono hq) rfl | exact PT.ld0 (H3.mono hq) rfl | exact PT.ld (H3.mono hq) rfl | exact PT.ld0 (H.mono hq) rfl | exact PT.ld (H.mono hq) rfl)) ?_) | (refine at0 4 rfl (fun w' hq => pv_loada (tA rfl) rfl (by first | exact PT.lda (H2.mono hq) | exact PT.lda (H3.mono hq) | exact PT.lda (H.mono hq)) (by rfl)) ?_)
      (refine at0 5 rfl (fun w' hq => pv_look0 Tryd.underlying79 keyS zF hn hpg rfl rfl (hm.mono hq)) ?_)
      (refine at0 6 rfl (fun w' hq => pv_move rfl) ?_)
      (refine at0 7 rfl (fun w' hq => pv_extract rfl rfl) ?_)
      (refine at0 8 rfl (fun w' hq => pv_extract rfl rfl) ?_)
      refine aw_act 9 (by kernel_rfl) rfl rfl rfl ?_
      refine act_alloc (by first | exact tyv_28 | exact tyv_29 | exact tyv_34 | exact tyv_35 | exact tyv_43 | exact tyv_44 | exact tyv_77 | exact tyv_78 | exact tyv_80 | exact tyv_81 | exact tyv_86 | exact tyv_87 | exact tyv_126 | exact tyv_127) rfl ?_; intro N6 wb hN6 H6 hb; replace hN6 := Nat.le_trans hS.size hN6; refine ⟨grow_trans hS hb, fun hS => ?_⟩
      refine aw_act 10 (by kernel_rfl) rfl rfl rfl ?_
      refine act_storea (vs := [.string emptyB, .string emptyB]) H6 (tZ rfl) rfl rfl rfl rfl (by intro v hv; simp at hv; rcases hv with rfl | rfl <;> rfl) ?_; intro wc H7 hg7 hz7; refine ⟨st_hw hS hg7 hN6, fun hS => ?_⟩
      (refine at0 11 rfl (fun w' hq => pv_assign rfl) ?_)
      refine aw_done (by kernel_rfl) ?_
      replace hw := hS; clear hS hNP
      cases hq : nameF n with
      | false =>
        rw [show createD d n = (4, d) from by unfold createD; rw [hk, if_neg (by simp), if_pos hq]]
        repeat' (first | (refine lw_pure rfl (pv_move rfl) ?_) | (refine lw_pure rfl (pv_assign rfl) ?_) | (refine lw_call (f := 18) (by kernel_rfl) rfl rfl (name_is hn hq _) ?_; rintro e w1 ⟨rfl, hb⟩; refine ⟨_, rfl, ?_⟩; replace hw := grow_trans hw hb; clear hb) | (refine is_cw ?_; first | (refine cw_seq ?_) | (refine cw_region ?_) | (refine cw_true rfl rfl ?_) | (refine cw_false rfl rfl ?_) | (refine cw_true rfl (by first | assumption | exact decide_eq_true (by omega) | exact dec_notT (by omega)) ?_) | (refine cw_false rfl (by first | assumption | exact decide_eq_false (by omega) | exact dec_notF (by omega)) ?_) | (refine cw_skip ?_) | (refine cw_block ?_) | (refine cw_ret ?_)) | (refine is_qw ?_; first | (with_reducible refine qw_then ?_) | (with_reducible refine qw_in ?_) | (with_reducible refine qw_in_hit ?_) | (refine qw_in_miss rfl ?_) | (with_reducible refine qw_then_exit ?_) | (with_reducible refine qw_then_ret ?_) | (with_reducible refine qw_in_ret ?_)) | (refine lw_nil ?_) | ((refine is_bin ?_; first | (refine lw_pure rfl (pv_neq rfl rfl) ?_) | (refine lw_pure rfl (pv_geq rfl rfl) ?_))) | ((refine is_load ?_; first | (refine lw_pure rfl (pv_load (t1 rfl) rfl (by first | exact PT.ld0 (H2.mono hw) rfl | exact PT.ld (H2.mono hw) rfl | exact PT.ld0 (H3.mono hw) rfl | exact PT.ld (H3.mono hw) rfl)) ?_) | (refine lw_pure rfl (pv_loada (tA rfl) rfl (by first | exact PT.lda (H2.mono hw) | exact PT.lda (H3.mono hw)) (by rfl)) ?_))) | ((refine is_fa ?_; first | (refine lw_pure rfl (pv_fa (tF rfl) rfl) ?_))) | ((refine is_un ?_; first | (refine lw_pure rfl (pv_not rfl) ?_))) | ((refine is_bi ?_; first | (refine lw_pure rfl (pv_lenl (tS rfl) rfl) ?_) | (refine lw_pure rfl (pv_lens (tStr rfl) rfl) ?_))) | (refine lw_pure rfl (pv_extract rfl rfl) ?_) | (refine lw_pure rfl (pv_makeFunc rfl rfl) ?_) | (refine lw_pure rfl (pv_nilp rfl) ?_) | (refine lw_pure0 (pv_nilp rfl) ?_))
        exact qw_ret1 rfl rfl ⟨rfl, h.mono hw, Gw.of_below (grow_trans hw0 hw)⟩
      | true =>
        by_cases hl : 64 ≤ d.fs.length
        · rw [show createD d n = (44, d) from by unfold createD; rw [hk, if_neg (by simp), hq, if_neg (by simp), hg, if_neg (by simp), if_pos hl]]
          repeat' (first | (refine lw_pure rfl (pv_move rfl) ?_) | (refine lw_pure rfl (pv_assign rfl) ?_) | (refine lw_call (f := 18) (by kernel_rfl) rfl rfl (name_is hn hq _) ?_; rintro e w1 ⟨rfl, hb⟩; refine ⟨_, rfl, ?_⟩; replace hw := grow_trans hw hb; clear hb) | (refine lw_pure rfl (pv_lenB rfl Tryd.underlying79 rfl (hm.mono hw)) ?_) | (refine is_cw ?_; first | (refine cw_seq ?_) | (refine cw_region ?_) | (refine cw_true rfl rfl ?_) | (refine cw_false rfl rfl ?_) | (refine cw_true rfl (by first | assumption | exact decide_eq_true (by omega) | exact dec_notT (by omega)) ?_) | (refine cw_false rfl (by first | assumption | exact decide_eq_false (by omega) | exact dec_notF (by omega)) ?_) | (refine cw_skip ?_) | (refine cw_block ?_) | (refine cw_ret ?_)) | (refine is_qw ?_; first | (with_reducible refine qw_then ?_) | (with_reducible refine qw_in ?_) | (with_reducible refine qw_in_hit ?_) | (refine qw_in_miss rfl ?_) | (with_reducible refine qw_then_exit ?_) | (with_reducible refine qw_then_ret ?_) | (with_reducible refine qw_in_ret ?_)) | (refine lw_nil ?_) | ((refine is_bin ?_; first | (refine lw_pure rfl (pv_neq rfl rfl) ?_) | (refine lw_pure rfl (pv_geq rfl rfl) ?_))) | ((refine is_load ?_; first | (refine lw_pure rfl (pv_load (t1 rfl) rfl (by first | exact PT.ld0 (H2.mono hw) rfl | exact PT.ld (H2.mono hw) rfl | exact PT.ld0 (H3.mono hw) rfl | exact PT.ld (H3.mono hw) rfl | exact PT.ld0 (H.mono hw) rfl | exact PT.ld (H.mono hw) rfl)) ?_) | (refine lw_pure rfl (pv_loada (tA rfl) rfl (by first | exact PT.lda (H2.mono hw) | exact PT.lda (H3.mono hw) | exact PT.lda (H.mono hw)) (by rfl)) ?_))) | ((refine is_fa ?_; first | (refine lw_pure rfl (pv_fa (tF rfl) rfl) ?_))) | ((refine is_un ?_; first | (refine lw_pure rfl (pv_not rfl) ?_))) | ((refine is_bi ?_; first | (refine lw_pure rfl (pv_lenl (tS rfl) rfl) ?_) | (refine lw_pure rfl (pv_lens (tStr rfl) rfl) ?_))) | (refine lw_pure rfl (pv_extract rfl rfl) ?_) | (refine lw_pure rfl (pv_makeFunc rfl rfl) ?_) | (refine lw_pure rfl (pv_nilp rfl) ?_) | (refine lw_pure0 (pv_nilp rfl) ?_))
          exact qw_ret1 rfl rfl ⟨rfl, h.mono hw, Gw.of_below (grow_trans hw0 hw)⟩
        · rw [show createD d n = doD d (putF d.fs ⟨n, emptyB, emptyB⟩) from by unfold createD; rw [hk, if_neg (by simp), hq, if_neg (by simp), hg, if_neg (by simp), if_neg hl]]
          repeat' (first | (refine lw_pure rfl (pv_move rfl) ?_) | (refine lw_pure rfl (pv_assign rfl) ?_) | (refine lw_call (f := 18) (by kernel_rfl) rfl rfl (name_is hn hq _) ?_; rintro e w1 ⟨rfl, hb⟩; refine ⟨_, rfl, ?_⟩; replace hw := grow_trans hw hb; clear hb) | (refine lw_pure rfl (pv_lenB rfl Tryd.underlying79 rfl (hm.mono hw)) ?_) | (refine is_cw ?_; first | (refine cw_seq ?_) | (refine cw_region ?_) | (refine cw_true rfl rfl ?_) | (refine cw_false rfl rfl ?_) | (refine cw_true rfl (by first | assumption | exact decide_eq_true (by omega) | exact dec_notT (by omega)) ?_) | (refine cw_false rfl (by first | assumption | exact decide_eq_false (by omega) | exact dec_notF (by omega)) ?_) | (refine cw_skip ?_) | (refine cw_block ?_) | (refine cw_ret ?_)) | (refine is_qw ?_; first | (with_reducible refine qw_then ?_) | (with_reducible refine qw_in ?_) | (with_reducible refine qw_in_hit ?_) | (refine qw_in_miss rfl ?_) | (with_reducible refine qw_then_exit ?_) | (with_reducible refine qw_then_ret ?_) | (with_reducible refine qw_in_ret ?_)) | (refine lw_nil ?_) | ((refine is_bin ?_; first | (refine lw_pure rfl (pv_neq rfl rfl) ?_) | (refine lw_pure rfl (pv_geq rfl rfl) ?_))) | ((refine is_load ?_; first | (refine lw_pure rfl (pv_load (t1 rfl) rfl (by first | exact PT.ld0 (H2.mono hw) rfl | exact PT.ld (H2.mono hw) rfl | exact PT.ld0 (H3.mono hw) rfl | exact PT.ld (H3.mono hw) rfl | exact PT.ld0 (H.mono hw) rfl | exact PT.ld (H.mono hw) rfl)) ?_) | (refine lw_pure rfl (pv_loada (tA rfl) rfl (by first | exact PT.lda (H2.mono hw) | exact PT.lda (H3.mono hw) | exact PT.lda (H.mono hw)) (by rfl)) ?_))) | ((refine is_fa ?_; first | (refine lw_pure rfl (pv_fa (tF rfl) rfl) ?_))) | ((refine is_un ?_; first | (refine lw_pure rfl (pv_not rfl) ?_))) | ((refine is_bi ?_; first | (refine lw_pure rfl (pv_lenl (tS rfl) rfl) ?_) | (refine lw_pure rfl (pv_lens (tStr rfl) rfl) ?_))) | (refine lw_pure rfl (pv_extract rfl rfl) ?_) | (refine lw_pure rfl (pv_makeFunc rfl rfl) ?_) | (refine lw_pure rfl (pv_nilp rfl) ?_) | (refine lw_pure0 (pv_nilp rfl) ?_))
          have hwa := grow_trans hw0 hw
          refine lw_call (f := 50) (by kernel_rfl) rfl rfl (do_c (g := 52) (caps := #[.pointer (some ⟨N2, 0, none⟩), .pointer (some ⟨N3, 0, none⟩)]) (fs := putF d.fs ⟨n, emptyB, emptyB⟩) (h.mono hw) (h.ok.put0 hq hg hl) (by kernel_rfl) (fun w1 d1 hD hf hG => by rw [← hf]; exact create1_c hD hn ((H2.mono hw).gw hG (by omega) (by omega)) ((H3.mono hw).gw hG (by omega) (by omega)))) ?_
          rintro e1 w9 ⟨rfl, hD, hG⟩; refine ⟨_, rfl, ?_⟩
          clear hw
          have hw := Below.refl w9.heap.size w9
          repeat' (first | (refine lw_pure rfl (pv_move rfl) ?_) | (refine lw_pure rfl (pv_assign rfl) ?_) | (refine is_cw ?_; first | (refine cw_seq ?_) | (refine cw_region ?_) | (refine cw_true rfl rfl ?_) | (refine cw_false rfl rfl ?_) | (refine cw_true rfl (by first | assumption | exact decide_eq_true (by omega) | exact dec_notT (by omega)) ?_) | (refine cw_false rfl (by first | assumption | exact decide_eq_false (by omega) | exact dec_notF (by omega)) ?_) | (refine cw_skip ?_) | (refine cw_block ?_) | (refine cw_ret ?_)) | (refine is_qw ?_; first | (with_reducible refine qw_then ?_) | (with_reducible refine qw_in ?_) | (with_reducible refine qw_in_hit ?_) | (refine qw_in_miss rfl ?_) | (with_reducible refine qw_then_exit ?_) | (with_reducible refine qw_then_ret ?_) | (with_reducible refine qw_in_ret ?_)) | (refine lw_nil ?_) | ((refine is_bin ?_; first | (refine lw_pure rfl (pv_neq rfl rfl) ?_) | (refine lw_pure rfl (pv_geq rfl rfl) ?_))) | ((refine is_load ?_; first | (refine lw_pure rfl (pv_load (t1 rfl) rfl (by first | fail)) ?_) | (refine lw_pure rfl (pv_loada (tA rfl) rfl (by first | fail) (by rfl)) ?_))) | ((refine is_fa ?_; first | (refine lw_pure rfl (pv_fa (tF rfl) rfl) ?_))) | ((refine is_un ?_; first | (refine lw_pure rfl (pv_not rfl) ?_))) | ((refine is_bi ?_; first | (refine lw_pure rfl (pv_lenl (tS rfl) rfl) ?_) | (refine lw_pure rfl (pv_lens (tStr rfl) rfl) ?_))) | (refine lw_pure rfl (pv_extract rfl rfl) ?_) | (refine lw_pure rfl (pv_makeFunc rfl rfl) ?_) | (refine lw_pure rfl (pv_nilp rfl) ?_) | (refine lw_pure0 (pv_nilp rfl) ?_))
          exact qw_ret1 rfl rfl ⟨rfl, hD, (Gw.of_below hwa).trans hG⟩

theorem doD_fs (d : Dsk) : (doD d d.fs).2.fs = d.fs := by unfold doD; split <;> rfl
set_option maxRecDepth 20000 in
theorem delete_c {w : World} {N B : Nat} {d : Dsk} (h : DkW w N B d) {n : ByteArray} (hn : n.size ≤ 9223372036854775807) : Calls Tryd.prog 39 #[.pointer (some ⟨N, 0, none⟩), .string n] w fun e w' => e = .returned (.int .i64 (deleteD d n).1) ∧ DkW w' N B (deleteD d n).2 ∧ Gw N B w w' := by
  have hlt := h.lt
  have hw := Below.refl w.heap.size w
  refine fn_enter 19 Tryd.func39 rfl rfl rfl ?_
  repeat' (first | (refine lw_pure rfl (pv_move rfl) ?_) | (refine lw_pure rfl (pv_assign rfl) ?_) | (refine is_cw ?_; first | (refine cw_seq ?_) | (refine cw_region ?_) | (refine cw_true rfl rfl ?_) | (refine cw_false rfl rfl ?_) | (refine cw_true rfl (by first | assumption | exact decide_eq_true (by omega) | exact dec_notT (by omega)) ?_) | (refine cw_false rfl (by first | assumption | exact decide_eq_false (by omega) | exact dec_notF (by omega)) ?_) | (refine cw_skip ?_) | (refine cw_ret ?_)) | (refine is_qw ?_; first | (with_reducible refine qw_then ?_) | (with_reducible refine qw_then_ret ?_)) | (refine lw_nil ?_) | ((refine is_bin ?_; first | (refine lw_pure rfl (pv_neq rfl rfl) ?_))) | ((refine is_load ?_; first | (refine lw_pure rfl (pv_load (t1 rfl) rfl (by first | fail)) ?_) | (refine lw_pure rfl (pv_loada (tA rfl) rfl (by first | fail) (by rfl)) ?_))) | (refine lw_pure rfl (pv_extract rfl rfl) ?_) | (refine lw_pure rfl (pv_makeFunc rfl rfl) ?_))
  refine lw_boxN rfl rfl (cs := [.pointer (some ⟨N, 0, none⟩)]) rfl ?_; intro N2 w2 hN2 H2 hb; replace hw := grow_trans hw hb; clear hb
  refine lw_boxN rfl rfl (cs := [.string n]) rfl ?_; intro N3 w3 hN3 H3 hb; replace H2 := H2.mono hb; replace hN3 := Nat.le_trans hw.size hN3; replace hw := grow_trans hw hb; clear hb
  have hw0 := hw
  replace h := h.mono hw; clear hw; have hw := Below.refl w3.heap.size w3
  cases hk : d.dark with
  | true =>
    rw [show deleteD d n = (45, d) from by unfold deleteD; rw [if_pos hk]]
    repeat' (first | (refine lw_pure rfl (pv_move rfl) ?_) | (refine lw_pure rfl (pv_assign rfl) ?_) | (refine lw_call (f := 45) (by kernel_rfl) rfl rfl (find45_c (h.mono hw) hk n) ?_; rintro e w1 ⟨rfl, hb⟩; refine ⟨_, rfl, ?_⟩; replace hw := grow_trans hw hb; clear hb) | (refine is_cw ?_; first | (refine cw_seq ?_) | (refine cw_region ?_) | (refine cw_true rfl rfl ?_) | (refine cw_false rfl rfl ?_) | (refine cw_true rfl (by first | assumption | exact decide_eq_true (by omega) | exact dec_notT (by omega)) ?_) | (refine cw_false rfl (by first | assumption | exact decide_eq_false (by omega) | exact dec_notF (by omega)) ?_) | (refine cw_skip ?_) | (refine cw_ret ?_)) | (refine is_qw ?_; first | (with_reducible refine qw_then ?_) | (with_reducible refine qw_then_ret ?_)) | (refine lw_nil ?_) | ((refine is_bin ?_; first | (refine lw_pure rfl (pv_neq rfl rfl) ?_))) | ((refine is_load ?_; first | (refine lw_pure rfl (pv_load (t1 rfl) rfl (by first | exact PT.ld0 (H2.mono hw) rfl | exact PT.ld (H2.mono hw) rfl | exact PT.ld0 (H3.mono hw) rfl | exact PT.ld (H3.mono hw) rfl)) ?_) | (refine lw_pure rfl (pv_loada (tA rfl) rfl (by first | exact PT.lda (H2.mono hw) | exact PT.lda (H3.mono hw)) (by rfl)) ?_))) | (refine lw_pure rfl (pv_extract rfl rfl) ?_) | (refine lw_pure rfl (pv_makeFunc rfl rfl) ?_))
    refine lw_varN rfl (by first | exact tyv_28 | exact tyv_29 | exact tyv_34 | exact tyv_35 | exact tyv_43 | exact tyv_44 | exact tyv_77 | exact tyv_78 | exact tyv_80 | exact tyv_81 | exact tyv_86 | exact tyv_87 | exact tyv_126 | exact tyv_127) rfl (tZ rfl) (fun _ => rfl) rfl rfl ?_; intro N5 wn hN5 H5 hb; replace hN5 := Nat.le_trans hw.size hN5; replace hw := grow_trans hw hb; clear hb
    repeat' (first | (refine lw_pure rfl (pv_move rfl) ?_) | (refine lw_pure rfl (pv_assign rfl) ?_) | (refine is_cw ?_; first | (refine cw_seq ?_) | (refine cw_region ?_) | (refine cw_true rfl rfl ?_) | (refine cw_false rfl rfl ?_) | (refine cw_true rfl (by first | assumption | exact decide_eq_true (by omega) | exact dec_notT (by omega)) ?_) | (refine cw_false rfl (by first | assumption | exact decide_eq_false (by omega) | exact dec_notF (by omega)) ?_) | (refine cw_skip ?_) | (refine cw_ret ?_)) | (refine is_qw ?_; first | (with_reducible refine qw_then ?_) | (with_reducible refine qw_then_ret ?_)) | (refine lw_nil ?_) | ((refine is_bin ?_; first | (refine lw_pure rfl (pv_neq rfl rfl) ?_))) | ((refine is_load ?_; first | (refine lw_pure rfl (pv_load (t1 rfl) rfl (by first | exact PT.ld0 (H2.mono hw) rfl | exact PT.ld (H2.mono hw) rfl | exact PT.ld0 (H3.mono hw) rfl | exact PT.ld (H3.mono hw) rfl)) ?_) | (refine lw_pure rfl (pv_loada (tA rfl) rfl (by first | exact PT.lda (H2.mono hw) | exact PT.lda (H3.mono hw)) (by rfl)) ?_))) | (refine lw_pure rfl (pv_extract rfl rfl) ?_) | (refine lw_pure rfl (pv_makeFunc rfl rfl) ?_))
    exact qw_ret1 rfl rfl ⟨rfl, h.mono hw, Gw.of_below (grow_trans hw0 hw)⟩
  | false =>
    cases hg : getF d.fs n with
    | none =>
      rw [show deleteD d n = (5, d) from by unfold deleteD; rw [hk, if_neg (by simp), hg]]
      repeat' (first | (refine lw_pure rfl (pv_move rfl) ?_) | (refine lw_pure rfl (pv_assign rfl) ?_) | (refine lw_call (f := 45) (by kernel_rfl) rfl rfl (find5_c (h.mono hw) hk hn hg) ?_; rintro e w1 ⟨rfl, hb⟩; refine ⟨_, rfl, ?_⟩; replace hw := grow_trans hw hb; clear hb) | (refine is_cw ?_; first | (refine cw_seq ?_) | (refine cw_region ?_) | (refine cw_true rfl rfl ?_) | (refine cw_false rfl rfl ?_) | (refine cw_true rfl (by first | assumption | exact decide_eq_true (by omega) | exact dec_notT (by omega)) ?_) | (refine cw_false rfl (by first | assumption | exact decide_eq_false (by omega) | exact dec_notF (by omega)) ?_) | (refine cw_skip ?_) | (refine cw_ret ?_)) | (refine is_qw ?_; first | (with_reducible refine qw_then ?_) | (with_reducible refine qw_then_ret ?_)) | (refine lw_nil ?_) | ((refine is_bin ?_; first | (refine lw_pure rfl (pv_neq rfl rfl) ?_))) | ((refine is_load ?_; first | (refine lw_pure rfl (pv_load (t1 rfl) rfl (by first | exact PT.ld0 (H2.mono hw) rfl | exact PT.ld (H2.mono hw) rfl | exact PT.ld0 (H3.mono hw) rfl | exact PT.ld (H3.mono hw) rfl)) ?_) | (refine lw_pure rfl (pv_loada (tA rfl) rfl (by first | exact PT.lda (H2.mono hw) | exact PT.lda (H3.mono hw)) (by rfl)) ?_))) | (refine lw_pure rfl (pv_extract rfl rfl) ?_) | (refine lw_pure rfl (pv_makeFunc rfl rfl) ?_))
      refine lw_varN rfl (by first | exact tyv_28 | exact tyv_29 | exact tyv_34 | exact tyv_35 | exact tyv_43 | exact tyv_44 | exact tyv_77 | exact tyv_78 | exact tyv_80 | exact tyv_81 | exact tyv_86 | exact tyv_87 | exact tyv_126 | exact tyv_127) rfl (tZ rfl) (fun _ => rfl) rfl rfl ?_; intro N5 wn hN5 H5 hb; replace hN5 := Nat.le_trans hw.size hN5; replace hw := grow_trans hw hb; clear hb
      repeat' (first | (refine lw_pure rfl (pv_move rfl) ?_) | (refine lw_pure rfl (pv_assign rfl) ?_) | (refine is_cw ?_; first | (refine cw_seq ?_) | (refine cw_region ?_) | (refine cw_true rfl rfl ?_) | (refine cw_false rfl rfl ?_) | (refine cw_true rfl (by first | assumption | exact decide_eq_true (by omega) | exact dec_notT (by omega)) ?_) | (refine cw_false rfl (by first | assumption | exact decide_eq_false (by omega) | exact dec_notF (by omega)) ?_) | (refine cw_skip ?_) | (refine cw_ret ?_)) | (refine is_qw ?_; first | (with_reducible refine qw_then ?_) | (with_reducible refine qw_then_ret ?_)) | (refine lw_nil ?_) | ((refine is_bin ?_; first | (refine lw_pure rfl (pv_neq rfl rfl) ?_))) | ((refine is_load ?_; first | (refine lw_pure rfl (pv_load (t1 rfl) rfl (by first | exact PT.ld0 (H2.mono hw) rfl | exact PT.ld (H2.mono hw) rfl | exact PT.ld0 (H3.mono hw) rfl | exact PT.ld (H3.mono hw) rfl)) ?_) | (refine lw_pure rfl (pv_loada (tA rfl) rfl (by first | exact PT.lda (H2.mono hw) | exact PT.lda (H3.mono hw)) (by rfl)) ?_))) | (refine lw_pure rfl (pv_extract rfl rfl) ?_) | (refine lw_pure rfl (pv_makeFunc rfl rfl) ?_))
      exact qw_ret1 rfl rfl ⟨rfl, h.mono hw, Gw.of_below (grow_trans hw0 hw)⟩
    | some f =>
      rw [show deleteD d n = doD d (dropF d.fs n) from by unfold deleteD; rw [hk, if_neg (by simp), hg]]
      repeat' (first | (refine lw_pure rfl (pv_move rfl) ?_) | (refine lw_pure rfl (pv_assign rfl) ?_) | (refine lw_call (f := 45) (by kernel_rfl) rfl rfl (find0_c (h.mono hw) hk hn hg) ?_; rintro e w1 ⟨rfl, hb⟩; refine ⟨_, rfl, ?_⟩; replace hw := grow_trans hw hb; clear hb) | (refine is_cw ?_; first | (refine cw_seq ?_) | (refine cw_region ?_) | (refine cw_true rfl rfl ?_) | (refine cw_false rfl rfl ?_) | (refine cw_true rfl (by first | assumption | exact decide_eq_true (by omega) | exact dec_notT (by omega)) ?_) | (refine cw_false rfl (by first | assumption | exact decide_eq_false (by omega) | exact dec_notF (by omega)) ?_) | (refine cw_skip ?_) | (refine cw_ret ?_)) | (refine is_qw ?_; first | (with_reducible refine qw_then ?_) | (with_reducible refine qw_then_ret ?_)) | (refine lw_nil ?_) | ((refine is_bin ?_; first | (refine lw_pure rfl (pv_neq rfl rfl) ?_))) | ((refine is_load ?_; first | (refine lw_pure rfl (pv_load (t1 rfl) rfl (by first | exact PT.ld0 (H2.mono hw) rfl | exact PT.ld (H2.mono hw) rfl | exact PT.ld0 (H3.mono hw) rfl | exact PT.ld (H3.mono hw) rfl)) ?_) | (refine lw_pure rfl (pv_loada (tA rfl) rfl (by first | exact PT.lda (H2.mono hw) | exact PT.lda (H3.mono hw)) (by rfl)) ?_))) | (refine lw_pure rfl (pv_extract rfl rfl) ?_) | (refine lw_pure rfl (pv_makeFunc rfl rfl) ?_))
      refine lw_varN rfl (by first | exact tyv_28 | exact tyv_29 | exact tyv_34 | exact tyv_35 | exact tyv_43 | exact tyv_44 | exact tyv_77 | exact tyv_78 | exact tyv_80 | exact tyv_81 | exact tyv_86 | exact tyv_87 | exact tyv_126 | exact tyv_127) rfl (tZ rfl) (fun _ => rfl) rfl rfl ?_; intro N5 wn hN5 H5 hb; replace hN5 := Nat.le_trans hw.size hN5; replace hw := grow_trans hw hb; clear hb
      repeat' (first | (refine lw_pure rfl (pv_move rfl) ?_) | (refine lw_pure rfl (pv_assign rfl) ?_) | (refine is_cw ?_; first | (refine cw_seq ?_) | (refine cw_region ?_) | (refine cw_true rfl rfl ?_) | (refine cw_false rfl rfl ?_) | (refine cw_true rfl (by first | assumption | exact decide_eq_true (by omega) | exact dec_notT (by omega)) ?_) | (refine cw_false rfl (by first | assumption | exact decide_eq_false (by omega) | exact dec_notF (by omega)) ?_) | (refine cw_skip ?_) | (refine cw_ret ?_)) | (refine is_qw ?_; first | (with_reducible refine qw_then ?_) | (with_reducible refine qw_then_ret ?_)) | (refine lw_nil ?_) | ((refine is_bin ?_; first | (refine lw_pure rfl (pv_neq rfl rfl) ?_))) | ((refine is_load ?_; first | (refine lw_pure rfl (pv_load (t1 rfl) rfl (by first | exact PT.ld0 (H2.mono hw) rfl | exact PT.ld (H2.mono hw) rfl | exact PT.ld0 (H3.mono hw) rfl | exact PT.ld (H3.mono hw) rfl)) ?_) | (refine lw_pure rfl (pv_loada (tA rfl) rfl (by first | exact PT.lda (H2.mono hw) | exact PT.lda (H3.mono hw)) (by rfl)) ?_))) | (refine lw_pure rfl (pv_extract rfl rfl) ?_) | (refine lw_pure rfl (pv_makeFunc rfl rfl) ?_))
      have hwa := grow_trans hw0 hw
      refine lw_call (f := 50) (by kernel_rfl) rfl rfl (do_c (g := 56) (caps := #[.pointer (some ⟨N2, 0, none⟩), .pointer (some ⟨N3, 0, none⟩)]) (fs := dropF d.fs n) (h.mono hw) (h.ok.drop n) (by kernel_rfl) (fun w1 d1 hD hf hG => by rw [← hf]; exact delete1_c hD hn ((H2.mono hw).gw hG (by omega) (by omega)) ((H3.mono hw).gw hG (by omega) (by omega)))) ?_
      rintro e1 w9 ⟨rfl, hD, hG⟩; refine ⟨_, rfl, ?_⟩
      clear hw
      have hw := Below.refl w9.heap.size w9
      repeat' (first | (refine lw_pure rfl (pv_move rfl) ?_) | (refine lw_pure rfl (pv_assign rfl) ?_) | (refine is_cw ?_; first | (refine cw_seq ?_) | (refine cw_region ?_) | (refine cw_true rfl rfl ?_) | (refine cw_false rfl rfl ?_) | (refine cw_true rfl (by first | assumption | exact decide_eq_true (by omega) | exact dec_notT (by omega)) ?_) | (refine cw_false rfl (by first | assumption | exact decide_eq_false (by omega) | exact dec_notF (by omega)) ?_) | (refine cw_skip ?_) | (refine cw_ret ?_)) | (refine is_qw ?_; first | (with_reducible refine qw_then ?_) | (with_reducible refine qw_then_ret ?_)) | (refine lw_nil ?_) | ((refine is_bin ?_; first | (refine lw_pure rfl (pv_neq rfl rfl) ?_))) | ((refine is_load ?_; first | (refine lw_pure rfl (pv_load (t1 rfl) rfl (by first | fail)) ?_) | (refine lw_pure rfl (pv_loada (tA rfl) rfl (by first | fail) (by rfl)) ?_))) | (refine lw_pure rfl (pv_extract rfl rfl) ?_) | (refine lw_pure rfl (pv_makeFunc rfl rfl) ?_))
      exact qw_ret1 rfl rfl ⟨rfl, hD, (Gw.of_below hwa).trans hG⟩
set_option maxRecDepth 20000 in
theorem sync_c {w : World} {N B : Nat} {d : Dsk} (h : DkW w N B d) {n : ByteArray} (hn : n.size ≤ 9223372036854775807) : Calls Tryd.prog 36 #[.pointer (some ⟨N, 0, none⟩), .string n] w fun e w' => e = .returned (.int .i64 (syncD d n).1) ∧ DkW w' N B (syncD d n).2 ∧ Gw N B w w' := by
  have hlt := h.lt
  have hw := Below.refl w.heap.size w
  refine fn_enter 19 Tryd.func36 rfl rfl rfl ?_
  repeat' (first | (refine lw_pure rfl (pv_move rfl) ?_) | (refine lw_pure rfl (pv_assign rfl) ?_) | (refine is_cw ?_; first | (refine cw_seq ?_) | (refine cw_region ?_) | (refine cw_true rfl rfl ?_) | (refine cw_false rfl rfl ?_) | (refine cw_true rfl (by first | assumption | exact decide_eq_true (by omega) | exact dec_notT (by omega)) ?_) | (refine cw_false rfl (by first | assumption | exact decide_eq_false (by omega) | exact dec_notF (by omega)) ?_) | (refine cw_skip ?_) | (refine cw_ret ?_)) | (refine is_qw ?_; first | (with_reducible refine qw_then ?_) | (with_reducible refine qw_then_ret ?_)) | (refine lw_nil ?_) | ((refine is_bin ?_; first | (refine lw_pure rfl (pv_neq rfl rfl) ?_))) | ((refine is_load ?_; first | (refine lw_pure rfl (pv_load (t1 rfl) rfl (by first | fail)) ?_) | (refine lw_pure rfl (pv_loada (tA rfl) rfl (by first | fail) (by rfl)) ?_))) | (refine lw_pure rfl (pv_extract rfl rfl) ?_) | (refine lw_pure rfl (pv_makeFunc rfl rfl) ?_))
  refine lw_boxN rfl rfl (cs := [.pointer (some ⟨N, 0, none⟩)]) rfl ?_; intro N2 w2 hN2 H2 hb; replace hw := grow_trans hw hb; clear hb
  refine lw_boxN rfl rfl (cs := [.string n]) rfl ?_; intro N3 w3 hN3 H3 hb; replace H2 := H2.mono hb; replace hN3 := Nat.le_trans hw.size hN3; replace hw := grow_trans hw hb; clear hb
  have hw0 := hw
  replace h := h.mono hw; clear hw; have hw := Below.refl w3.heap.size w3
  cases hk : d.dark with
  | true =>
    rw [show syncD d n = (45, d) from by unfold syncD; rw [if_pos hk]]
    repeat' (first | (refine lw_pure rfl (pv_move rfl) ?_) | (refine lw_pure rfl (pv_assign rfl) ?_) | (refine lw_call (f := 45) (by kernel_rfl) rfl rfl (find45_c (h.mono hw) hk n) ?_; rintro e w1 ⟨rfl, hb⟩; refine ⟨_, rfl, ?_⟩; replace hw := grow_trans hw hb; clear hb) | (refine is_cw ?_; first | (refine cw_seq ?_) | (refine cw_region ?_) | (refine cw_true rfl rfl ?_) | (refine cw_false rfl rfl ?_) | (refine cw_true rfl (by first | assumption | exact decide_eq_true (by omega) | exact dec_notT (by omega)) ?_) | (refine cw_false rfl (by first | assumption | exact decide_eq_false (by omega) | exact dec_notF (by omega)) ?_) | (refine cw_skip ?_) | (refine cw_ret ?_)) | (refine is_qw ?_; first | (with_reducible refine qw_then ?_) | (with_reducible refine qw_then_ret ?_)) | (refine lw_nil ?_) | ((refine is_bin ?_; first | (refine lw_pure rfl (pv_neq rfl rfl) ?_))) | ((refine is_load ?_; first | (refine lw_pure rfl (pv_load (t1 rfl) rfl (by first | exact PT.ld0 (H2.mono hw) rfl | exact PT.ld (H2.mono hw) rfl | exact PT.ld0 (H3.mono hw) rfl | exact PT.ld (H3.mono hw) rfl)) ?_) | (refine lw_pure rfl (pv_loada (tA rfl) rfl (by first | exact PT.lda (H2.mono hw) | exact PT.lda (H3.mono hw)) (by rfl)) ?_))) | (refine lw_pure rfl (pv_extract rfl rfl) ?_) | (refine lw_pure rfl (pv_makeFunc rfl rfl) ?_))
    refine lw_varN rfl (by first | exact tyv_28 | exact tyv_29 | exact tyv_34 | exact tyv_35 | exact tyv_43 | exact tyv_44 | exact tyv_77 | exact tyv_78 | exact tyv_80 | exact tyv_81 | exact tyv_86 | exact tyv_87 | exact tyv_126 | exact tyv_127) rfl (tZ rfl) (fun _ => rfl) rfl rfl ?_; intro N5 wn hN5 H5 hb; replace hN5 := Nat.le_trans hw.size hN5; replace hw := grow_trans hw hb; clear hb
    repeat' (first | (refine lw_pure rfl (pv_move rfl) ?_) | (refine lw_pure rfl (pv_assign rfl) ?_) | (refine is_cw ?_; first | (refine cw_seq ?_) | (refine cw_region ?_) | (refine cw_true rfl rfl ?_) | (refine cw_false rfl rfl ?_) | (refine cw_true rfl (by first | assumption | exact decide_eq_true (by omega) | exact dec_notT (by omega)) ?_) | (refine cw_false rfl (by first | assumption | exact decide_eq_false (by omega) | exact dec_notF (by omega)) ?_) | (refine cw_skip ?_) | (refine cw_ret ?_)) | (refine is_qw ?_; first | (with_reducible refine qw_then ?_) | (with_reducible refine qw_then_ret ?_)) | (refine lw_nil ?_) | ((refine is_bin ?_; first | (refine lw_pure rfl (pv_neq rfl rfl) ?_))) | ((refine is_load ?_; first | (refine lw_pure rfl (pv_load (t1 rfl) rfl (by first | exact PT.ld0 (H2.mono hw) rfl | exact PT.ld (H2.mono hw) rfl | exact PT.ld0 (H3.mono hw) rfl | exact PT.ld (H3.mono hw) rfl)) ?_) | (refine lw_pure rfl (pv_loada (tA rfl) rfl (by first | exact PT.lda (H2.mono hw) | exact PT.lda (H3.mono hw)) (by rfl)) ?_))) | (refine lw_pure rfl (pv_extract rfl rfl) ?_) | (refine lw_pure rfl (pv_makeFunc rfl rfl) ?_))
    exact qw_ret1 rfl rfl ⟨rfl, h.mono hw, Gw.of_below (grow_trans hw0 hw)⟩
  | false =>
    cases hg : getF d.fs n with
    | none =>
      rw [show syncD d n = (5, d) from by unfold syncD; rw [hk, if_neg (by simp), hg]]
      repeat' (first | (refine lw_pure rfl (pv_move rfl) ?_) | (refine lw_pure rfl (pv_assign rfl) ?_) | (refine lw_call (f := 45) (by kernel_rfl) rfl rfl (find5_c (h.mono hw) hk hn hg) ?_; rintro e w1 ⟨rfl, hb⟩; refine ⟨_, rfl, ?_⟩; replace hw := grow_trans hw hb; clear hb) | (refine is_cw ?_; first | (refine cw_seq ?_) | (refine cw_region ?_) | (refine cw_true rfl rfl ?_) | (refine cw_false rfl rfl ?_) | (refine cw_true rfl (by first | assumption | exact decide_eq_true (by omega) | exact dec_notT (by omega)) ?_) | (refine cw_false rfl (by first | assumption | exact decide_eq_false (by omega) | exact dec_notF (by omega)) ?_) | (refine cw_skip ?_) | (refine cw_ret ?_)) | (refine is_qw ?_; first | (with_reducible refine qw_then ?_) | (with_reducible refine qw_then_ret ?_)) | (refine lw_nil ?_) | ((refine is_bin ?_; first | (refine lw_pure rfl (pv_neq rfl rfl) ?_))) | ((refine is_load ?_; first | (refine lw_pure rfl (pv_load (t1 rfl) rfl (by first | exact PT.ld0 (H2.mono hw) rfl | exact PT.ld (H2.mono hw) rfl | exact PT.ld0 (H3.mono hw) rfl | exact PT.ld (H3.mono hw) rfl)) ?_) | (refine lw_pure rfl (pv_loada (tA rfl) rfl (by first | exact PT.lda (H2.mono hw) | exact PT.lda (H3.mono hw)) (by rfl)) ?_))) | (refine lw_pure rfl (pv_extract rfl rfl) ?_) | (refine lw_pure rfl (pv_makeFunc rfl rfl) ?_))
      refine lw_varN rfl (by first | exact tyv_28 | exact tyv_29 | exact tyv_34 | exact tyv_35 | exact tyv_43 | exact tyv_44 | exact tyv_77 | exact tyv_78 | exact tyv_80 | exact tyv_81 | exact tyv_86 | exact tyv_87 | exact tyv_126 | exact tyv_127) rfl (tZ rfl) (fun _ => rfl) rfl rfl ?_; intro N5 wn hN5 H5 hb; replace hN5 := Nat.le_trans hw.size hN5; replace hw := grow_trans hw hb; clear hb
      repeat' (first | (refine lw_pure rfl (pv_move rfl) ?_) | (refine lw_pure rfl (pv_assign rfl) ?_) | (refine is_cw ?_; first | (refine cw_seq ?_) | (refine cw_region ?_) | (refine cw_true rfl rfl ?_) | (refine cw_false rfl rfl ?_) | (refine cw_true rfl (by first | assumption | exact decide_eq_true (by omega) | exact dec_notT (by omega)) ?_) | (refine cw_false rfl (by first | assumption | exact decide_eq_false (by omega) | exact dec_notF (by omega)) ?_) | (refine cw_skip ?_) | (refine cw_ret ?_)) | (refine is_qw ?_; first | (with_reducible refine qw_then ?_) | (with_reducible refine qw_then_ret ?_)) | (refine lw_nil ?_) | ((refine is_bin ?_; first | (refine lw_pure rfl (pv_neq rfl rfl) ?_))) | ((refine is_load ?_; first | (refine lw_pure rfl (pv_load (t1 rfl) rfl (by first | exact PT.ld0 (H2.mono hw) rfl | exact PT.ld (H2.mono hw) rfl | exact PT.ld0 (H3.mono hw) rfl | exact PT.ld (H3.mono hw) rfl)) ?_) | (refine lw_pure rfl (pv_loada (tA rfl) rfl (by first | exact PT.lda (H2.mono hw) | exact PT.lda (H3.mono hw)) (by rfl)) ?_))) | (refine lw_pure rfl (pv_extract rfl rfl) ?_) | (refine lw_pure rfl (pv_makeFunc rfl rfl) ?_))
      exact qw_ret1 rfl rfl ⟨rfl, h.mono hw, Gw.of_below (grow_trans hw0 hw)⟩
    | some f =>
      have hsz := getF_sz h.ok hg
      rw [show syncD d n = doD d (putF d.fs ⟨n, f.firm ++ f.pend, emptyB⟩) from by unfold syncD; rw [hk, if_neg (by simp), hg]]
      repeat' (first | (refine lw_pure rfl (pv_move rfl) ?_) | (refine lw_pure rfl (pv_assign rfl) ?_) | (refine lw_call (f := 45) (by kernel_rfl) rfl rfl (find0_c (h.mono hw) hk hn hg) ?_; rintro e w1 ⟨rfl, hb⟩; refine ⟨_, rfl, ?_⟩; replace hw := grow_trans hw hb; clear hb) | (refine is_cw ?_; first | (refine cw_seq ?_) | (refine cw_region ?_) | (refine cw_true rfl rfl ?_) | (refine cw_false rfl rfl ?_) | (refine cw_true rfl (by first | assumption | exact decide_eq_true (by omega) | exact dec_notT (by omega)) ?_) | (refine cw_false rfl (by first | assumption | exact decide_eq_false (by omega) | exact dec_notF (by omega)) ?_) | (refine cw_skip ?_) | (refine cw_ret ?_)) | (refine is_qw ?_; first | (with_reducible refine qw_then ?_) | (with_reducible refine qw_then_ret ?_)) | (refine lw_nil ?_) | ((refine is_bin ?_; first | (refine lw_pure rfl (pv_neq rfl rfl) ?_))) | ((refine is_load ?_; first | (refine lw_pure rfl (pv_load (t1 rfl) rfl (by first | exact PT.ld0 (H2.mono hw) rfl | exact PT.ld (H2.mono hw) rfl | exact PT.ld0 (H3.mono hw) rfl | exact PT.ld (H3.mono hw) rfl)) ?_) | (refine lw_pure rfl (pv_loada (tA rfl) rfl (by first | exact PT.lda (H2.mono hw) | exact PT.lda (H3.mono hw)) (by rfl)) ?_))) | (refine lw_pure rfl (pv_extract rfl rfl) ?_) | (refine lw_pure rfl (pv_makeFunc rfl rfl) ?_))
      refine lw_varN rfl (by first | exact tyv_28 | exact tyv_29 | exact tyv_34 | exact tyv_35 | exact tyv_43 | exact tyv_44 | exact tyv_77 | exact tyv_78 | exact tyv_80 | exact tyv_81 | exact tyv_86 | exact tyv_87 | exact tyv_126 | exact tyv_127) rfl (tZ rfl) (fun _ => rfl) rfl rfl ?_; intro N5 wn hN5 H5 hb; replace hN5 := Nat.le_trans hw.size hN5; replace hw := grow_trans hw hb; clear hb
      have hwB := hw
      have hN5' := Nat.le_trans hw0.size hN5
      replace h := h.mono hw; replace H2 := H2.mono hw; replace H3 := H3.mono hw; clear hw; have hw := Below.refl wn.heap.size wn
      replace hw0 := grow_trans hw0 hwB
      repeat' (first | (refine lw_pure rfl (pv_move rfl) ?_) | (refine lw_pure rfl (pv_assign rfl) ?_) | (refine is_cw ?_; first | (refine cw_seq ?_) | (refine cw_region ?_) | (refine cw_true rfl rfl ?_) | (refine cw_false rfl rfl ?_) | (refine cw_true rfl (by first | assumption | exact decide_eq_true (by omega) | exact dec_notT (by omega)) ?_) | (refine cw_false rfl (by first | assumption | exact decide_eq_false (by omega) | exact dec_notF (by omega)) ?_) | (refine cw_skip ?_) | (refine cw_ret ?_)) | (refine is_qw ?_; first | (with_reducible refine qw_then ?_) | (with_reducible refine qw_then_ret ?_)) | (refine lw_nil ?_) | ((refine is_bin ?_; first | (refine lw_pure rfl (pv_neq rfl rfl) ?_))) | ((refine is_load ?_; first | (refine lw_pure rfl (pv_load (t1 rfl) rfl (by first | exact PT.ld0 (H2.mono hw) rfl | exact PT.ld (H2.mono hw) rfl | exact PT.ld0 (H3.mono hw) rfl | exact PT.ld (H3.mono hw) rfl)) ?_) | (refine lw_pure rfl (pv_loada (tA rfl) rfl (by first | exact PT.lda (H2.mono hw) | exact PT.lda (H3.mono hw)) (by rfl)) ?_))) | (refine lw_pure rfl (pv_extract rfl rfl) ?_) | (refine lw_pure rfl (pv_makeFunc rfl rfl) ?_))
      have hwa := grow_trans hw0 hw
      refine lw_call (f := 50) (by kernel_rfl) rfl rfl (do_c (g := 53) (caps := #[.pointer (some ⟨N5, 0, none⟩), .pointer (some ⟨N2, 0, none⟩), .pointer (some ⟨N3, 0, none⟩)]) (fs := putF d.fs ⟨n, f.firm ++ f.pend, emptyB⟩) (h.mono hw) (h.ok.swap hg rfl (by unfold szF; dsimp only; rw [size_append, size_empty]; omega)) (by kernel_rfl) (fun w1 d1 hD hf hG => by rw [← hf]; exact sync1_c hD hn (by omega) ((H5.mono hw).gw hG (by omega) (by omega)) ((H2.mono hw).gw hG (by omega) (by omega)) ((H3.mono hw).gw hG (by omega) (by omega)))) ?_
      rintro e1 w9 ⟨rfl, hD, hG⟩; refine ⟨_, rfl, ?_⟩
      clear hw
      have hw := Below.refl w9.heap.size w9
      repeat' (first | (refine lw_pure rfl (pv_move rfl) ?_) | (refine lw_pure rfl (pv_assign rfl) ?_) | (refine is_cw ?_; first | (refine cw_seq ?_) | (refine cw_region ?_) | (refine cw_true rfl rfl ?_) | (refine cw_false rfl rfl ?_) | (refine cw_true rfl (by first | assumption | exact decide_eq_true (by omega) | exact dec_notT (by omega)) ?_) | (refine cw_false rfl (by first | assumption | exact decide_eq_false (by omega) | exact dec_notF (by omega)) ?_) | (refine cw_skip ?_) | (refine cw_ret ?_)) | (refine is_qw ?_; first | (with_reducible refine qw_then ?_) | (with_reducible refine qw_then_ret ?_)) | (refine lw_nil ?_) | ((refine is_bin ?_; first | (refine lw_pure rfl (pv_neq rfl rfl) ?_))) | ((refine is_load ?_; first | (refine lw_pure rfl (pv_load (t1 rfl) rfl (by first | fail)) ?_) | (refine lw_pure rfl (pv_loada (tA rfl) rfl (by first | fail) (by rfl)) ?_))) | (refine lw_pure rfl (pv_extract rfl rfl) ?_) | (refine lw_pure rfl (pv_makeFunc rfl rfl) ?_))
      exact qw_ret1 rfl rfl ⟨rfl, hD, (Gw.of_below hwa).trans hG⟩
set_option maxRecDepth 20000 in
theorem rename_c {w : World} {N B : Nat} {d : Dsk} (h : DkW w N B d) {n t : ByteArray} (hn : n.size ≤ 9223372036854775807) (ht : t.size ≤ 9223372036854775807) : Calls Tryd.prog 38 #[.pointer (some ⟨N, 0, none⟩), .string n, .string t] w fun e w' => e = .returned (.int .i64 (renameD d n t).1) ∧ DkW w' N B (renameD d n t).2 ∧ Gw N B w w' := by
  have hlt := h.lt
  have hw := Below.refl w.heap.size w
  refine fn_enter 30 Tryd.func38 rfl rfl rfl ?_
  repeat' (first | (refine lw_pure rfl (pv_move rfl) ?_) | (refine lw_pure rfl (pv_assign rfl) ?_) | (refine is_cw ?_; first | (refine cw_seq ?_) | (refine cw_region ?_) | (refine cw_true rfl rfl ?_) | (refine cw_false rfl rfl ?_) | (refine cw_true rfl (by first | assumption | exact decide_eq_true (by omega) | exact dec_notT (by omega)) ?_) | (refine cw_false rfl (by first | assumption | exact decide_eq_false (by omega) | exact dec_notF (by omega)) ?_) | (refine cw_skip ?_) | (refine cw_block ?_) | (refine cw_ret ?_)) | (refine is_qw ?_; first | (with_reducible refine qw_then ?_) | (with_reducible refine qw_in ?_) | (with_reducible refine qw_in_hit ?_) | (refine qw_in_miss rfl ?_) | (with_reducible refine qw_then_exit ?_) | (with_reducible refine qw_then_ret ?_) | (with_reducible refine qw_in_ret ?_)) | (refine lw_nil ?_) | ((refine is_bin ?_; first | (refine lw_pure rfl (pv_eql rfl rfl) ?_) | (refine lw_pure rfl (pv_neq rfl rfl) ?_) | (refine lw_pure rfl (pv_seqlD rfl rfl) ?_) | (refine lw_pure rfl (pv_sneqD rfl rfl) ?_))) | ((refine is_load ?_; first | (refine lw_pure rfl (pv_load (t1 rfl) rfl (by first | fail)) ?_) | (refine lw_pure rfl (pv_loada (tA rfl) rfl (by first | fail) (by rfl)) ?_))) | ((refine is_un ?_; first | (refine lw_pure rfl (pv_not rfl) ?_))) | (refine lw_pure rfl (pv_extract rfl rfl) ?_) | (refine lw_pure rfl (pv_makeFunc rfl rfl) ?_))
  refine lw_boxN rfl rfl (cs := [.pointer (some ⟨N, 0, none⟩)]) rfl ?_; intro N2 w2 hN2 H2 hb; replace hw := grow_trans hw hb; clear hb
  refine lw_boxN rfl rfl (cs := [.string n]) rfl ?_; intro N3 w3 hN3 H3 hb; replace H2 := H2.mono hb; replace hN3 := Nat.le_trans hw.size hN3; replace hw := grow_trans hw hb; clear hb
  refine lw_boxN rfl rfl (cs := [.string t]) rfl ?_; intro N4 w4 hN4 H4 hb; (replace H2 := H2.mono hb; replace H3 := H3.mono hb); replace hN4 := Nat.le_trans hw.size hN4; replace hw := grow_trans hw hb; clear hb
  have hw0 := hw
  replace h := h.mono hw; clear hw; have hw := Below.refl w4.heap.size w4
  cases hk : d.dark with
  | true =>
    rw [show renameD d n t = (45, d) from by unfold renameD; rw [if_pos hk]]
    repeat' (first | (refine lw_pure rfl (pv_move rfl) ?_) | (refine lw_pure rfl (pv_assign rfl) ?_) | (refine lw_call (f := 45) (by kernel_rfl) rfl rfl (find45_c (h.mono hw) hk n) ?_; rintro e w1 ⟨rfl, hb⟩; refine ⟨_, rfl, ?_⟩; replace hw := grow_trans hw hb; clear hb) | (refine is_cw ?_; first | (refine cw_seq ?_) | (refine cw_region ?_) | (refine cw_true rfl rfl ?_) | (refine cw_false rfl rfl ?_) | (refine cw_true rfl (by first | assumption | exact decide_eq_true (by omega) | exact dec_notT (by omega)) ?_) | (refine cw_false rfl (by first | assumption | exact decide_eq_false (by omega) | exact dec_notF (by omega)) ?_) | (refine cw_skip ?_) | (refine cw_block ?_) | (refine cw_ret ?_)) | (refine is_qw ?_; first | (with_reducible refine qw_then ?_) | (with_reducible refine qw_in ?_) | (with_reducible refine qw_in_hit ?_) | (refine qw_in_miss rfl ?_) | (with_reducible refine qw_then_exit ?_) | (with_reducible refine qw_then_ret ?_) | (with_reducible refine qw_in_ret ?_)) | (refine lw_nil ?_) | ((refine is_bin ?_; first | (refine lw_pure rfl (pv_eql rfl rfl) ?_) | (refine lw_pure rfl (pv_neq rfl rfl) ?_) | (refine lw_pure rfl (pv_seqlD rfl rfl) ?_) | (refine lw_pure rfl (pv_sneqD rfl rfl) ?_))) | ((refine is_load ?_; first | (refine lw_pure rfl (pv_load (t1 rfl) rfl (by first | exact PT.ld0 (H2.mono hw) rfl | exact PT.ld (H2.mono hw) rfl | exact PT.ld0 (H3.mono hw) rfl | exact PT.ld (H3.mono hw) rfl)) ?_) | (refine lw_pure rfl (pv_loada (tA rfl) rfl (by first | exact PT.lda (H2.mono hw) | exact PT.lda (H3.mono hw)) (by rfl)) ?_))) | ((refine is_un ?_; first | (refine lw_pure rfl (pv_not rfl) ?_))) | (refine lw_pure rfl (pv_extract rfl rfl) ?_) | (refine lw_pure rfl (pv_makeFunc rfl rfl) ?_))
    refine lw_varN rfl (by first | exact tyv_28 | exact tyv_29 | exact tyv_34 | exact tyv_35 | exact tyv_43 | exact tyv_44 | exact tyv_77 | exact tyv_78 | exact tyv_80 | exact tyv_81 | exact tyv_86 | exact tyv_87 | exact tyv_126 | exact tyv_127) rfl (tZ rfl) (fun _ => rfl) rfl rfl ?_; intro N5 wn hN5 H5 hb; replace hN5 := Nat.le_trans hw.size hN5; replace hw := grow_trans hw hb; clear hb
    repeat' (first | (refine lw_pure rfl (pv_move rfl) ?_) | (refine lw_pure rfl (pv_assign rfl) ?_) | (refine is_cw ?_; first | (refine cw_seq ?_) | (refine cw_region ?_) | (refine cw_true rfl rfl ?_) | (refine cw_false rfl rfl ?_) | (refine cw_true rfl (by first | assumption | exact decide_eq_true (by omega) | exact dec_notT (by omega)) ?_) | (refine cw_false rfl (by first | assumption | exact decide_eq_false (by omega) | exact dec_notF (by omega)) ?_) | (refine cw_skip ?_) | (refine cw_block ?_) | (refine cw_ret ?_)) | (refine is_qw ?_; first | (with_reducible refine qw_then ?_) | (with_reducible refine qw_in ?_) | (with_reducible refine qw_in_hit ?_) | (refine qw_in_miss rfl ?_) | (with_reducible refine qw_then_exit ?_) | (with_reducible refine qw_then_ret ?_) | (with_reducible refine qw_in_ret ?_)) | (refine lw_nil ?_) | ((refine is_bin ?_; first | (refine lw_pure rfl (pv_eql rfl rfl) ?_) | (refine lw_pure rfl (pv_neq rfl rfl) ?_) | (refine lw_pure rfl (pv_seqlD rfl rfl) ?_) | (refine lw_pure rfl (pv_sneqD rfl rfl) ?_))) | ((refine is_load ?_; first | (refine lw_pure rfl (pv_load (t1 rfl) rfl (by first | exact PT.ld0 (H2.mono hw) rfl | exact PT.ld (H2.mono hw) rfl | exact PT.ld0 (H3.mono hw) rfl | exact PT.ld (H3.mono hw) rfl)) ?_) | (refine lw_pure rfl (pv_loada (tA rfl) rfl (by first | exact PT.lda (H2.mono hw) | exact PT.lda (H3.mono hw)) (by rfl)) ?_))) | ((refine is_un ?_; first | (refine lw_pure rfl (pv_not rfl) ?_))) | (refine lw_pure rfl (pv_extract rfl rfl) ?_) | (refine lw_pure rfl (pv_makeFunc rfl rfl) ?_))
    exact qw_ret1 rfl rfl ⟨rfl, h.mono hw, Gw.of_below (grow_trans hw0 hw)⟩
  | false =>
    cases hg : getF d.fs n with
    | none =>
      rw [show renameD d n t = (5, d) from by unfold renameD; rw [hk, if_neg (by simp), hg]]
      repeat' (first | (refine lw_pure rfl (pv_move rfl) ?_) | (refine lw_pure rfl (pv_assign rfl) ?_) | (refine lw_call (f := 45) (by kernel_rfl) rfl rfl (find5_c (h.mono hw) hk hn hg) ?_; rintro e w1 ⟨rfl, hb⟩; refine ⟨_, rfl, ?_⟩; replace hw := grow_trans hw hb; clear hb) | (refine is_cw ?_; first | (refine cw_seq ?_) | (refine cw_region ?_) | (refine cw_true rfl rfl ?_) | (refine cw_false rfl rfl ?_) | (refine cw_true rfl (by first | assumption | exact decide_eq_true (by omega) | exact dec_notT (by omega)) ?_) | (refine cw_false rfl (by first | assumption | exact decide_eq_false (by omega) | exact dec_notF (by omega)) ?_) | (refine cw_skip ?_) | (refine cw_block ?_) | (refine cw_ret ?_)) | (refine is_qw ?_; first | (with_reducible refine qw_then ?_) | (with_reducible refine qw_in ?_) | (with_reducible refine qw_in_hit ?_) | (refine qw_in_miss rfl ?_) | (with_reducible refine qw_then_exit ?_) | (with_reducible refine qw_then_ret ?_) | (with_reducible refine qw_in_ret ?_)) | (refine lw_nil ?_) | ((refine is_bin ?_; first | (refine lw_pure rfl (pv_eql rfl rfl) ?_) | (refine lw_pure rfl (pv_neq rfl rfl) ?_) | (refine lw_pure rfl (pv_seqlD rfl rfl) ?_) | (refine lw_pure rfl (pv_sneqD rfl rfl) ?_))) | ((refine is_load ?_; first | (refine lw_pure rfl (pv_load (t1 rfl) rfl (by first | exact PT.ld0 (H2.mono hw) rfl | exact PT.ld (H2.mono hw) rfl | exact PT.ld0 (H3.mono hw) rfl | exact PT.ld (H3.mono hw) rfl)) ?_) | (refine lw_pure rfl (pv_loada (tA rfl) rfl (by first | exact PT.lda (H2.mono hw) | exact PT.lda (H3.mono hw)) (by rfl)) ?_))) | ((refine is_un ?_; first | (refine lw_pure rfl (pv_not rfl) ?_))) | (refine lw_pure rfl (pv_extract rfl rfl) ?_) | (refine lw_pure rfl (pv_makeFunc rfl rfl) ?_))
      refine lw_varN rfl (by first | exact tyv_28 | exact tyv_29 | exact tyv_34 | exact tyv_35 | exact tyv_43 | exact tyv_44 | exact tyv_77 | exact tyv_78 | exact tyv_80 | exact tyv_81 | exact tyv_86 | exact tyv_87 | exact tyv_126 | exact tyv_127) rfl (tZ rfl) (fun _ => rfl) rfl rfl ?_; intro N5 wn hN5 H5 hb; replace hN5 := Nat.le_trans hw.size hN5; replace hw := grow_trans hw hb; clear hb
      repeat' (first | (refine lw_pure rfl (pv_move rfl) ?_) | (refine lw_pure rfl (pv_assign rfl) ?_) | (refine is_cw ?_; first | (refine cw_seq ?_) | (refine cw_region ?_) | (refine cw_true rfl rfl ?_) | (refine cw_false rfl rfl ?_) | (refine cw_true rfl (by first | assumption | exact decide_eq_true (by omega) | exact dec_notT (by omega)) ?_) | (refine cw_false rfl (by first | assumption | exact decide_eq_false (by omega) | exact dec_notF (by omega)) ?_) | (refine cw_skip ?_) | (refine cw_block ?_) | (refine cw_ret ?_)) | (refine is_qw ?_; first | (with_reducible refine qw_then ?_) | (with_reducible refine qw_in ?_) | (with_reducible refine qw_in_hit ?_) | (refine qw_in_miss rfl ?_) | (with_reducible refine qw_then_exit ?_) | (with_reducible refine qw_then_ret ?_) | (with_reducible refine qw_in_ret ?_)) | (refine lw_nil ?_) | ((refine is_bin ?_; first | (refine lw_pure rfl (pv_eql rfl rfl) ?_) | (refine lw_pure rfl (pv_neq rfl rfl) ?_) | (refine lw_pure rfl (pv_seqlD rfl rfl) ?_) | (refine lw_pure rfl (pv_sneqD rfl rfl) ?_))) | ((refine is_load ?_; first | (refine lw_pure rfl (pv_load (t1 rfl) rfl (by first | exact PT.ld0 (H2.mono hw) rfl | exact PT.ld (H2.mono hw) rfl | exact PT.ld0 (H3.mono hw) rfl | exact PT.ld (H3.mono hw) rfl)) ?_) | (refine lw_pure rfl (pv_loada (tA rfl) rfl (by first | exact PT.lda (H2.mono hw) | exact PT.lda (H3.mono hw)) (by rfl)) ?_))) | ((refine is_un ?_; first | (refine lw_pure rfl (pv_not rfl) ?_))) | (refine lw_pure rfl (pv_extract rfl rfl) ?_) | (refine lw_pure rfl (pv_makeFunc rfl rfl) ?_))
      exact qw_ret1 rfl rfl ⟨rfl, h.mono hw, Gw.of_below (grow_trans hw0 hw)⟩
    | some f =>
      cases hq : nameF t with
      | false =>
        rw [show renameD d n t = (4, d) from by unfold renameD; rw [hk, if_neg (by simp), hg]; dsimp only; rw [if_pos hq]]
        repeat' (first | (refine lw_pure rfl (pv_move rfl) ?_) | (refine lw_pure rfl (pv_assign rfl) ?_) | (refine lw_call (f := 45) (by kernel_rfl) rfl rfl (find0_c (h.mono hw) hk hn hg) ?_; rintro e w1 ⟨rfl, hb⟩; refine ⟨_, rfl, ?_⟩; replace hw := grow_trans hw hb; clear hb) | (refine is_cw ?_; first | (refine cw_seq ?_) | (refine cw_region ?_) | (refine cw_true rfl rfl ?_) | (refine cw_false rfl rfl ?_) | (refine cw_true rfl (by first | assumption | exact decide_eq_true (by omega) | exact dec_notT (by omega)) ?_) | (refine cw_false rfl (by first | assumption | exact decide_eq_false (by omega) | exact dec_notF (by omega)) ?_) | (refine cw_skip ?_) | (refine cw_block ?_) | (refine cw_ret ?_)) | (refine is_qw ?_; first | (with_reducible refine qw_then ?_) | (with_reducible refine qw_in ?_) | (with_reducible refine qw_in_hit ?_) | (refine qw_in_miss rfl ?_) | (with_reducible refine qw_then_exit ?_) | (with_reducible refine qw_then_ret ?_) | (with_reducible refine qw_in_ret ?_)) | (refine lw_nil ?_) | ((refine is_bin ?_; first | (refine lw_pure rfl (pv_eql rfl rfl) ?_) | (refine lw_pure rfl (pv_neq rfl rfl) ?_) | (refine lw_pure rfl (pv_seqlD rfl rfl) ?_) | (refine lw_pure rfl (pv_sneqD rfl rfl) ?_))) | ((refine is_load ?_; first | (refine lw_pure rfl (pv_load (t1 rfl) rfl (by first | exact PT.ld0 (H2.mono hw) rfl | exact PT.ld (H2.mono hw) rfl | exact PT.ld0 (H3.mono hw) rfl | exact PT.ld (H3.mono hw) rfl)) ?_) | (refine lw_pure rfl (pv_loada (tA rfl) rfl (by first | exact PT.lda (H2.mono hw) | exact PT.lda (H3.mono hw)) (by rfl)) ?_))) | ((refine is_un ?_; first | (refine lw_pure rfl (pv_not rfl) ?_))) | (refine lw_pure rfl (pv_extract rfl rfl) ?_) | (refine lw_pure rfl (pv_makeFunc rfl rfl) ?_))
        refine lw_varN rfl (by first | exact tyv_28 | exact tyv_29 | exact tyv_34 | exact tyv_35 | exact tyv_43 | exact tyv_44 | exact tyv_77 | exact tyv_78 | exact tyv_80 | exact tyv_81 | exact tyv_86 | exact tyv_87 | exact tyv_126 | exact tyv_127) rfl (tZ rfl) (fun _ => rfl) rfl rfl ?_; intro N5 wn hN5 H5 hb; replace hN5 := Nat.le_trans hw.size hN5; replace hw := grow_trans hw hb; clear hb
        repeat' (first | (refine lw_pure rfl (pv_move rfl) ?_) | (refine lw_pure rfl (pv_assign rfl) ?_) | (refine lw_call (f := 18) (by kernel_rfl) rfl rfl (name_is ht hq _) ?_; rintro e w1 ⟨rfl, hb⟩; refine ⟨_, rfl, ?_⟩; replace hw := grow_trans hw hb; clear hb) | (refine is_cw ?_; first | (refine cw_seq ?_) | (refine cw_region ?_) | (refine cw_true rfl rfl ?_) | (refine cw_false rfl rfl ?_) | (refine cw_true rfl (by first | assumption | exact decide_eq_true (by omega) | exact dec_notT (by omega)) ?_) | (refine cw_false rfl (by first | assumption | exact decide_eq_false (by omega) | exact dec_notF (by omega)) ?_) | (refine cw_skip ?_) | (refine cw_block ?_) | (refine cw_ret ?_)) | (refine is_qw ?_; first | (with_reducible refine qw_then ?_) | (with_reducible refine qw_in ?_) | (with_reducible refine qw_in_hit ?_) | (refine qw_in_miss rfl ?_) | (with_reducible refine qw_then_exit ?_) | (with_reducible refine qw_then_ret ?_) | (with_reducible refine qw_in_ret ?_)) | (refine lw_nil ?_) | ((refine is_bin ?_; first | (refine lw_pure rfl (pv_eql rfl rfl) ?_) | (refine lw_pure rfl (pv_neq rfl rfl) ?_) | (refine lw_pure rfl (pv_seqlD rfl rfl) ?_) | (refine lw_pure rfl (pv_sneqD rfl rfl) ?_))) | ((refine is_load ?_; first | (refine lw_pure rfl (pv_load (t1 rfl) rfl (by first | exact PT.ld0 (H2.mono hw) rfl | exact PT.ld (H2.mono hw) rfl | exact PT.ld0 (H3.mono hw) rfl | exact PT.ld (H3.mono hw) rfl | exact PT.ld0 (H4.mono hw) rfl | exact PT.ld (H4.mono hw) rfl)) ?_) | (refine lw_pure rfl (pv_loada (tA rfl) rfl (by first | exact PT.lda (H2.mono hw) | exact PT.lda (H3.mono hw) | exact PT.lda (H4.mono hw)) (by rfl)) ?_))) | ((refine is_un ?_; first | (refine lw_pure rfl (pv_not rfl) ?_))) | (refine lw_pure rfl (pv_extract rfl rfl) ?_) | (refine lw_pure rfl (pv_makeFunc rfl rfl) ?_))
        exact qw_ret1 rfl rfl ⟨rfl, h.mono hw, Gw.of_below (grow_trans hw0 hw)⟩
      | true =>
        by_cases he : n = t
        · have hE : decide (n = t) = true := decide_eq_true he
          rw [show renameD d n t = (1, d) from by unfold renameD; rw [hk, if_neg (by simp), hg]; dsimp only; rw [hq, if_neg (by simp), if_pos he]]
          repeat' (first | (refine lw_pure rfl (pv_move rfl) ?_) | (refine lw_pure rfl (pv_assign rfl) ?_) | (refine lw_call (f := 45) (by kernel_rfl) rfl rfl (find0_c (h.mono hw) hk hn hg) ?_; rintro e w1 ⟨rfl, hb⟩; refine ⟨_, rfl, ?_⟩; replace hw := grow_trans hw hb; clear hb) | (refine is_cw ?_; first | (refine cw_seq ?_) | (refine cw_region ?_) | (refine cw_true rfl rfl ?_) | (refine cw_false rfl rfl ?_) | (refine cw_true rfl (by first | assumption | exact decide_eq_true (by omega) | exact dec_notT (by omega)) ?_) | (refine cw_false rfl (by first | assumption | exact decide_eq_false (by omega) | exact dec_notF (by omega)) ?_) | (refine cw_skip ?_) | (refine cw_block ?_) | (refine cw_ret ?_)) | (refine is_qw ?_; first | (with_reducible refine qw_then ?_) | (with_reducible refine qw_in ?_) | (with_reducible refine qw_in_hit ?_) | (refine qw_in_miss rfl ?_) | (with_reducible refine qw_then_exit ?_) | (with_reducible refine qw_then_ret ?_) | (with_reducible refine qw_in_ret ?_)) | (refine lw_nil ?_) | ((refine is_bin ?_; first | (refine lw_pure rfl (pv_eql rfl rfl) ?_) | (refine lw_pure rfl (pv_neq rfl rfl) ?_) | (refine lw_pure rfl (pv_seqlD rfl rfl) ?_) | (refine lw_pure rfl (pv_sneqD rfl rfl) ?_))) | ((refine is_load ?_; first | (refine lw_pure rfl (pv_load (t1 rfl) rfl (by first | exact PT.ld0 (H2.mono hw) rfl | exact PT.ld (H2.mono hw) rfl | exact PT.ld0 (H3.mono hw) rfl | exact PT.ld (H3.mono hw) rfl)) ?_) | (refine lw_pure rfl (pv_loada (tA rfl) rfl (by first | exact PT.lda (H2.mono hw) | exact PT.lda (H3.mono hw)) (by rfl)) ?_))) | ((refine is_un ?_; first | (refine lw_pure rfl (pv_not rfl) ?_))) | (refine lw_pure rfl (pv_extract rfl rfl) ?_) | (refine lw_pure rfl (pv_makeFunc rfl rfl) ?_))
          refine lw_varN rfl (by first | exact tyv_28 | exact tyv_29 | exact tyv_34 | exact tyv_35 | exact tyv_43 | exact tyv_44 | exact tyv_77 | exact tyv_78 | exact tyv_80 | exact tyv_81 | exact tyv_86 | exact tyv_87 | exact tyv_126 | exact tyv_127) rfl (tZ rfl) (fun _ => rfl) rfl rfl ?_; intro N5 wn hN5 H5 hb; replace hN5 := Nat.le_trans hw.size hN5; replace hw := grow_trans hw hb; clear hb
          repeat' (first | (refine lw_pure rfl (pv_move rfl) ?_) | (refine lw_pure rfl (pv_assign rfl) ?_) | (refine lw_call (f := 18) (by kernel_rfl) rfl rfl (name_is ht hq _) ?_; rintro e w1 ⟨rfl, hb⟩; refine ⟨_, rfl, ?_⟩; replace hw := grow_trans hw hb; clear hb) | (refine is_cw ?_; first | (refine cw_seq ?_) | (refine cw_region ?_) | (refine cw_true rfl rfl ?_) | (refine cw_false rfl rfl ?_) | (refine cw_true rfl (by first | assumption | exact decide_eq_true (by omega) | exact dec_notT (by omega)) ?_) | (refine cw_false rfl (by first | assumption | exact decide_eq_false (by omega) | exact dec_notF (by omega)) ?_) | (refine cw_skip ?_) | (refine cw_block ?_) | (refine cw_ret ?_)) | (refine is_qw ?_; first | (with_reducible refine qw_then ?_) | (with_reducible refine qw_in ?_) | (with_reducible refine qw_in_hit ?_) | (refine qw_in_miss rfl ?_) | (with_reducible refine qw_then_exit ?_) | (with_reducible refine qw_then_ret ?_) | (with_reducible refine qw_in_ret ?_)) | (refine lw_nil ?_) | ((refine is_bin ?_; first | (refine lw_pure rfl (pv_eql rfl rfl) ?_) | (refine lw_pure rfl (pv_neq rfl rfl) ?_) | (refine lw_pure rfl (pv_seqlD rfl rfl) ?_) | (refine lw_pure rfl (pv_sneqD rfl rfl) ?_))) | ((refine is_load ?_; first | (refine lw_pure rfl (pv_load (t1 rfl) rfl (by first | exact PT.ld0 (H2.mono hw) rfl | exact PT.ld (H2.mono hw) rfl | exact PT.ld0 (H3.mono hw) rfl | exact PT.ld (H3.mono hw) rfl | exact PT.ld0 (H4.mono hw) rfl | exact PT.ld (H4.mono hw) rfl)) ?_) | (refine lw_pure rfl (pv_loada (tA rfl) rfl (by first | exact PT.lda (H2.mono hw) | exact PT.lda (H3.mono hw) | exact PT.lda (H4.mono hw)) (by rfl)) ?_))) | ((refine is_un ?_; first | (refine lw_pure rfl (pv_not rfl) ?_))) | (refine lw_pure rfl (pv_extract rfl rfl) ?_) | (refine lw_pure rfl (pv_makeFunc rfl rfl) ?_))
          exact qw_ret1 rfl rfl ⟨rfl, h.mono hw, Gw.of_below (grow_trans hw0 hw)⟩
        · have hE : decide (n = t) = false := decide_eq_false he
          rw [show renameD d n t = doD d (putF (dropF d.fs n) ⟨t, f.firm, f.pend⟩) from by unfold renameD; rw [hk, if_neg (by simp), hg]; dsimp only; rw [hq, if_neg (by simp), if_neg he]]
          repeat' (first | (refine lw_pure rfl (pv_move rfl) ?_) | (refine lw_pure rfl (pv_assign rfl) ?_) | (refine lw_call (f := 45) (by kernel_rfl) rfl rfl (find0_c (h.mono hw) hk hn hg) ?_; rintro e w1 ⟨rfl, hb⟩; refine ⟨_, rfl, ?_⟩; replace hw := grow_trans hw hb; clear hb) | (refine is_cw ?_; first | (refine cw_seq ?_) | (refine cw_region ?_) | (refine cw_true rfl rfl ?_) | (refine cw_false rfl rfl ?_) | (refine cw_true rfl (by first | assumption | exact decide_eq_true (by omega) | exact dec_notT (by omega)) ?_) | (refine cw_false rfl (by first | assumption | exact decide_eq_false (by omega) | exact dec_notF (by omega)) ?_) | (refine cw_skip ?_) | (refine cw_block ?_) | (refine cw_ret ?_)) | (refine is_qw ?_; first | (with_reducible refine qw_then ?_) | (with_reducible refine qw_in ?_) | (with_reducible refine qw_in_hit ?_) | (refine qw_in_miss rfl ?_) | (with_reducible refine qw_then_exit ?_) | (with_reducible refine qw_then_ret ?_) | (with_reducible refine qw_in_ret ?_)) | (refine lw_nil ?_) | ((refine is_bin ?_; first | (refine lw_pure rfl (pv_eql rfl rfl) ?_) | (refine lw_pure rfl (pv_neq rfl rfl) ?_) | (refine lw_pure rfl (pv_seqlD rfl rfl) ?_) | (refine lw_pure rfl (pv_sneqD rfl rfl) ?_))) | ((refine is_load ?_; first | (refine lw_pure rfl (pv_load (t1 rfl) rfl (by first | exact PT.ld0 (H2.mono hw) rfl | exact PT.ld (H2.mono hw) rfl | exact PT.ld0 (H3.mono hw) rfl | exact PT.ld (H3.mono hw) rfl)) ?_) | (refine lw_pure rfl (pv_loada (tA rfl) rfl (by first | exact PT.lda (H2.mono hw) | exact PT.lda (H3.mono hw)) (by rfl)) ?_))) | ((refine is_un ?_; first | (refine lw_pure rfl (pv_not rfl) ?_))) | (refine lw_pure rfl (pv_extract rfl rfl) ?_) | (refine lw_pure rfl (pv_makeFunc rfl rfl) ?_))
          refine lw_varN rfl (by first | exact tyv_28 | exact tyv_29 | exact tyv_34 | exact tyv_35 | exact tyv_43 | exact tyv_44 | exact tyv_77 | exact tyv_78 | exact tyv_80 | exact tyv_81 | exact tyv_86 | exact tyv_87 | exact tyv_126 | exact tyv_127) rfl (tZ rfl) (fun _ => rfl) rfl rfl ?_; intro N5 wn hN5 H5 hb; replace hN5 := Nat.le_trans hw.size hN5; replace hw := grow_trans hw hb; clear hb
          have hwB := hw
          have hN5' := Nat.le_trans hw0.size hN5
          replace h := h.mono hw; replace H2 := H2.mono hw; replace H3 := H3.mono hw; replace H4 := H4.mono hw; clear hw; have hw := Below.refl wn.heap.size wn
          replace hw0 := grow_trans hw0 hwB
          repeat' (first | (refine lw_pure rfl (pv_move rfl) ?_) | (refine lw_pure rfl (pv_assign rfl) ?_) | (refine lw_call (f := 18) (by kernel_rfl) rfl rfl (name_is ht hq _) ?_; rintro e w1 ⟨rfl, hb⟩; refine ⟨_, rfl, ?_⟩; replace hw := grow_trans hw hb; clear hb) | (refine is_cw ?_; first | (refine cw_seq ?_) | (refine cw_region ?_) | (refine cw_true rfl rfl ?_) | (refine cw_false rfl rfl ?_) | (refine cw_true rfl (by first | assumption | exact decide_eq_true (by omega) | exact dec_notT (by omega)) ?_) | (refine cw_false rfl (by first | assumption | exact decide_eq_false (by omega) | exact dec_notF (by omega)) ?_) | (refine cw_skip ?_) | (refine cw_block ?_) | (refine cw_ret ?_)) | (refine is_qw ?_; first | (with_reducible refine qw_then ?_) | (with_reducible refine qw_in ?_) | (with_reducible refine qw_in_hit ?_) | (refine qw_in_miss rfl ?_) | (with_reducible refine qw_then_exit ?_) | (with_reducible refine qw_then_ret ?_) | (with_reducible refine qw_in_ret ?_)) | (refine lw_nil ?_) | ((refine is_bin ?_; first | (refine lw_pure rfl (pv_eql rfl rfl) ?_) | (refine lw_pure rfl (pv_neq rfl rfl) ?_) | (refine lw_pure rfl (pv_seqlD rfl rfl) ?_) | (refine lw_pure rfl (pv_sneqD rfl rfl) ?_))) | ((refine is_load ?_; first | (refine lw_pure rfl (pv_load (t1 rfl) rfl (by first | exact PT.ld0 (H2.mono hw) rfl | exact PT.ld (H2.mono hw) rfl | exact PT.ld0 (H3.mono hw) rfl | exact PT.ld (H3.mono hw) rfl | exact PT.ld0 (H4.mono hw) rfl | exact PT.ld (H4.mono hw) rfl)) ?_) | (refine lw_pure rfl (pv_loada (tA rfl) rfl (by first | exact PT.lda (H2.mono hw) | exact PT.lda (H3.mono hw) | exact PT.lda (H4.mono hw)) (by rfl)) ?_))) | ((refine is_un ?_; first | (refine lw_pure rfl (pv_not rfl) ?_))) | (refine lw_pure rfl (pv_extract rfl rfl) ?_) | (refine lw_pure rfl (pv_makeFunc rfl rfl) ?_))
          have hok : DskOk { d with fs := putF (dropF d.fs n) ⟨t, f.firm, f.pend⟩ } := by
            have hd := h.ok.drop n
            have h4 := usedF_drop h.ok.srt n
            have h5 := len_drop h.ok.srt n
            rw [hg] at h4 h5
            simp only [Option.map_some, Option.getD_some, Option.isSome_some, if_true] at h4 h5
            have h6 := h.ok.used
            have h7 := h.ok.cnt
            exact hd.put (f := ⟨t, f.firm, f.pend⟩) hq (h.ok.sizes f (getF_some hg).1) (fun _ => by dsimp only; omega) (by
              show (usedF (dropF d.fs n) : Int) + (szF f : Nat) ≤ _
              dsimp only
              omega)
          have hwa := grow_trans hw0 hw
          refine lw_call (f := 50) (by kernel_rfl) rfl rfl (do_c (g := 55) (caps := #[.pointer (some ⟨N2, 0, none⟩), .pointer (some ⟨N3, 0, none⟩), .pointer (some ⟨N5, 0, none⟩), .pointer (some ⟨N4, 0, none⟩)]) (fs := putF (dropF d.fs n) ⟨t, f.firm, f.pend⟩) (h.mono hw) hok (by kernel_rfl) (fun w1 d1 hD hf hG => by rw [← hf]; exact rename1_c hD hn ht ((H2.mono hw).gw hG (by omega) (by omega)) ((H3.mono hw).gw hG (by omega) (by omega)) ((H5.mono hw).gw hG (by omega) (by omega)) ((H4.mono hw).gw hG (by omega) (by omega)))) ?_
          rintro e1 w9 ⟨rfl, hD, hG⟩; refine ⟨_, rfl, ?_⟩
          clear hw
          have hw := Below.refl w9.heap.size w9
          repeat' (first | (refine lw_pure rfl (pv_move rfl) ?_) | (refine lw_pure rfl (pv_assign rfl) ?_) | (refine is_cw ?_; first | (refine cw_seq ?_) | (refine cw_region ?_) | (refine cw_true rfl rfl ?_) | (refine cw_false rfl rfl ?_) | (refine cw_true rfl (by first | assumption | exact decide_eq_true (by omega) | exact dec_notT (by omega)) ?_) | (refine cw_false rfl (by first | assumption | exact decide_eq_false (by omega) | exact dec_notF (by omega)) ?_) | (refine cw_skip ?_) | (refine cw_block ?_) | (refine cw_ret ?_)) | (refine is_qw ?_; first | (with_reducible refine qw_then ?_) | (with_reducible refine qw_in ?_) | (with_reducible refine qw_in_hit ?_) | (refine qw_in_miss rfl ?_) | (with_reducible refine qw_then_exit ?_) | (with_reducible refine qw_then_ret ?_) | (with_reducible refine qw_in_ret ?_)) | (refine lw_nil ?_) | ((refine is_bin ?_; first | (refine lw_pure rfl (pv_eql rfl rfl) ?_) | (refine lw_pure rfl (pv_neq rfl rfl) ?_) | (refine lw_pure rfl (pv_seqlD rfl rfl) ?_) | (refine lw_pure rfl (pv_sneqD rfl rfl) ?_))) | ((refine is_load ?_; first | (refine lw_pure rfl (pv_load (t1 rfl) rfl (by first | fail)) ?_) | (refine lw_pure rfl (pv_loada (tA rfl) rfl (by first | fail) (by rfl)) ?_))) | ((refine is_un ?_; first | (refine lw_pure rfl (pv_not rfl) ?_))) | (refine lw_pure rfl (pv_extract rfl rfl) ?_) | (refine lw_pure rfl (pv_makeFunc rfl rfl) ?_))
          exact qw_ret1 rfl rfl ⟨rfl, hD, (Gw.of_below hwa).trans hG⟩
set_option maxRecDepth 20000 in
theorem read_c {w : World} {N B : Nat} {d : Dsk} (h : DkW w N B d) {n : ByteArray} (hn : n.size ≤ 9223372036854775807) : Calls Tryd.prog 20 #[.pointer (some ⟨N, 0, none⟩), .string n] w fun e w' => e = .returned (.tuple #[.string (readD d n).1, .int .i64 (readD d n).2]) ∧ Below w.heap.size w w' := by
  have hw := Below.refl w.heap.size w
  refine fn_enter 20 Tryd.func20 rfl rfl rfl ?_
  cases hk : d.dark with
  | true =>
    rw [show readD d n = (emptyB, 45) from by unfold readD; rw [if_pos hk]]
    have hc : emptyB.size + emptyB.size ≤ 9223372036854775807 := by decide
    repeat' (first | (refine lw_pure rfl (pv_move rfl) ?_) | (refine lw_pure rfl (pv_assign rfl) ?_) | (refine lw_call (f := 45) (by kernel_rfl) rfl rfl (find45_c (h.mono hw) hk n) ?_; rintro e w1 ⟨rfl, hb⟩; refine ⟨_, rfl, ?_⟩; replace hw := grow_trans hw hb; clear hb) | (refine is_cw ?_; first | (refine cw_seq ?_) | (refine cw_region ?_) | (refine cw_ret ?_)) | (refine is_qw ?_; first | (with_reducible refine qw_then ?_) | (with_reducible refine qw_then_ret ?_)) | (refine lw_nil ?_) | ((refine is_bin ?_; first | (refine lw_pure rfl (pv_inc rfl rfl (by omega)) ?_) | (refine lw_pure rfl (pv_add rfl rfl (by omega)) ?_))) | ((refine is_load ?_; first | (refine lw_pure rfl (pv_load (t1 rfl) rfl (by first | fail)) ?_) | (refine lw_pure rfl (pv_loada (tA rfl) rfl (by first | fail) (by rfl)) ?_))) | ((refine is_fa ?_; first | (refine lw_pure rfl (pv_fa (tF rfl) rfl) ?_))) | (refine lw_pure rfl (pv_extract rfl rfl) ?_))
    refine lw_varN rfl (by first | exact tyv_28 | exact tyv_29 | exact tyv_34 | exact tyv_35 | exact tyv_43 | exact tyv_44 | exact tyv_77 | exact tyv_78 | exact tyv_80 | exact tyv_81 | exact tyv_86 | exact tyv_87 | exact tyv_126 | exact tyv_127) rfl (tZ rfl) (fun _ => rfl) rfl rfl ?_; intro N5 wn hN5 H5 hb; replace hN5 := Nat.le_trans hw.size hN5; replace hw := grow_trans hw hb; clear hb
    repeat' (first | (refine lw_pure rfl (pv_move rfl) ?_) | (refine lw_pure rfl (pv_assign rfl) ?_) | (refine is_cw ?_; first | (refine cw_seq ?_) | (refine cw_region ?_) | (refine cw_ret ?_)) | (refine is_qw ?_; first | (with_reducible refine qw_then ?_) | (with_reducible refine qw_then_ret ?_)) | (refine lw_nil ?_) | ((refine is_bin ?_; first | (refine lw_pure rfl (pv_cat rfl rfl hc) ?_) | (refine lw_pure rfl (pv_inc rfl rfl (by omega)) ?_) | (refine lw_pure rfl (pv_add rfl rfl (by omega)) ?_))) | ((refine is_load ?_; first | (refine lw_pure rfl (pv_load (t1 rfl) rfl (by first | exact PT.ld0 H5 rfl | exact PT.ld H5 rfl)) ?_) | (refine lw_pure rfl (pv_loada (tA rfl) rfl (by first | exact PT.lda H5) (by rfl)) ?_))) | ((refine is_fa ?_; first | (refine lw_pure rfl (pv_fa (tF rfl) rfl) ?_))) | (refine lw_pure rfl (pv_extract rfl rfl) ?_))
    exact qw_ret2 rfl rfl rfl ⟨rfl, hw⟩
  | false =>
    cases hg : getF d.fs n with
    | none =>
      rw [show readD d n = (emptyB, 5) from by unfold readD; rw [hk, if_neg (by simp), hg]]
      have hc : emptyB.size + emptyB.size ≤ 9223372036854775807 := by decide
      repeat' (first | (refine lw_pure rfl (pv_move rfl) ?_) | (refine lw_pure rfl (pv_assign rfl) ?_) | (refine lw_call (f := 45) (by kernel_rfl) rfl rfl (find5_c (h.mono hw) hk hn hg) ?_; rintro e w1 ⟨rfl, hb⟩; refine ⟨_, rfl, ?_⟩; replace hw := grow_trans hw hb; clear hb) | (refine is_cw ?_; first | (refine cw_seq ?_) | (refine cw_region ?_) | (refine cw_ret ?_)) | (refine is_qw ?_; first | (with_reducible refine qw_then ?_) | (with_reducible refine qw_then_ret ?_)) | (refine lw_nil ?_) | ((refine is_bin ?_; first | (refine lw_pure rfl (pv_inc rfl rfl (by omega)) ?_) | (refine lw_pure rfl (pv_add rfl rfl (by omega)) ?_))) | ((refine is_load ?_; first | (refine lw_pure rfl (pv_load (t1 rfl) rfl (by first | fail)) ?_) | (refine lw_pure rfl (pv_loada (tA rfl) rfl (by first | fail) (by rfl)) ?_))) | ((refine is_fa ?_; first | (refine lw_pure rfl (pv_fa (tF rfl) rfl) ?_))) | (refine lw_pure rfl (pv_extract rfl rfl) ?_))
      refine lw_varN rfl (by first | exact tyv_28 | exact tyv_29 | exact tyv_34 | exact tyv_35 | exact tyv_43 | exact tyv_44 | exact tyv_77 | exact tyv_78 | exact tyv_80 | exact tyv_81 | exact tyv_86 | exact tyv_87 | exact tyv_126 | exact tyv_127) rfl (tZ rfl) (fun _ => rfl) rfl rfl ?_; intro N5 wn hN5 H5 hb; replace hN5 := Nat.le_trans hw.size hN5; replace hw := grow_trans hw hb; clear hb
      repeat' (first | (refine lw_pure rfl (pv_move rfl) ?_) | (refine lw_pure rfl (pv_assign rfl) ?_) | (refine is_cw ?_; first | (refine cw_seq ?_) | (refine cw_region ?_) | (refine cw_ret ?_)) | (refine is_qw ?_; first | (with_reducible refine qw_then ?_) | (with_reducible refine qw_then_ret ?_)) | (refine lw_nil ?_) | ((refine is_bin ?_; first | (refine lw_pure rfl (pv_cat rfl rfl hc) ?_) | (refine lw_pure rfl (pv_inc rfl rfl (by omega)) ?_) | (refine lw_pure rfl (pv_add rfl rfl (by omega)) ?_))) | ((refine is_load ?_; first | (refine lw_pure rfl (pv_load (t1 rfl) rfl (by first | exact PT.ld0 H5 rfl | exact PT.ld H5 rfl)) ?_) | (refine lw_pure rfl (pv_loada (tA rfl) rfl (by first | exact PT.lda H5) (by rfl)) ?_))) | ((refine is_fa ?_; first | (refine lw_pure rfl (pv_fa (tF rfl) rfl) ?_))) | (refine lw_pure rfl (pv_extract rfl rfl) ?_))
      exact qw_ret2 rfl rfl rfl ⟨rfl, hw⟩
    | some f =>
      rw [show readD d n = (f.firm ++ f.pend, 0) from by unfold readD; rw [hk, if_neg (by simp), hg]]
      have hc : f.firm.size + f.pend.size ≤ 9223372036854775807 := by have := getF_sz h.ok hg; omega
      repeat' (first | (refine lw_pure rfl (pv_move rfl) ?_) | (refine lw_pure rfl (pv_assign rfl) ?_) | (refine lw_call (f := 45) (by kernel_rfl) rfl rfl (find0_c (h.mono hw) hk hn hg) ?_; rintro e w1 ⟨rfl, hb⟩; refine ⟨_, rfl, ?_⟩; replace hw := grow_trans hw hb; clear hb) | (refine is_cw ?_; first | (refine cw_seq ?_) | (refine cw_region ?_) | (refine cw_ret ?_)) | (refine is_qw ?_; first | (with_reducible refine qw_then ?_) | (with_reducible refine qw_then_ret ?_)) | (refine lw_nil ?_) | ((refine is_bin ?_; first | (refine lw_pure rfl (pv_inc rfl rfl (by omega)) ?_) | (refine lw_pure rfl (pv_add rfl rfl (by omega)) ?_))) | ((refine is_load ?_; first | (refine lw_pure rfl (pv_load (t1 rfl) rfl (by first | fail)) ?_) | (refine lw_pure rfl (pv_loada (tA rfl) rfl (by first | fail) (by rfl)) ?_))) | ((refine is_fa ?_; first | (refine lw_pure rfl (pv_fa (tF rfl) rfl) ?_))) | (refine lw_pure rfl (pv_extract rfl rfl) ?_))
      refine lw_varN rfl (by first | exact tyv_28 | exact tyv_29 | exact tyv_34 | exact tyv_35 | exact tyv_43 | exact tyv_44 | exact tyv_77 | exact tyv_78 | exact tyv_80 | exact tyv_81 | exact tyv_86 | exact tyv_87 | exact tyv_126 | exact tyv_127) rfl (tZ rfl) (fun _ => rfl) rfl rfl ?_; intro N5 wn hN5 H5 hb; replace hN5 := Nat.le_trans hw.size hN5; replace hw := grow_trans hw hb; clear hb
      repeat' (first | (refine lw_pure rfl (pv_move rfl) ?_) | (refine lw_pure rfl (pv_assign rfl) ?_) | (refine is_cw ?_; first | (refine cw_seq ?_) | (refine cw_region ?_) | (refine cw_ret ?_)) | (refine is_qw ?_; first | (with_reducible refine qw_then ?_) | (with_reducible refine qw_then_ret ?_)) | (refine lw_nil ?_) | ((refine is_bin ?_; first | (refine lw_pure rfl (pv_cat rfl rfl hc) ?_) | (refine lw_pure rfl (pv_inc rfl rfl (by omega)) ?_) | (refine lw_pure rfl (pv_add rfl rfl (by omega)) ?_))) | ((refine is_load ?_; first | (refine lw_pure rfl (pv_load (t1 rfl) rfl (by first | exact PT.ld0 H5 rfl | exact PT.ld H5 rfl)) ?_) | (refine lw_pure rfl (pv_loada (tA rfl) rfl (by first | exact PT.lda H5) (by rfl)) ?_))) | ((refine is_fa ?_; first | (refine lw_pure rfl (pv_fa (tF rfl) rfl) ?_))) | (refine lw_pure rfl (pv_extract rfl rfl) ?_))
      exact qw_ret2 rfl rfl rfl ⟨rfl, hw⟩
set_option maxRecDepth 20000 in
theorem cut_c {w : World} {N B : Nat} {d : Dsk} (h : DkW w N B d) {k : Int} (hm : k ≤ 9223372036854775807) : Calls Tryd.prog 29 #[.pointer (some ⟨N, 0, none⟩), .int .i64 k] w fun e w' => e = .returned (.int .i64 (cutD d k).1) ∧ DkW w' N B (cutD d k).2 ∧ Gw N B w w' := by
  have hw := Below.refl w.heap.size w
  have hw0 := hw
  refine fn_enter 19 Tryd.func29 rfl rfl rfl ?_
  cases hk : d.dark with
  | true =>
    rw [show cutD d k = (45, d) from by unfold cutD; rw [if_pos hk]]
    repeat' (first | (refine lw_pure rfl (pv_move rfl) ?_) | (refine lw_pure rfl (pv_assign rfl) ?_) | (refine lw_call (f := 44) (by kernel_rfl) rfl rfl (down1_c (h.mono hw) hk) ?_; rintro e w1 ⟨rfl, hb⟩; refine ⟨_, rfl, ?_⟩; replace hw := grow_trans hw hb; clear hb) | (refine is_cw ?_; first | (refine cw_seq ?_) | (refine cw_region ?_) | (refine cw_true rfl rfl ?_) | (refine cw_false rfl rfl ?_) | (refine cw_true rfl (by first | assumption | exact decide_eq_true (by omega) | exact dec_notT (by omega)) ?_) | (refine cw_false rfl (by first | assumption | exact decide_eq_false (by omega) | exact dec_notF (by omega)) ?_) | (refine cw_skip ?_) | (refine cw_block ?_) | (refine cw_ret ?_)) | (refine is_qw ?_; first | (with_reducible refine qw_then ?_) | (with_reducible refine qw_in ?_) | (with_reducible refine qw_in_hit ?_) | (refine qw_in_miss rfl ?_) | (with_reducible refine qw_then_exit ?_) | (with_reducible refine qw_then_ret ?_) | (with_reducible refine qw_in_ret ?_)) | (refine lw_nil ?_) | ((refine is_bin ?_; first | (refine lw_pure rfl (pv_lss rfl rfl) ?_) | (refine lw_pure rfl (pv_neq rfl rfl) ?_))) | ((refine is_fa ?_; first | (refine lw_pure rfl (pv_fa (tF rfl) rfl) ?_))) | (refine lw_pure rfl (pv_nilp rfl) ?_) | (refine lw_pure0 (pv_nilp rfl) ?_))
    exact qw_ret1 rfl rfl ⟨rfl, h.mono hw, Gw.of_below (grow_trans hw0 hw)⟩
  | false =>
    by_cases h1 : k < 0
    · rw [show cutD d k = (1, d) from by unfold cutD; rw [hk, if_neg (by simp), if_pos h1]]
      repeat' (first | (refine lw_pure rfl (pv_move rfl) ?_) | (refine lw_pure rfl (pv_assign rfl) ?_) | (refine lw_call (f := 44) (by kernel_rfl) rfl rfl (down0_c (h.mono hw) hk) ?_; rintro e w1 ⟨rfl, hb⟩; refine ⟨_, rfl, ?_⟩; replace hw := grow_trans hw hb; clear hb) | (refine is_cw ?_; first | (refine cw_seq ?_) | (refine cw_region ?_) | (refine cw_true rfl rfl ?_) | (refine cw_false rfl rfl ?_) | (refine cw_true rfl (by first | assumption | exact decide_eq_true (by omega) | exact dec_notT (by omega)) ?_) | (refine cw_false rfl (by first | assumption | exact decide_eq_false (by omega) | exact dec_notF (by omega)) ?_) | (refine cw_skip ?_) | (refine cw_block ?_) | (refine cw_ret ?_)) | (refine is_qw ?_; first | (with_reducible refine qw_then ?_) | (with_reducible refine qw_in ?_) | (with_reducible refine qw_in_hit ?_) | (refine qw_in_miss rfl ?_) | (with_reducible refine qw_then_exit ?_) | (with_reducible refine qw_then_ret ?_) | (with_reducible refine qw_in_ret ?_)) | (refine lw_nil ?_) | ((refine is_bin ?_; first | (refine lw_pure rfl (pv_lss rfl rfl) ?_) | (refine lw_pure rfl (pv_neq rfl rfl) ?_))) | ((refine is_fa ?_; first | (refine lw_pure rfl (pv_fa (tF rfl) rfl) ?_))) | (refine lw_pure rfl (pv_nilp rfl) ?_) | (refine lw_pure0 (pv_nilp rfl) ?_))
      exact qw_ret1 rfl rfl ⟨rfl, h.mono hw, Gw.of_below (grow_trans hw0 hw)⟩
    · have hok := h.ok.cut hm
      have e : cutD d k = (0, { d with left := k }) := by unfold cutD; rw [hk, if_neg (by simp), if_neg h1]
      rw [e] at hok ⊢
      have H := h.obj
      repeat' (first | (refine lw_pure rfl (pv_move rfl) ?_) | (refine lw_pure rfl (pv_assign rfl) ?_) | (refine lw_call (f := 44) (by kernel_rfl) rfl rfl (down0_c (h.mono hw) hk) ?_; rintro e w1 ⟨rfl, hb⟩; refine ⟨_, rfl, ?_⟩; replace hw := grow_trans hw hb; clear hb) | (refine is_cw ?_; first | (refine cw_seq ?_) | (refine cw_region ?_) | (refine cw_true rfl rfl ?_) | (refine cw_false rfl rfl ?_) | (refine cw_true rfl (by first | assumption | exact decide_eq_true (by omega) | exact dec_notT (by omega)) ?_) | (refine cw_false rfl (by first | assumption | exact decide_eq_false (by omega) | exact dec_notF (by omega)) ?_) | (refine cw_skip ?_) | (refine cw_block ?_) | (refine cw_ret ?_)) | (refine is_qw ?_; first | (with_reducible refine qw_then ?_) | (with_reducible refine qw_in ?_) | (with_reducible refine qw_in_hit ?_) | (refine qw_in_miss rfl ?_) | (with_reducible refine qw_then_exit ?_) | (with_reducible refine qw_then_ret ?_) | (with_reducible refine qw_in_ret ?_)) | (refine lw_nil ?_) | ((refine is_bin ?_; first | (refine lw_pure rfl (pv_lss rfl rfl) ?_) | (refine lw_pure rfl (pv_neq rfl rfl) ?_))) | ((refine is_fa ?_; first | (refine lw_pure rfl (pv_fa (tF rfl) rfl) ?_))) | (refine lw_pure rfl (pv_nilp rfl) ?_) | (refine lw_pure0 (pv_nilp rfl) ?_))
      refine lw_store (H.mono hw) (tZ rfl) rfl rfl rfl (by simp) ?_; intro w5 H5 hg5 hz5
      have hG := (Gw.of_below (a := N) (b := B) hw).trans (Gw.of_a hg5)
      have hD := grown_pt (d' := { d with left := k }) (h.mono hw) hg5 H5 rfl hok
      repeat' (first | (refine lw_pure rfl (pv_move rfl) ?_) | (refine lw_pure rfl (pv_assign rfl) ?_) | (refine is_cw ?_; first | (refine cw_seq ?_) | (refine cw_region ?_) | (refine cw_true rfl rfl ?_) | (refine cw_false rfl rfl ?_) | (refine cw_true rfl (by first | assumption | exact decide_eq_true (by omega) | exact dec_notT (by omega)) ?_) | (refine cw_false rfl (by first | assumption | exact decide_eq_false (by omega) | exact dec_notF (by omega)) ?_) | (refine cw_skip ?_) | (refine cw_block ?_) | (refine cw_ret ?_)) | (refine is_qw ?_; first | (with_reducible refine qw_then ?_) | (with_reducible refine qw_in ?_) | (with_reducible refine qw_in_hit ?_) | (refine qw_in_miss rfl ?_) | (with_reducible refine qw_then_exit ?_) | (with_reducible refine qw_then_ret ?_) | (with_reducible refine qw_in_ret ?_)) | (refine lw_nil ?_) | ((refine is_bin ?_; first | (refine lw_pure rfl (pv_lss rfl rfl) ?_) | (refine lw_pure rfl (pv_neq rfl rfl) ?_))) | ((refine is_fa ?_; first | (refine lw_pure rfl (pv_fa (tF rfl) rfl) ?_))) | (refine lw_pure rfl (pv_nilp rfl) ?_) | (refine lw_pure0 (pv_nilp rfl) ?_))
      exact qw_ret1 rfl rfl ⟨rfl, hD, hG⟩
end Go.Proofs.YtncicecmhibpcaaDoor
