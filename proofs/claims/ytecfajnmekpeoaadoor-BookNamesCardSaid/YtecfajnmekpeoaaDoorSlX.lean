/-
  Contract of slices.Delete at []api.Order, of one place, on a slice that the call owns. Conditions: those that the theorem names.
-/
import Derived.Test.YtecfajnmekpeoaaDoorSlC
import Derived.Deep.RegionLaw
namespace Go.Proofs.YtecfajnmekpeoaaDoor
open Go.RowKit

theorem grownBy_trans {W W' W'' : World} {row : Option Nat} (h : W.grownBy W' row) (k : W'.grownBy W'' row) : W.grownBy W'' row :=
  ⟨k.os.trans h.os, k.tape.trans h.tape, k.output.trans h.output, Nat.le_trans h.size k.size, fun i hi hn => (k.block i (Nat.lt_of_lt_of_le hi h.size) hn).trans (h.block i hi hn)⟩
/-- an append with room, at a step of a region that draws its order, on a block known whole -/
theorem step_append_row {P : Program} {ops : Array Oper} {o : Oper} {a : Act} {w : World} {K : Act → World → Prop} {Q : Exit → Act → World → Prop} {E : Prop}
    (hgd : o.guard = none) (s x : Operand) (t : TypeId) (hop : o.op = Op.call { callee := Callee.builtin Builtin.append, args := #[s, x], argTypes := #[t, t] })
    (e : TypeId) (i : TypeInfo) (size : Nat) (h1 : P.underlying t = some (.slice e)) (h2 : P.info? e = some i) (h4 : i.size = size)
    (g n cap : Nat) (cur : Array Value) (hg : w.heap[g]? = some (.cells cur e (0, 0))) (hs : a.eval s = .slice (some ⟨g, 0, none⟩) n cap)
    (ad : Addr) (m c : Nat) (news : List Value) (hx : a.eval x = .slice (some ad) m c) (hn : news.length = m * size) (hc : ∀ j u, news[j]? = some u → w.cell? (ad.add j) = some u) (h1c : ∀ u ∈ news, u.oneCell' = true)
    (hroom : n + m ≤ cap) (hfit : n * size + news.length ≤ cur.size)
    (hK : K (a.put o.dst (.slice (some ⟨g, 0, none⟩) (n + m) cap)) (w.setRow g (cur.toList.take (n * size) ++ (news ++ cur.toList.drop (n * size + news.length))).toArray)) :
    if Region.wanted o (yielded ops a.tmps) = true then Oper.wp P o a w K Q else E := by
  have hw : Region.wanted o (yielded ops a.tmps) = true := by simp [Region.wanted, hgd]
  rw [if_pos hw]
  subst h4
  have hrun := run_append_room (P := P) w t o.type e i h1 h2 g n cap cur hg ad m c news hn hc h1c hroom hfit
  unfold Oper.wp
  simp [execOp, hop, resolve, invoke, builtin, hs, hx, hrun, Result.andThen]
  exact hK
/-- what stands behind place i is moved one place down; the last one stands twice -/
theorem Own.shift {base : Nat} {w : World} {g cap : Nat} {xs : List Ord} (h : OwnO base w (.slice (some ⟨g, 0, none⟩) xs.length cap) xs) {cur : Array Value} (hg : w.heap[g]? = some (.cells cur 23 (0, 0))) {i : Nat} (hi : i < xs.length) (last : Ord) (hl : xs[xs.length - 1]? = some last) (w' : World)
    (hw : w' = w.setRow g (cur.toList.take (i * 6) ++ ((xs.drop (i + 1)).flatMap encO ++ cur.toList.drop (i * 6 + ((xs.drop (i + 1)).flatMap encO).length))).toArray) :
    OwnO base w' (.slice (some ⟨g, 0, none⟩) (xs.eraseIdx i ++ [last]).length cap) (xs.eraseIdx i ++ [last]) ∧ w.grownBy w' (some g) := by
  obtain ⟨cur', hb, hg', hle, hmax, hsz, htk⟩ : ∃ cur, base ≤ g ∧ w.heap[g]? = some (.cells cur 23 (0, 0)) ∧ xs.length ≤ cap ∧ cap ≤ maxLen ∧ cur.size = cap * 6 ∧ cur.toList.take (xs.length * 6) = xs.flatMap encO := by
    obtain ⟨h1, h2⟩ := h
    rcases h2 with ⟨h2, _⟩ | ⟨g', cap', cur, e1, hb, hg, hle, hmax, hsz, htk⟩
    · cases h2
    · injection e1 with e1 _ e3
      injection e1 with e1; injection e1 with e1
      subst e1; subst e3
      exact ⟨cur, hb, hg, hle, hmax, hsz, htk⟩
  rw [hg] at hg'
  injection hg' with hg'; injection hg' with hg' _ _
  subst hg'
  have hln : ((xs.drop (i + 1)).flatMap encO).length = (xs.length - (i + 1)) * 6 := by rw [flat_len encO 6 encO_len, List.length_drop]
  have hel : (xs.eraseIdx i ++ [last]).length = xs.length := by rw [List.length_append, List.length_eraseIdx_of_lt hi]; simp; omega
  rw [← List.append_assoc] at hw
  subst hw
  refine ⟨⟨by rw [flat_len encO 6 encO_len], Or.inr ⟨g, cap, _, rfl, hb, setRow_heap w g cur _ 23 _ hg, by rw [hel]; exact hle, hmax, ?_, ?_⟩⟩, ⟨rfl, rfl, rfl, by simp, fun q hq hne => setRow_other w g q _ (fun e => hne (by rw [e]))⟩⟩
  · simp only [List.size_toArray, List.length_append, List.length_take, List.length_drop, Array.length_toList, hln, hsz]
    omega
  · rw [hel, hln]
    have l1 : (cur.toList.take (i * 6)).length = i * 6 := by rw [List.length_take, Array.length_toList, hsz]; omega
    have e1 : cur.toList.take (i * 6) = (xs.take i).flatMap encO := by rw [← flat_take encO 6 encO_len, ← htk, List.take_take, Nat.min_eq_left (by omega)]
    have e2 : (cur.toList.drop (i * 6 + (xs.length - (i + 1)) * 6)).take 6 = encO last := by
      have h3 := flat_drop encO 6 encO_len xs (xs.length - 1)
      rw [← htk, List.drop_take] at h3
      have h4 : xs.drop (xs.length - 1) = [last] := by
        obtain ⟨h5, h6⟩ := List.getElem?_eq_some_iff.1 hl
        rw [List.drop_eq_getElem_cons h5, h6, List.drop_of_length_le (by omega)]
      rw [h4] at h3
      rw [show i * 6 + (xs.length - (i + 1)) * 6 = (xs.length - 1) * 6 by omega]
      rw [show xs.length * 6 - (xs.length - 1) * 6 = 6 by omega] at h3
      rw [h3]; simp
    rw [List.take_append, List.take_of_length_le (by rw [List.length_append, l1, hln]; omega), List.length_append, l1, hln, show xs.length * 6 - (i * 6 + (xs.length - (i + 1)) * 6) = 6 by omega, e2, e1]
    rw [List.flatMap_append, List.eraseIdx_eq_take_drop_succ, List.flatMap_append]
    simp

set_option maxHeartbeats 4000000 in
set_option maxRecDepth 100000 in
theorem delete_O (base g cap : Nat) (xs : List Ord) (i : Nat) (w : World) (hown : OwnO base w (.slice (some ⟨g, 0, none⟩) xs.length cap) xs) (hi : i < xs.length) (hB : base ≤ w.heap.size) :
    Calls Tryd.prog 50 #[.slice (some ⟨g, 0, none⟩) xs.length cap, .int .i64 i, .int .i64 ((i : Int) + 1)] w fun e w' =>
      ∃ r, e = .returned r ∧ OwnO base w' r (xs.eraseIdx i) ∧ Below base w w' := by
  obtain ⟨i0, hi0, hz0, hz1, hz2⟩ := info_parts infoO
  obtain ⟨cur, hg, hle, hmax, hsz, htk⟩ := Own.heap hown
  have hglt : g < w.heap.size := (Array.getElem?_eq_some_iff.1 hg).1
  have hbg : base ≤ g := (Own.lt hown g rfl).1
  obtain ⟨last, hlast⟩ : ∃ last, xs[xs.length - 1]? = some last := ⟨_, List.getElem?_eq_getElem (by omega)⟩
  have hsh := fun w' => Own.shift (w := w.drew) hown hg hi last hlast w'
  have hln : ((xs.drop (i + 1)).flatMap encO).length = (xs.length - (i + 1)) * 6 := by rw [flat_len encO 6 encO_len, List.length_drop]
  have hcells : ∀ j u, ((xs.drop (i + 1)).flatMap encO)[j]? = some u → w.cell? ⟨g, (i + 1) * 6 + j, none⟩ = some u := fun j u hj => by
    rw [← flat_drop encO 6 encO_len, List.getElem?_drop, ← htk, List.getElem?_take] at hj
    split at hj
    · rw [cell_of_row w g _ cur 23 (0, 0) hg]; simpa using hj
    · cases hj
  have hone : ∀ u ∈ (xs.drop (i + 1)).flatMap encO, u.oneCell' = true := fun u hu => by
    obtain ⟨o, _, ho⟩ := List.mem_flatMap.1 hu
    exact encO_one o u ho
  generalize hnews : (xs.drop (i + 1)).flatMap encO = news at hsh hln hcells hone
  have HSH := Lib.hid hsh; clear hsh
  have HCE := Lib.hid hcells; clear hcells
  have HON := Lib.hid hone; clear hone
  have HLN := Lib.hid hln; clear hln
  clear hnews hlast htk hown
  have hel : (xs.eraseIdx i).length = xs.length - 1 := List.length_eraseIdx_of_lt hi
  have HEL := Lib.hid hel; clear hel
  obtain ⟨n, hn⟩ : ∃ n, n = xs.length := ⟨_, rfl⟩
  rw [← hn] at hle hi ⊢
  have HN := Lib.hid hn; clear hn
  have HSZ := Lib.hid hsz; clear hsz
  have HGc := Lib.hid hg; clear hg
  have h1 : ((i : Int) == ((i : Int) + 1)) = false := beq_eq_false_iff_ne.2 (by omega)
  have h2 : (i : Int) ≤ (n : Int) := by omega
  have h3 : (i : Int) + 1 ≤ (n : Int) := by omega
  have h4 : (0 : Int) ≤ (i : Int) + 1 := by omega
  have h5 : ((i : Int) + 1).toNat = i + 1 := by omega
  have h6 : (i : Int) ≤ (i : Int) + 1 := by omega
  have h7 : i ≤ cap := by omega
  by_cases hc : cap = i + 1
  · subst hc
    obtain rfl : n = i + 1 := by omega
    have hnil : news = [] := List.eq_nil_of_length_eq_zero (by rw [HLN.out, ← HN.out]; omega)
    have HNIL := Lib.hid hnil; clear hnil
    go_enter Tryd.func50, Tryd.ntmps50
    go_wp2_with fail
    go_region_law (refine step_append_row rfl (.tmp 22) (.tmp 25) 31 rfl 23 i0 6 Tryd.underlying31 hi0 hz1 g i (i + 1) cur HGc.out (by simp [Act.eval, Act.put]) ⟨g, 0, none⟩ 0 0 news (by simp [Act.eval, Act.put]) (by rw [HNIL.out]; rfl) (fun j u hj => by rw [HNIL.out] at hj; simp at hj) HON.out (by omega) (by rw [HNIL.out, HSZ.out]; simp; omega) ?_)
    obtain ⟨ho2, hg2⟩ := HSH.out _ rfl
    have hc2 : i < (xs.eraseIdx i ++ [last]).length := by rw [List.length_append, HEL.out, ← HN.out]; simp
    have hlen2 : (xs.eraseIdx i ++ [last]).length = i + 1 := by rw [List.length_append, HEL.out, ← HN.out]; simp
    have htake : (xs.eraseIdx i ++ [last]).take i = xs.eraseIdx i := by
      rw [List.take_append_of_le_length (by rw [HEL.out, ← HN.out]; omega), List.take_of_length_le (by rw [HEL.out, ← HN.out]; omega)]
    obtain ⟨w3, hcl, hg3, ho3⟩ := run_clearO ho2 hc2
    rw [hlen2, show i + 1 - i = 1 by omega] at hcl
    rw [htake] at ho3
    have HCL := Lib.hid ho3
    have HG2 := Lib.hid (grownBy_trans hg2 hg3)
    clear hg2 hg3 ho2 ho3 htake hc2 hlen2
    rw [Nat.add_zero]
    have j1 : ¬ (i + 1 = i) := by omega
    generalize w.drew.setRow g _ = W2 at *
    go_wp2
    go_ret
    exact ⟨_, rfl, HCL.out, (Below.drew (Below.refl base w)).trans (below_own (w := w.drew) HG2.out (by simpa using hB) (fun k hk => by injection hk with hk; omega))⟩
  · go_enter Tryd.func50, Tryd.ntmps50
    go_wp2_with fail
    go_region_law (refine step_append_row rfl (.tmp 22) (.tmp 25) 31 rfl 23 i0 6 Tryd.underlying31 hi0 hz1 g i cap cur HGc.out (by simp [Act.eval, Act.put]) ⟨g, (i + 1) * 6, none⟩ (n - (i + 1)) (cap - (i + 1)) news (by simp [Act.eval, Act.put]) (by rw [HLN.out, HN.out]) (fun j u hj => by rw [Addr.add_lit]; exact HCE.out j u hj) HON.out (by omega) (by rw [HLN.out, HSZ.out, ← HN.out]; omega) ?_)
    obtain ⟨ho2, hg2⟩ := HSH.out _ rfl
    have hc2 : n - 1 < (xs.eraseIdx i ++ [last]).length := by rw [List.length_append, HEL.out, ← HN.out]; simp
    have hlen2 : (xs.eraseIdx i ++ [last]).length = n := by rw [List.length_append, HEL.out, ← HN.out]; simp; omega
    obtain ⟨m, rfl⟩ : ∃ m, n = m + 1 := ⟨n - 1, by omega⟩
    have htake : (xs.eraseIdx i ++ [last]).take m = xs.eraseIdx i := by
      rw [List.take_append_of_le_length (by rw [HEL.out, ← HN.out]; omega), List.take_of_length_le (by rw [HEL.out, ← HN.out]; omega)]
    obtain ⟨w3, hcl, hg3, ho3⟩ := run_clearO ho2 hc2
    rw [hlen2, show m + 1 - 1 = m by omega, show m + 1 - m = 1 by omega] at hcl
    rw [show m + 1 - 1 = m by omega, htake] at ho3
    have HCL := Lib.hid ho3
    have HG2 := Lib.hid (grownBy_trans hg2 hg3)
    clear hg2 hg3 ho2 ho3 htake hc2 hlen2
    have e1 : i + (m + 1 - (i + 1)) = m := by omega
    rw [e1]
    have j1 : ¬ cap = m := by omega
    have j2 : (m : Int) ≤ (m : Int) + 1 := by omega
    have j3 : m + 1 ≤ cap := by omega
    clear e1
    generalize w.drew.setRow g _ = W2 at *
    go_wp2
    go_ret
    exact ⟨_, rfl, HCL.out, (Below.drew (Below.refl base w)).trans (below_own (w := w.drew) HG2.out (by simpa using hB) (fun k hk => by injection hk with hk; omega))⟩
end Go.Proofs.YtecfajnmekpeoaaDoor
