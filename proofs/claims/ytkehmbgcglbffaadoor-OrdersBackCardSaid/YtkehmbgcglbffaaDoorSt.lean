/-
  Texts over the walker: a byte, a range over a text of plain letters, bytes of a text. Conditions: what each law names.
-/
import Derived.Test.YtkehmbgcglbffaaDoorSk
import Derived.PlainAid
import Derived.Lib.ConvBytes
import Derived.Laws.RangeString
namespace Go.Proofs.YtkehmbgcglbffaaDoor
open Go.RowKit Go.PlainAid

def bytesI (s : ByteArray) : List Int := s.data.toList.map fun b => (b.toNat : Int)
theorem bytesI_len (s : ByteArray) : (bytesI s).length = s.size := by simp [bytesI]
theorem bytesI_get (s : ByteArray) {i : Nat} (h : i < s.size) : (bytesI s)[i]? = some (bt s i) := by
  have h' : i < s.data.size := h
  unfold bytesI bt
  rw [List.getElem?_map, dif_pos h, Array.getElem?_toList, Array.getElem?_eq_getElem h']; rfl
theorem bytesI_take (s : ByteArray) {i : Nat} (h : i < s.size) : (bytesI s).take (i + 1) = (bytesI s).take i ++ [bt s i] := by
  rw [List.take_add_one, bytesI_get s h]; rfl
theorem bytesI_inj {a b : ByteArray} (h : bytesI a = bytesI b) : a = b := by
  have h2 : a.data.toList = b.data.toList := by
    unfold bytesI at h
    exact (List.map_inj_right (fun x y e => UInt8.toNat_inj.1 (by exact_mod_cast e))).1 h
  cases a; cases b
  simp only at h2
  rw [show (_ : Array UInt8) = _ from Array.toList_inj.1 h2]
theorem bytesI_bd (s : ByteArray) : ∀ x ∈ bytesI s, 0 ≤ x ∧ x ≤ 255 := by
  intro x hx
  simp only [bytesI, List.mem_map] at hx
  obtain ⟨b, _, rfl⟩ := hx
  have := b.toNat_lt
  omega
def encI (n : Int) : List Value := [.int .i64 n]
theorem encI_len (n : Int) : (encI n).length = 1 := rfl
theorem encI_one (n : Int) : ∀ v ∈ encI n, v.oneCell' = true := by intro v hv; simp [encI] at hv; subst hv; rfl
theorem elem_of {P : Program} {S T : TypeId} {k nb : Nat} (hs : P.underlying S = some (.slice T)) (h : (P.info? T).map (fun i => (i.zero.map (fun z => z.cells.size), i.size, i.bytes)) = some (some k, k, nb)) (hk : 0 < k) : ElemT P S T k nb := ⟨hs, by
  cases hi : P.info? T with
  | none => rw [hi] at h; simp at h
  | some i =>
    rw [hi] at h
    simp only [Option.map_some, Option.some.injEq, Prod.mk.injEq] at h
    cases hz : i.zero with
    | none => rw [hz] at h; simp at h
    | some z => rw [hz] at h; simp at h; exact ⟨i, z, rfl, hz, h.2.1, h.2.2, h.1⟩, hk⟩
def encT (x : ByteArray) : List Value := [.string x]
theorem encT_len (x : ByteArray) : (encT x).length = 1 := rfl
theorem encT_one (x : ByteArray) : ∀ v ∈ encT x, v.oneCell' = true := by intro v hv; simp [encT] at hv; subst hv; rfl
def encB (x : Int) : List Value := [.int .u8 x]
theorem encB_len (x : Int) : (encB x).length = 1 := rfl
theorem encB_one (x : Int) : ∀ v ∈ encB x, v.oneCell' = true := by intro v hv; simp [encB] at hv; subst hv; rfl
/-- plain letters -/
def Asc (s : ByteArray) : Prop := ∀ x ∈ bytesI s, x < 128
theorem bt_mem {s : ByteArray} {i : Nat} (h : i < s.size) : bt s i ∈ bytesI s := List.mem_of_getElem? (bytesI_get s h)
theorem decode_asc {s : ByteArray} {i : Nat} (h : i < s.size) (ha : Asc s) : Utf8.decode s i = ((bt s i).toNat, 1) := by
  have h1 := ha _ (bt_mem h)
  have e := get_bt s i h
  have h3 : (s[i]).toNat = (bt s i).toNat := by omega
  rw [decode_ascii s i h (by omega), h3]
section
variable {P : Program} {n : Nat} {l : Fr} {w : World} {Q : Exit → Act → World → Prop}
theorem is_seqb {i : Nat} {c y : Code} (h : CW P n (.seq (.block i c) y) Q l w) : CW P n (.seq (.block i c) y) Q l w := h
theorem is_blk {i : Nat} {c : Code} (h : CW P n (.block i c) Q l w) : CW P n (.block i c) Q l w := h
end
/-- an iterator at block I over a text, at a place -/
def ItS (w : World) (I : Nat) (s : ByteArray) (p : Nat) : Prop := w.heap[I]? = some (.stringIter s p)
section
variable {P : Program} {n : Nat} {l : Fr} {w : World} {Q : Exit → Act → World → Prop} {ops : Array Oper} {os : List Oper} {d : Option Nat} {ty : TypeId} {pos : String} {af : Array Edge} {g : Option (Nat × Bool)} {T t t' : TypeId} {x y z : Operand} {s u : ByteArray} {I p : Nat} {k : IntKind}
theorem ItS.lt (h : ItS w I s p) : I < w.heap.size := (Array.getElem?_eq_some_iff.1 h).1
theorem ItS.mono (h : ItS w I s p) {w' : World} (hb : Below w.heap.size w w') : ItS w' I s p := (hb.block I h.lt).trans h
theorem ItS.kept (h : ItS w I s p) {w' : World} {row : Option Nat} (hg : w.grownBy w' row) (hne : row ≠ some I) : ItS w' I s p := (hg.block I h.lt (fun e => hne e.symm)).trans h
theorem str_of (ht : isT P T (fun x => x matches .string) = true) : P.underlying T = some .string := by
  obtain ⟨u, hu, h2⟩ := isT_of ht
  have h3 : u = .string := by cases u <;> first | rfl | (simp at h2; done)
  rw [hu, h3]
theorem lw_rangeS {d : Nat} (ht : isT P T (fun x => x matches .string) = true) (hd : Nat.blt d n = true) (hx : ev l x = some (.string s))
    (hc : ∀ I w', w.heap.size ≤ I → ItS w' I s 0 → Below w.heap.size w w' → LW P n ops Q os ((d, .pointer (some ⟨I, 0, none⟩)) :: l) w') : LW P n ops Q (⟨some d, .range T x, ty, pos, af, none⟩ :: os) l w := by
  have hu := str_of ht
  refine lw_eff hd (w' := w.alloc (.stringIter s 0)) ⟨fun A hA => ?_⟩ (hc _ _ (Nat.le_refl _) (heap_alloc_new w _) (below_alloc _ _))
  simp only [execOp, hA.ev hx, Sem.run_bind, run_range_string w T s hu]
  rfl
theorem grown_at (w : World) (B : Nat) (o : Obj) : w.grownBy { w with heap := w.heap.setIfInBounds B o } (some B) := ⟨rfl, rfl, rfl, by simp, fun q hq hne => by
  show (w.heap.setIfInBounds B o)[q]? = _
  rw [Array.getElem?_setIfInBounds_ne (fun e => hne (by rw [e]))]⟩
theorem lw_nextS {d : Nat} (ha : Asc s) (hd : Nat.blt d n = true) (hx : ev l x = some (.pointer (some ⟨I, 0, none⟩))) (h : ItS w I s p)
    (h1 : s.size ≤ p → LW P n ops Q os ((d, .tuple #[.bool false]) :: l) w)
    (h2 : ∀ w', p < s.size → ItS w' I s (p + 1) → w.grownBy w' (some I) → w'.heap.size = w.heap.size → LW P n ops Q os ((d, .tuple #[.bool true, .int .i64 (p : Int), .int .i32 (bt s p)]) :: l) w') : LW P n ops Q (⟨some d, .next x true, ty, pos, af, none⟩ :: os) l w := by
  by_cases hp : p < s.size
  · have hI := h.lt
    refine lw_eff hd (w' := { w with heap := w.heap.setIfInBounds I (.stringIter s (p + 1)) }) ⟨fun A hA => ?_⟩ (h2 _ hp ?_ (grown_at w I _) (by simp))
    · have h' : w.heap[I]? = some (.stringIter s p) := h
      have hz := bt_nonneg s p
      have hw : ((bt s p).toNat : Int) = bt s p := by omega
      simp only [execOp, hA.ev hx, Instr.next, getObj, setObj, Sem.run_bind, Sem.run, h', Result.andThen, hp, if_true, decode_asc hp ha]
      simp [goInt, hw]
    · show (w.heap.setIfInBounds I _)[I]? = _
      rw [Array.getElem?_setIfInBounds_self_of_lt hI]
  · refine lw_eff hd (w' := w) ⟨fun A hA => ?_⟩ (h1 (by omega))
    have h' : w.heap[I]? = some (.stringIter s p) := h
    simp [execOp, hA.ev hx, Instr.next, getObj, Sem.run, h', hp]
/-- an array that is built -/
theorem pv_built {ps : List (Nat × Operand)} {is : List Nat} {vs : List Value} {cells : List Value} (h1 : ps.map (·.1) = is) (h2 : evs l (ps.map (·.2)) = some vs) (h : P.built t (is.zip vs) = some cells.toArray) : Pv P n l ⟨d, .build t ps.toArray, ty, pos, af, g⟩ (.agg cells.toArray) w := ⟨fun A hA => by
  have e : (ps.map fun p => (p.1, A.eval p.2)) = is.zip vs := by
    rw [← h1, ← hA.evs h2, List.map_map, List.zip_map']; rfl
  have := run_build (P := P) w t (is.zip vs).toArray cells.toArray h
  simp only [execOp]
  have e2 : (ps.toArray.map fun p : Nat × Operand => (p.1, A.eval p.2)) = (is.zip vs).toArray := by rw [← e]; simp
  simp [e2, this]⟩
/-- texts compared -/
theorem beq_str (a b : ByteArray) : (a.toList == b.toList) = decide (a = b) := by
  rw [ByteArray.toList_eq, ByteArray.toList_eq]
  by_cases h : a = b
  · subst h; simp
  · have : ¬ a.data = b.data := fun e => h (by cases a; cases b; simp only at e; rw [e])
    simp [h, this]
theorem pv_seqlD (hx : ev l x = some (.string s)) (hy : ev l y = some (.string u)) : Pv P n l ⟨d, .binOp .eql t x y t', ty, pos, af, g⟩ (.bool (decide (s = u))) w := by
  rw [← beq_str]; exact pv_seql hx hy
theorem pv_sneqD (hx : ev l x = some (.string s)) (hy : ev l y = some (.string u)) : Pv P n l ⟨d, .binOp .neq t x y t', ty, pos, af, g⟩ (.bool (!decide (s = u))) w := by
  rw [← beq_str]; exact pv_sneq hx hy
/-- s[i] -/
theorem pv_sidx {i : Nat} (ht : isT P t (fun x => x matches .string) = true) (hx : ev l x = some (.string s)) (hy : ev l y = some (.int k (i : Int))) (h : i < s.size) : Pv P n l ⟨d, .index t x y, ty, pos, af, g⟩ (.int .u8 (bt s i)) w := ⟨fun A hA => by
  have hu := str_of ht
  have e : s[i]? = some s[i] := by rw [getElem?_pos s i h]
  have e2 : ((s[i]).toNat : Int) = bt s i := get_bt s i h
  simp [execOp, hA.ev hx, hA.ev hy, Instr.index, asIntOf, run_underlying hu, e, e2]⟩
/-- []byte(s) -/
theorem lw_s2b {d : Nat} {e : TypeId} (hs : isT P t (fun x => x matches .string) = true) (ht' : P.underlying t' = some (.slice e)) (he : P.underlying e = some (.int .u8)) (hd : Nat.blt d n = true) (hx : ev l x = some (.string s))
    (h : ∀ N c w', (∀ i, i < s.size → w'.cell? ⟨N, i, none⟩ = some (.int .u8 (bt s i))) → N < w'.heap.size → Below w.heap.size w w' → LW P n ops Q os ((d, .slice (some ⟨N, 0, none⟩) s.size c) :: l) w') : LW P n ops Q (⟨some d, .convert t t' x, ty, pos, af, none⟩ :: os) l w := by
  have hr := Lib.run_convert_string_bytes (P := P) w t t' e s (str_of hs) ht' he
  refine lw_eff hd (w' := Lib.bytesWorld w e s) ⟨fun A hA => by simp [execOp, hA.ev hx, hr]⟩ (h w.heap.size (grownCap w s.size 0 e) (Lib.bytesWorld w e s) (fun i hi => ?_) (by rw [Lib.bytesWorld_size]; omega) ⟨rfl, rfl, rfl, by rw [Lib.bytesWorld_size]; omega, fun j hj => Lib.bytesWorld_at_old w e s j hj⟩)
  rw [Lib.bytesWorld_cell w e s i hi]
  congr 2
  have hi' : i < s.data.size := hi
  unfold bt
  rw [dif_pos hi, List.getD_eq_getElem?_getD, Array.getElem?_toList, Array.getElem?_eq_getElem hi']; rfl
end
/-- bytes that are read one by one -/
theorem bytes_all (s : ByteArray) (p : Int → Bool) {k : Nat} (hk : k ≤ s.size) (h : ∀ j, j < k → p (bt s j) = true) : ((bytesI s).take k).all p = true := by
  rw [List.all_eq_true]
  intro x hx
  obtain ⟨j, hj, rfl⟩ := List.mem_iff_getElem.1 hx
  rw [List.length_take] at hj
  have hj2 : j < s.size := by omega
  obtain ⟨_, e⟩ := List.getElem?_eq_some_iff.1 (bytesI_get s hj2)
  rw [List.getElem_take, e]
  exact h j (by omega)
end Go.Proofs.YtkehmbgcglbffaaDoor
