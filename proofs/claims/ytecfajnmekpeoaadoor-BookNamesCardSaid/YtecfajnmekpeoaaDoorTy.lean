/-
  Facts on this seat's table of types, each a closed one. Conditions: none.
-/
import Derived.Test.YtecfajnmekpeoaaDoorSv
import Derived.Test.YtecfajnmekpeoaaDoorProg
namespace Go.Proofs.YtecfajnmekpeoaaDoor
def tab1 : List Nat := [2, 3, 4, 5, 9, 20, 21, 31, 42, 67, 70, 73, 80, 82, 83, 87, 89, 102]
theorem t1 {t : Nat} (e : lkm tab1 t = true) : oneB Tryd.prog t = true := lkm_all (p := fun t => oneB Tryd.prog t) (by kernel_rfl) e
def tabStr : List Nat := [9]
theorem tStr {t : Nat} (e : lkm tabStr t = true) : isT Tryd.prog t (fun x => x matches .string) = true := lkm_all (p := fun t => isT Tryd.prog t (fun x => x matches .string)) (by kernel_rfl) e
def tabBo : List Nat := [4]
theorem tBo {t : Nat} (e : lkm tabBo t = true) : isT Tryd.prog t (fun x => x matches .bool) = true := lkm_all (p := fun t => isT Tryd.prog t (fun x => x matches .bool)) (by kernel_rfl) e
def tabK : List (Nat × IntKind) := [(2, .i64), (3, .i64), (5, .u8), (21, .i32), (42, .i64), (67, .u64), (73, .i64), (80, .u32), (82, .u64), (83, .u64)]
theorem tK {t : Nat} {k : IntKind} (e : lkk tabK t = some k) : isKB Tryd.prog t k = true := lkk_all (p := fun t k => isKB Tryd.prog t k) (by kernel_rfl) e
theorem tCv {s d : Nat} {k k' : IntKind} (e : lkk tabK s = some k') (e2 : lkk tabK d = some k) : cvB Tryd.prog s d k = true := cvB_mk (tK e) (tK e2)
def tabS : List (Nat × Nat) := [(31, 6), (70, 1)]
theorem tS {t k : Nat} (e : lk1 tabS t = some k) : slB Tryd.prog t k = true := lk1_all (p := fun t k => slB Tryd.prog t k) (by kernel_rfl) e
def tabA : List (Nat × Nat) := [(22, 6), (23, 6), (55, 3)]
theorem tA {t k : Nat} (e : lk1 tabA t = some k) : aggB Tryd.prog t k = true := lk1_all (p := fun t k => aggB Tryd.prog t k) (by kernel_rfl) e
def tabZ : List (Nat × Nat) := [(22, 6), (23, 6), (55, 3), (2, 1), (3, 1), (4, 1), (5, 1), (9, 1), (20, 1), (21, 1), (31, 1), (42, 1), (67, 1), (70, 1), (73, 1), (80, 1), (82, 1), (83, 1), (87, 1), (89, 1), (102, 1)]
theorem tZ {t k : Nat} (e : lk1 tabZ t = some k) : sizeB Tryd.prog t k = true := lk1_all (p := fun t k => sizeB Tryd.prog t k) (by kernel_rfl) e
def tabF : List (Nat × Nat × Nat) := [(22, 0, 0), (22, 1, 1), (22, 2, 2), (22, 3, 3), (22, 4, 4), (22, 5, 5), (23, 0, 0), (23, 1, 1), (23, 2, 2), (23, 3, 3), (23, 4, 4), (23, 5, 5)]
theorem tF {s f o : Nat} (e : lk2 tabF s f = some o) : faB Tryd.prog s f o = true := lk2_all (p := fun s f o => faB Tryd.prog s f o) (by kernel_rfl) e
def tabD : List (Nat × Nat × Nat) := [(22, 0, 0), (22, 1, 1), (22, 2, 2), (22, 3, 3), (22, 4, 4), (22, 5, 5), (23, 0, 0), (23, 1, 1), (23, 2, 2), (23, 3, 3), (23, 4, 4), (23, 5, 5)]
theorem tD {s f o : Nat} (e : lk2 tabD s f = some o) : fdB Tryd.prog s f o = true := lk2_all (p := fun s f o => fdB Tryd.prog s f o) (by kernel_rfl) e
def tabG : List (Nat × Nat × Nat × Nat) := []
theorem tG {s f o m : Nat} (e : lk3 tabG s f = some (o, m)) : fgB Tryd.prog s f o m = true := lk3_all (p := fun s f o m => fgB Tryd.prog s f o m) (by kernel_rfl) e
theorem tyb_22 (ps : List (Nat × Value)) : Tryd.prog.built 22 ps = Instr.fill (fun i => (List.toArray [(0, 1), (1, 1), (2, 1), (3, 1), (4, 1), (5, 1)])[i]?) (List.toArray [.int .i64 0, .int .i64 0, .int .i64 0, .int .u8 0, .int .i64 0, .int .i64 0]) ps := by kernel_rfl
theorem tyB_22 {n : Nat} {l : Fr} {w : World} {d : Option Nat} {ty : TypeId} {pos : String} {af : Array Edge} {g : Option (Nat × Bool)} {ps : List (Nat × Operand)} {is : List Nat} {vs : List Value} {c0 c1 c2 c3 c4 c5 : Value} (h1 : ps.map (·.1) = is) (h2 : evs l (ps.map (·.2)) = some vs) (h : fillL [(0, 1), (1, 1), (2, 1), (3, 1), (4, 1), (5, 1)] [.int .i64 0, .int .i64 0, .int .i64 0, .int .u8 0, .int .i64 0, .int .i64 0] (is.zip vs) = some [c0, c1, c2, c3, c4, c5]) : Pv Tryd.prog n l ⟨d, .build 22 ps.toArray, ty, pos, af, g⟩ (.agg #[c0, c1, c2, c3, c4, c5]) w := pv_build h1 h2 tyb_22 h
theorem tyv_22 (w : World) : (zeroValue 22).run Tryd.prog w = .ok (.agg #[.int .i64 0, .int .i64 0, .int .i64 0, .int .u8 0, .int .i64 0, .int .i64 0]) w := by kernel_rfl
theorem tyb_23 (ps : List (Nat × Value)) : Tryd.prog.built 23 ps = Instr.fill (fun i => (List.toArray [(0, 1), (1, 1), (2, 1), (3, 1), (4, 1), (5, 1)])[i]?) (List.toArray [.int .i64 0, .int .i64 0, .int .i64 0, .int .u8 0, .int .i64 0, .int .i64 0]) ps := by kernel_rfl
theorem tyB_23 {n : Nat} {l : Fr} {w : World} {d : Option Nat} {ty : TypeId} {pos : String} {af : Array Edge} {g : Option (Nat × Bool)} {ps : List (Nat × Operand)} {is : List Nat} {vs : List Value} {c0 c1 c2 c3 c4 c5 : Value} (h1 : ps.map (·.1) = is) (h2 : evs l (ps.map (·.2)) = some vs) (h : fillL [(0, 1), (1, 1), (2, 1), (3, 1), (4, 1), (5, 1)] [.int .i64 0, .int .i64 0, .int .i64 0, .int .u8 0, .int .i64 0, .int .i64 0] (is.zip vs) = some [c0, c1, c2, c3, c4, c5]) : Pv Tryd.prog n l ⟨d, .build 23 ps.toArray, ty, pos, af, g⟩ (.agg #[c0, c1, c2, c3, c4, c5]) w := pv_build h1 h2 tyb_23 h
theorem tyv_23 (w : World) : (zeroValue 23).run Tryd.prog w = .ok (.agg #[.int .i64 0, .int .i64 0, .int .i64 0, .int .u8 0, .int .i64 0, .int .i64 0]) w := by kernel_rfl
end Go.Proofs.YtecfajnmekpeoaaDoor
