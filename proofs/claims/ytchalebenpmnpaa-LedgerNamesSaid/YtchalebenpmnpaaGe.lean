/-
  Layer 15's structs in memory: a row, a posting, an entry: four numbers each; slices of them. Conditions: none.
-/
import Derived.Test.YtchalebenpmnpaaTy
import Derived.Test.YtchalebenpmnpaaGsp
namespace Go.Proofs.Ytchalebenpmnpaa
open Go.RowKit

def encR (r : Row) : List Value := [.int .i64 r.acct, .int .i64 r.asset, .int .i64 r.free, .int .i64 r.held]
theorem encR_len (r : Row) : (encR r).length = 4 := rfl
theorem encR_one (r : Row) : ∀ v ∈ encR r, v.oneCell' = true := by intro v hv; simp [encR] at hv; rcases hv with rfl | rfl | rfl | rfl <;> rfl
def encI (n : Int) : List Value := [.int .i64 n]
theorem encI_len (n : Int) : (encI n).length = 1 := rfl
theorem encI_one (n : Int) : ∀ v ∈ encI n, v.oneCell' = true := by intro v hv; simp [encI] at hv; subst hv; rfl
theorem elem_of {P : Program} {S T : TypeId} {k nb : Nat} (hs : P.underlying S = some (.slice T)) (h : (P.info? T).map (fun i => (i.zero.map (fun z => z.cells.size), i.size, i.bytes)) = some (some k, k, nb)) (hk : 0 < k) : ElemT P S T k nb := ⟨hs, by
  cases hi : P.info? T with
  | none => rw [hi] at h; simp at h
  | some i =>
    rw [hi] at h
    simp only [Option.map_some, Option.some.injEq, Prod.mk.injEq] at h
    cases hz : i.zero with
    | none => rw [hz] at h; simp at h
    | some z => rw [hz] at h; simp at h; exact ⟨i, z, rfl, hz, h.2.1, h.2.2, h.1⟩, hk⟩
theorem elemR : ElemT Try.prog 22 38 4 32 := elem_of Try.underlying22 (by kernel_rfl) (by omega)
theorem elemP : ElemT Try.prog 25 34 4 32 := elem_of Try.underlying25 (by kernel_rfl) (by omega)
theorem elemQ : ElemT Try.prog 23 33 4 32 := elem_of Try.underlying23 (by kernel_rfl) (by omega)
theorem elemE : ElemT Try.prog 58 57 4 32 := elem_of Try.underlying58 (by kernel_rfl) (by omega)
abbrev SlL (w : World) (a : Option Addr) (cap : Nat) (xs : List Row) : Prop := SlR encR 4 w a cap xs
abbrev OwnL (T : TypeId) (base : Nat) (w : World) (v : Value) (xs : List Row) : Prop := Own encR 4 T base w v xs
end Go.Proofs.Ytchalebenpmnpaa
