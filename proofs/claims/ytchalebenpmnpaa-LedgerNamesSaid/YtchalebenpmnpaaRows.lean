/-
  No cell of these rows narrows 'for every input' (looked for: loops, veiled, ifaces, maps, wideKeys, modest, calm, conditions, laid).
  DERIVED. THE GIVEN ROWS OF THIS SEAT. 8 by the template 'for every input the law returns true; each argument reads behind the call as it read before'; 0 by the template 'total and deterministic' (their statements: YtchalebenpmnpaaTotals.lean).
  GIVEN WITH THE SEED: the statements are not yours to turn. If you find one false, say at which input.
  Laid BY PROGRAM, IN A SANDBOX (cutbox-rows.mjs): the forced cells as the released guide's own fill.sh prints them over the translation 669274c8c567d46b… (all of the seat's roots in one cut). By AI agents, Wed Nov 11 2026. No macro, syntax, notation, axiom, sorry.
-/
import Derived.Test.YtchalebenpmnpaaChecked
import GoSem.Claim
import GoSem.ClaimJoined
import GoSem.ClaimMapViews
import Derived.JoinedTies
import Derived.KernelRfl
namespace Go.Proofs.Ytchalebenpmnpaa
/- THE CELL 'sum', in the pinned program and in every row, IS THE sha256 OF THE DUMP (.gsa) THAT YtchalebenpmnpaaProg.lean LOADS. Nothing in Lean hashes anything: it is a label: what it is worth is what the hold of that sum in a sandbox is worth. -/
noncomputable def Try.pinned : Pinned := { name := "ytchalebenpmnpaa", sum := "669274c8c567d46bafa0bc04880dd8dd5f29a316e8329a43c969ee4c98ce916f", checked := Try.checked }
namespace Rows
def none {H : Type} : Left H := { results := [], args := [] }

/-- 'souklaw15.LedgerPosts': WHATEVER THE INPUT: true; the input reads as it did. -/
def ledgerPostsSpec : ChangeSpec := { name := "ledgerPosts", fn := fun _ => fun
  | [d1, d2] => { results := [.lit (.bool true)], args := [d1, d2] }
  | _ => none }
def ledgerPostsRow : OpenClaim := { program := "ytchalebenpmnpaa", sum := "669274c8c567d46bafa0bc04880dd8dd5f29a316e8329a43c969ee4c98ce916f", func := "souk/souklaw15.LedgerPosts", spec := "ledgerPosts", inPlace := ["math/bits.Add64"], unfollowed := true, recurses := true, plainKeys := false, apart := false }
def LedgerPostsSaid : Prop := ledgerPostsRow.holds Try.pinned (OpenSpec.ofChange ledgerPostsSpec)

/-- ITS FALSE NEIGHBOUR: 'it returns false'. Refute it at one input. -/
def ledgerPostsWrong : ChangeSpec := { name := "ledgerPosts", fn := fun _ => fun
  | [d1, d2] => { results := [.lit (.bool false)], args := [d1, d2] }
  | _ => none }
def LedgerPostsWrongFalsely : Prop := ledgerPostsRow.holds Try.pinned (OpenSpec.ofChange ledgerPostsWrong)

/-- 'souklaw15.LedgerSum': WHATEVER THE INPUT: true; the input reads as it did. -/
def ledgerSumSpec : ChangeSpec := { name := "ledgerSum", fn := fun _ => fun
  | [d1, d2] => { results := [.lit (.bool true)], args := [d1, d2] }
  | _ => none }
def ledgerSumRow : OpenClaim := { program := "ytchalebenpmnpaa", sum := "669274c8c567d46bafa0bc04880dd8dd5f29a316e8329a43c969ee4c98ce916f", func := "souk/souklaw15.LedgerSum", spec := "ledgerSum", inPlace := ["math/bits.Add64"], unfollowed := true, recurses := true, plainKeys := false, apart := false }
def LedgerSumSaid : Prop := ledgerSumRow.holds Try.pinned (OpenSpec.ofChange ledgerSumSpec)

/-- ITS FALSE NEIGHBOUR: 'it returns false'. Refute it at one input. -/
def ledgerSumWrong : ChangeSpec := { name := "ledgerSum", fn := fun _ => fun
  | [d1, d2] => { results := [.lit (.bool false)], args := [d1, d2] }
  | _ => none }
def LedgerSumWrongFalsely : Prop := ledgerSumRow.holds Try.pinned (OpenSpec.ofChange ledgerSumWrong)

/-- 'souklaw15.LedgerBack': WHATEVER THE INPUT: true; the input reads as it did. -/
def ledgerBackSpec : ChangeSpec := { name := "ledgerBack", fn := fun _ => fun
  | [d1, d2] => { results := [.lit (.bool true)], args := [d1, d2] }
  | _ => none }
def ledgerBackRow : OpenClaim := { program := "ytchalebenpmnpaa", sum := "669274c8c567d46bafa0bc04880dd8dd5f29a316e8329a43c969ee4c98ce916f", func := "souk/souklaw15.LedgerBack", spec := "ledgerBack", inPlace := ["math/bits.Add64"], unfollowed := true, recurses := true, plainKeys := false, apart := false }
def LedgerBackSaid : Prop := ledgerBackRow.holds Try.pinned (OpenSpec.ofChange ledgerBackSpec)

/-- ITS FALSE NEIGHBOUR: 'it returns false'. Refute it at one input. -/
def ledgerBackWrong : ChangeSpec := { name := "ledgerBack", fn := fun _ => fun
  | [d1, d2] => { results := [.lit (.bool false)], args := [d1, d2] }
  | _ => none }
def LedgerBackWrongFalsely : Prop := ledgerBackRow.holds Try.pinned (OpenSpec.ofChange ledgerBackWrong)

/-- 'souklaw15.LedgerRow': WHATEVER THE INPUT: true; the input reads as it did. -/
def ledgerRowSpec : ChangeSpec := { name := "ledgerRow", fn := fun _ => fun
  | [d1, d2, d3] => { results := [.lit (.bool true)], args := [d1, d2, d3] }
  | _ => none }
def ledgerRowRow : OpenClaim := { program := "ytchalebenpmnpaa", sum := "669274c8c567d46bafa0bc04880dd8dd5f29a316e8329a43c969ee4c98ce916f", func := "souk/souklaw15.LedgerRow", spec := "ledgerRow", inPlace := ["math/bits.Add64"], unfollowed := true, recurses := true, plainKeys := false, apart := false }
def LedgerRowSaid : Prop := ledgerRowRow.holds Try.pinned (OpenSpec.ofChange ledgerRowSpec)

/-- ITS FALSE NEIGHBOUR: 'it returns false'. Refute it at one input. -/
def ledgerRowWrong : ChangeSpec := { name := "ledgerRow", fn := fun _ => fun
  | [d1, d2, d3] => { results := [.lit (.bool false)], args := [d1, d2, d3] }
  | _ => none }
def LedgerRowWrongFalsely : Prop := ledgerRowRow.holds Try.pinned (OpenSpec.ofChange ledgerRowWrong)

/-- 'souklaw15.LedgerNames': WHATEVER THE INPUT: true; the input reads as it did. -/
def ledgerNamesSpec : ChangeSpec := { name := "ledgerNames", fn := fun _ => fun
  | [] => { results := [.lit (.bool true)], args := [] }
  | _ => none }
def ledgerNamesRow : OpenClaim := { program := "ytchalebenpmnpaa", sum := "669274c8c567d46bafa0bc04880dd8dd5f29a316e8329a43c969ee4c98ce916f", func := "souk/souklaw15.LedgerNames", spec := "ledgerNames", inPlace := ["math/bits.Add64"], unfollowed := true, recurses := true, plainKeys := false, apart := false }
def LedgerNamesSaid : Prop := ledgerNamesRow.holds Try.pinned (OpenSpec.ofChange ledgerNamesSpec)

/-- ITS FALSE NEIGHBOUR: 'it returns false'. Refute it at one input. -/
def ledgerNamesWrong : ChangeSpec := { name := "ledgerNames", fn := fun _ => fun
  | [] => { results := [.lit (.bool false)], args := [] }
  | _ => none }
def LedgerNamesWrongFalsely : Prop := ledgerNamesRow.holds Try.pinned (OpenSpec.ofChange ledgerNamesWrong)

/-- 'souklaw15.LedgerMoves': WHATEVER THE INPUT: true; the input reads as it did. -/
def ledgerMovesSpec : ChangeSpec := { name := "ledgerMoves", fn := fun _ => fun
  | [d1, d2, d3, d4, d5] => { results := [.lit (.bool true)], args := [d1, d2, d3, d4, d5] }
  | _ => none }
def ledgerMovesRow : OpenClaim := { program := "ytchalebenpmnpaa", sum := "669274c8c567d46bafa0bc04880dd8dd5f29a316e8329a43c969ee4c98ce916f", func := "souk/souklaw15.LedgerMoves", spec := "ledgerMoves", inPlace := ["math/bits.Add64"], unfollowed := true, recurses := true, plainKeys := false, apart := false }
def LedgerMovesSaid : Prop := ledgerMovesRow.holds Try.pinned (OpenSpec.ofChange ledgerMovesSpec)

/-- ITS FALSE NEIGHBOUR: 'it returns false'. Refute it at one input. -/
def ledgerMovesWrong : ChangeSpec := { name := "ledgerMoves", fn := fun _ => fun
  | [d1, d2, d3, d4, d5] => { results := [.lit (.bool false)], args := [d1, d2, d3, d4, d5] }
  | _ => none }
def LedgerMovesWrongFalsely : Prop := ledgerMovesRow.holds Try.pinned (OpenSpec.ofChange ledgerMovesWrong)

/-- 'souklaw15.LedgerWay': WHATEVER THE INPUT: true; the input reads as it did. -/
def ledgerWaySpec : ChangeSpec := { name := "ledgerWay", fn := fun _ => fun
  | [d1, d2, d3, d4, d5] => { results := [.lit (.bool true)], args := [d1, d2, d3, d4, d5] }
  | _ => none }
def ledgerWayRow : OpenClaim := { program := "ytchalebenpmnpaa", sum := "669274c8c567d46bafa0bc04880dd8dd5f29a316e8329a43c969ee4c98ce916f", func := "souk/souklaw15.LedgerWay", spec := "ledgerWay", inPlace := ["math/bits.Add64"], unfollowed := true, recurses := true, plainKeys := false, apart := false }
def LedgerWaySaid : Prop := ledgerWayRow.holds Try.pinned (OpenSpec.ofChange ledgerWaySpec)

/-- ITS FALSE NEIGHBOUR: 'it returns false'. Refute it at one input. -/
def ledgerWayWrong : ChangeSpec := { name := "ledgerWay", fn := fun _ => fun
  | [d1, d2, d3, d4, d5] => { results := [.lit (.bool false)], args := [d1, d2, d3, d4, d5] }
  | _ => none }
def LedgerWayWrongFalsely : Prop := ledgerWayRow.holds Try.pinned (OpenSpec.ofChange ledgerWayWrong)

/-- 'souklaw15.LedgerTells': WHATEVER THE INPUT: true; the input reads as it did. -/
def ledgerTellsSpec : ChangeSpec := { name := "ledgerTells", fn := fun _ => fun
  | [d1, d2, d3, d4] => { results := [.lit (.bool true)], args := [d1, d2, d3, d4] }
  | _ => none }
def ledgerTellsRow : OpenClaim := { program := "ytchalebenpmnpaa", sum := "669274c8c567d46bafa0bc04880dd8dd5f29a316e8329a43c969ee4c98ce916f", func := "souk/souklaw15.LedgerTells", spec := "ledgerTells", inPlace := ["math/bits.Add64"], unfollowed := true, recurses := true, plainKeys := false, apart := false }
def LedgerTellsSaid : Prop := ledgerTellsRow.holds Try.pinned (OpenSpec.ofChange ledgerTellsSpec)

/-- ITS FALSE NEIGHBOUR: 'it returns false'. Refute it at one input. -/
def ledgerTellsWrong : ChangeSpec := { name := "ledgerTells", fn := fun _ => fun
  | [d1, d2, d3, d4] => { results := [.lit (.bool false)], args := [d1, d2, d3, d4] }
  | _ => none }
def LedgerTellsWrongFalsely : Prop := ledgerTellsRow.holds Try.pinned (OpenSpec.ofChange ledgerTellsWrong)

/- THE SECOND FORM. 'bulk': how many values and letters a reading holds, each counted each time it is reached (what is shared counts as often as it is met; a slice's spare places count too). A statement '..UptoSaid' is the law's where the arguments, and the package variables that the reading takes, are together of bulk at most 1048576: NARROWER than '..Said'. Prove '..Said' where nothing that the law and all that it calls make is longer than what came in: it says more and counts as full. Else prove '..UptoSaid'. A law counts once. -/
mutual
def uptoBulk {H : Type} : DataW H → Nat
  | .lit (.string bytes) => bytes.length + 1
  | .lit _ => 1
  | .nil => 1
  | .ptr d => uptoBulk d + 1
  | .slice elems spare => uptoBulkAll elems + uptoBulkAll spare + 1
  | .agg parts => uptoBulkAll parts + 1
  | .iface _ d => uptoBulk d + 1
  | .map entries => uptoBulkEntries entries + 1
  | .held _ => 1
def uptoBulkAll {H : Type} : List (DataW H) → Nat
  | [] => 0
  | d :: r => uptoBulk d + uptoBulkAll r
def uptoBulkEntries {H : Type} : List (Lit × DataW H) → Nat
  | [] => 0
  | x :: r => uptoBulkEntry x + uptoBulkEntries r
def uptoBulkEntry {H : Type} : Lit × DataW H → Nat
  | (.string bytes, d) => bytes.length + uptoBulk d + 1
  | (_, d) => uptoBulk d + 1
 end
def uptoSmall : (H : Type) → List (DataW H) → Bool := fun _ ds => decide (uptoBulkAll ds ≤ 1048576)
def OpenSpec.upto (s : _root_.Go.ChangeSpec) : _root_.Go.OpenSpec := { _root_.Go.OpenSpec.ofChange s with cond := some uptoSmall }

/-- 'souklaw15.LedgerPosts', WHERE WHAT IT READS IS OF BULK AT MOST 1048576: true; the input reads as it did. -/
def ledgerPostsUptoRow : OpenClaim := { program := "ytchalebenpmnpaa", sum := "669274c8c567d46bafa0bc04880dd8dd5f29a316e8329a43c969ee4c98ce916f", func := "souk/souklaw15.LedgerPosts", spec := "ledgerPosts", inPlace := ["math/bits.Add64"], unfollowed := true, recurses := true, plainKeys := false, apart := false, narrowed := true }
def LedgerPostsUptoSaid : Prop := ledgerPostsUptoRow.holds Try.pinned (OpenSpec.upto ledgerPostsSpec)

/-- 'souklaw15.LedgerSum', WHERE WHAT IT READS IS OF BULK AT MOST 1048576: true; the input reads as it did. -/
def ledgerSumUptoRow : OpenClaim := { program := "ytchalebenpmnpaa", sum := "669274c8c567d46bafa0bc04880dd8dd5f29a316e8329a43c969ee4c98ce916f", func := "souk/souklaw15.LedgerSum", spec := "ledgerSum", inPlace := ["math/bits.Add64"], unfollowed := true, recurses := true, plainKeys := false, apart := false, narrowed := true }
def LedgerSumUptoSaid : Prop := ledgerSumUptoRow.holds Try.pinned (OpenSpec.upto ledgerSumSpec)

/-- 'souklaw15.LedgerBack', WHERE WHAT IT READS IS OF BULK AT MOST 1048576: true; the input reads as it did. -/
def ledgerBackUptoRow : OpenClaim := { program := "ytchalebenpmnpaa", sum := "669274c8c567d46bafa0bc04880dd8dd5f29a316e8329a43c969ee4c98ce916f", func := "souk/souklaw15.LedgerBack", spec := "ledgerBack", inPlace := ["math/bits.Add64"], unfollowed := true, recurses := true, plainKeys := false, apart := false, narrowed := true }
def LedgerBackUptoSaid : Prop := ledgerBackUptoRow.holds Try.pinned (OpenSpec.upto ledgerBackSpec)

/-- 'souklaw15.LedgerRow', WHERE WHAT IT READS IS OF BULK AT MOST 1048576: true; the input reads as it did. -/
def ledgerRowUptoRow : OpenClaim := { program := "ytchalebenpmnpaa", sum := "669274c8c567d46bafa0bc04880dd8dd5f29a316e8329a43c969ee4c98ce916f", func := "souk/souklaw15.LedgerRow", spec := "ledgerRow", inPlace := ["math/bits.Add64"], unfollowed := true, recurses := true, plainKeys := false, apart := false, narrowed := true }
def LedgerRowUptoSaid : Prop := ledgerRowUptoRow.holds Try.pinned (OpenSpec.upto ledgerRowSpec)

/-- 'souklaw15.LedgerNames', WHERE WHAT IT READS IS OF BULK AT MOST 1048576: true; the input reads as it did. -/
def ledgerNamesUptoRow : OpenClaim := { program := "ytchalebenpmnpaa", sum := "669274c8c567d46bafa0bc04880dd8dd5f29a316e8329a43c969ee4c98ce916f", func := "souk/souklaw15.LedgerNames", spec := "ledgerNames", inPlace := ["math/bits.Add64"], unfollowed := true, recurses := true, plainKeys := false, apart := false, narrowed := true }
def LedgerNamesUptoSaid : Prop := ledgerNamesUptoRow.holds Try.pinned (OpenSpec.upto ledgerNamesSpec)

/-- 'souklaw15.LedgerMoves', WHERE WHAT IT READS IS OF BULK AT MOST 1048576: true; the input reads as it did. -/
def ledgerMovesUptoRow : OpenClaim := { program := "ytchalebenpmnpaa", sum := "669274c8c567d46bafa0bc04880dd8dd5f29a316e8329a43c969ee4c98ce916f", func := "souk/souklaw15.LedgerMoves", spec := "ledgerMoves", inPlace := ["math/bits.Add64"], unfollowed := true, recurses := true, plainKeys := false, apart := false, narrowed := true }
def LedgerMovesUptoSaid : Prop := ledgerMovesUptoRow.holds Try.pinned (OpenSpec.upto ledgerMovesSpec)

/-- 'souklaw15.LedgerWay', WHERE WHAT IT READS IS OF BULK AT MOST 1048576: true; the input reads as it did. -/
def ledgerWayUptoRow : OpenClaim := { program := "ytchalebenpmnpaa", sum := "669274c8c567d46bafa0bc04880dd8dd5f29a316e8329a43c969ee4c98ce916f", func := "souk/souklaw15.LedgerWay", spec := "ledgerWay", inPlace := ["math/bits.Add64"], unfollowed := true, recurses := true, plainKeys := false, apart := false, narrowed := true }
def LedgerWayUptoSaid : Prop := ledgerWayUptoRow.holds Try.pinned (OpenSpec.upto ledgerWaySpec)

/-- 'souklaw15.LedgerTells', WHERE WHAT IT READS IS OF BULK AT MOST 1048576: true; the input reads as it did. -/
def ledgerTellsUptoRow : OpenClaim := { program := "ytchalebenpmnpaa", sum := "669274c8c567d46bafa0bc04880dd8dd5f29a316e8329a43c969ee4c98ce916f", func := "souk/souklaw15.LedgerTells", spec := "ledgerTells", inPlace := ["math/bits.Add64"], unfollowed := true, recurses := true, plainKeys := false, apart := false, narrowed := true }
def LedgerTellsUptoSaid : Prop := ledgerTellsUptoRow.holds Try.pinned (OpenSpec.upto ledgerTellsSpec)

end Rows
end Go.Proofs.Ytchalebenpmnpaa
