/-
  No cell of these rows narrows 'for every input' (looked for: loops, veiled, ifaces, maps, wideKeys, modest, calm, conditions, laid).
  DERIVED. THE GIVEN ROWS OF THIS SEAT. 5 by the template 'for every input the law returns true; each argument reads behind the call as it read before'; 0 by the template 'total and deterministic' (their statements: YtekomjnjddhfmaaGreatTotals.lean).
  GIVEN WITH THE SEED: the statements are not yours to turn. If you find one false, say at which input.
  Laid BY PROGRAM, IN A SANDBOX (cutbox-rows.mjs): the forced cells as the released guide's own fill.sh prints them over the translation 1de9758a1e2ba2d7… (all of the seat's roots in one cut). By AI agents, Wed Nov 11 2026. No macro, syntax, notation, axiom, sorry.
-/
import Derived.Test.YtekomjnjddhfmaaGreatChecked
import GoSem.Claim
import GoSem.ClaimJoined
import GoSem.ClaimMapViews
import Derived.JoinedTies
import Derived.KernelRfl
namespace Go.Proofs.YtekomjnjddhfmaaGreat
/- THE CELL 'sum', in the pinned program and in every row, IS THE sha256 OF THE DUMP (.gsa) THAT YtekomjnjddhfmaaGreatProg.lean LOADS. Nothing in Lean hashes anything: it is a label: what it is worth is what the hold of that sum in a sandbox is worth. -/
noncomputable def Tryz.pinned : Pinned := { name := "ytekomjnjddhfmaagreat", sum := "1de9758a1e2ba2d783f03ab697799bc2c3d5bd984534517a5aa86d08e511c264", checked := Tryz.checked }
namespace Rows
def none {H : Type} : Left H := { results := [], args := [] }

/-- 'souklaw18.StateNames': WHATEVER THE INPUT: true; the input reads as it did. -/
def stateNamesSpec : ChangeSpec := { name := "stateNames", fn := fun _ => fun
  | [] => { results := [.lit (.bool true)], args := [] }
  | _ => none }
def stateNamesRow : OpenClaim := { program := "ytekomjnjddhfmaagreat", sum := "1de9758a1e2ba2d783f03ab697799bc2c3d5bd984534517a5aa86d08e511c264", func := "souk/souklaw18.StateNames", spec := "stateNames", inPlace := ["math/bits.Add64"], unfollowed := true, recurses := true, plainKeys := false, apart := false }
def StateNamesSaid : Prop := stateNamesRow.holds Tryz.pinned (OpenSpec.ofChange stateNamesSpec)

/-- ITS FALSE NEIGHBOUR: 'it returns false'. Refute it at one input. -/
def stateNamesWrong : ChangeSpec := { name := "stateNames", fn := fun _ => fun
  | [] => { results := [.lit (.bool false)], args := [] }
  | _ => none }
def StateNamesWrongFalsely : Prop := stateNamesRow.holds Tryz.pinned (OpenSpec.ofChange stateNamesWrong)

/-- 'souklaw18.StateRows': WHATEVER THE INPUT: true; the input reads as it did. -/
def stateRowsSpec : ChangeSpec := { name := "stateRows", fn := fun _ => fun
  | [d1, d2, d3] => { results := [.lit (.bool true)], args := [d1, d2, d3] }
  | _ => none }
def stateRowsRow : OpenClaim := { program := "ytekomjnjddhfmaagreat", sum := "1de9758a1e2ba2d783f03ab697799bc2c3d5bd984534517a5aa86d08e511c264", func := "souk/souklaw18.StateRows", spec := "stateRows", inPlace := ["math/bits.Add64"], unfollowed := true, recurses := true, plainKeys := false, apart := false }
def StateRowsSaid : Prop := stateRowsRow.holds Tryz.pinned (OpenSpec.ofChange stateRowsSpec)

/-- ITS FALSE NEIGHBOUR: 'it returns false'. Refute it at one input. -/
def stateRowsWrong : ChangeSpec := { name := "stateRows", fn := fun _ => fun
  | [d1, d2, d3] => { results := [.lit (.bool false)], args := [d1, d2, d3] }
  | _ => none }
def StateRowsWrongFalsely : Prop := stateRowsRow.holds Tryz.pinned (OpenSpec.ofChange stateRowsWrong)

/-- 'souklaw18.StateCopies': WHATEVER THE INPUT: true; the input reads as it did. -/
def stateCopiesSpec : ChangeSpec := { name := "stateCopies", fn := fun _ => fun
  | [d] => { results := [.lit (.bool true)], args := [d] }
  | _ => none }
def stateCopiesRow : OpenClaim := { program := "ytekomjnjddhfmaagreat", sum := "1de9758a1e2ba2d783f03ab697799bc2c3d5bd984534517a5aa86d08e511c264", func := "souk/souklaw18.StateCopies", spec := "stateCopies", inPlace := ["math/bits.Add64"], unfollowed := true, recurses := true, plainKeys := false, apart := false }
def StateCopiesSaid : Prop := stateCopiesRow.holds Tryz.pinned (OpenSpec.ofChange stateCopiesSpec)

/-- ITS FALSE NEIGHBOUR: 'it returns false'. Refute it at one input. -/
def stateCopiesWrong : ChangeSpec := { name := "stateCopies", fn := fun _ => fun
  | [d] => { results := [.lit (.bool false)], args := [d] }
  | _ => none }
def StateCopiesWrongFalsely : Prop := stateCopiesRow.holds Tryz.pinned (OpenSpec.ofChange stateCopiesWrong)

/-- 'souklaw18.StateTells': WHATEVER THE INPUT: true; the input reads as it did. -/
def stateTellsSpec : ChangeSpec := { name := "stateTells", fn := fun _ => fun
  | [d1, d2, d3, d4, d5] => { results := [.lit (.bool true)], args := [d1, d2, d3, d4, d5] }
  | _ => none }
def stateTellsRow : OpenClaim := { program := "ytekomjnjddhfmaagreat", sum := "1de9758a1e2ba2d783f03ab697799bc2c3d5bd984534517a5aa86d08e511c264", func := "souk/souklaw18.StateTells", spec := "stateTells", inPlace := ["math/bits.Add64"], unfollowed := true, recurses := true, plainKeys := false, apart := false }
def StateTellsSaid : Prop := stateTellsRow.holds Tryz.pinned (OpenSpec.ofChange stateTellsSpec)

/-- ITS FALSE NEIGHBOUR: 'it returns false'. Refute it at one input. -/
def stateTellsWrong : ChangeSpec := { name := "stateTells", fn := fun _ => fun
  | [d1, d2, d3, d4, d5] => { results := [.lit (.bool false)], args := [d1, d2, d3, d4, d5] }
  | _ => none }
def StateTellsWrongFalsely : Prop := stateTellsRow.holds Tryz.pinned (OpenSpec.ofChange stateTellsWrong)

/-- 'souklaw18.StateLess': WHATEVER THE INPUT: true; the input reads as it did. -/
def stateLessSpec : ChangeSpec := { name := "stateLess", fn := fun _ => fun
  | [d1, d2, d3] => { results := [.lit (.bool true)], args := [d1, d2, d3] }
  | _ => none }
def stateLessRow : OpenClaim := { program := "ytekomjnjddhfmaagreat", sum := "1de9758a1e2ba2d783f03ab697799bc2c3d5bd984534517a5aa86d08e511c264", func := "souk/souklaw18.StateLess", spec := "stateLess", inPlace := ["math/bits.Add64"], unfollowed := true, recurses := true, plainKeys := false, apart := false }
def StateLessSaid : Prop := stateLessRow.holds Tryz.pinned (OpenSpec.ofChange stateLessSpec)

/-- ITS FALSE NEIGHBOUR: 'it returns false'. Refute it at one input. -/
def stateLessWrong : ChangeSpec := { name := "stateLess", fn := fun _ => fun
  | [d1, d2, d3] => { results := [.lit (.bool false)], args := [d1, d2, d3] }
  | _ => none }
def StateLessWrongFalsely : Prop := stateLessRow.holds Tryz.pinned (OpenSpec.ofChange stateLessWrong)

/- THE SECOND FORM. 'bulk': how many values and letters a reading holds, each counted each time it is reached (what is shared counts as often as it is met; a slice's spare places count too). A statement '..UptoSaid' is the law's where the arguments, and the package variables that the reading takes, are together of bulk at most 1048576: NARROWER than '..Said'. Prove '..Said' where nothing that the law and all that it calls make is longer than what came in: it says more and counts as full. Else prove '..UptoSaid'. A law counts once. -/
mutual
def uptoBulk {H : Type} : DataW H → Nat
  | .lit (.string bytes) => bytes.length + 1
  | .lit _ => 1
  | .nil => 1
  | .ptr d => uptoBulk d + 1
  | .slice elems spare => uptoBulkAll elems + uptoBulkAll spare + 1
  | .agg parts => uptoBulkAll parts + 1
  | .iface _ d => uptoBulk d + 1
  | .map entries => uptoBulkEntries entries + 1
  | .held _ => 1
def uptoBulkAll {H : Type} : List (DataW H) → Nat
  | [] => 0
  | d :: r => uptoBulk d + uptoBulkAll r
def uptoBulkEntries {H : Type} : List (Lit × DataW H) → Nat
  | [] => 0
  | x :: r => uptoBulkEntry x + uptoBulkEntries r
def uptoBulkEntry {H : Type} : Lit × DataW H → Nat
  | (.string bytes, d) => bytes.length + uptoBulk d + 1
  | (_, d) => uptoBulk d + 1
 end
def uptoSmall : (H : Type) → List (DataW H) → Bool := fun _ ds => decide (uptoBulkAll ds ≤ 1048576)
def OpenSpec.upto (s : _root_.Go.ChangeSpec) : _root_.Go.OpenSpec := { _root_.Go.OpenSpec.ofChange s with cond := some uptoSmall }

/-- 'souklaw18.StateNames', WHERE WHAT IT READS IS OF BULK AT MOST 1048576: true; the input reads as it did. -/
def stateNamesUptoRow : OpenClaim := { program := "ytekomjnjddhfmaagreat", sum := "1de9758a1e2ba2d783f03ab697799bc2c3d5bd984534517a5aa86d08e511c264", func := "souk/souklaw18.StateNames", spec := "stateNames", inPlace := ["math/bits.Add64"], unfollowed := true, recurses := true, plainKeys := false, apart := false, narrowed := true }
def StateNamesUptoSaid : Prop := stateNamesUptoRow.holds Tryz.pinned (OpenSpec.upto stateNamesSpec)

/-- 'souklaw18.StateRows', WHERE WHAT IT READS IS OF BULK AT MOST 1048576: true; the input reads as it did. -/
def stateRowsUptoRow : OpenClaim := { program := "ytekomjnjddhfmaagreat", sum := "1de9758a1e2ba2d783f03ab697799bc2c3d5bd984534517a5aa86d08e511c264", func := "souk/souklaw18.StateRows", spec := "stateRows", inPlace := ["math/bits.Add64"], unfollowed := true, recurses := true, plainKeys := false, apart := false, narrowed := true }
def StateRowsUptoSaid : Prop := stateRowsUptoRow.holds Tryz.pinned (OpenSpec.upto stateRowsSpec)

/-- 'souklaw18.StateCopies', WHERE WHAT IT READS IS OF BULK AT MOST 1048576: true; the input reads as it did. -/
def stateCopiesUptoRow : OpenClaim := { program := "ytekomjnjddhfmaagreat", sum := "1de9758a1e2ba2d783f03ab697799bc2c3d5bd984534517a5aa86d08e511c264", func := "souk/souklaw18.StateCopies", spec := "stateCopies", inPlace := ["math/bits.Add64"], unfollowed := true, recurses := true, plainKeys := false, apart := false, narrowed := true }
def StateCopiesUptoSaid : Prop := stateCopiesUptoRow.holds Tryz.pinned (OpenSpec.upto stateCopiesSpec)

/-- 'souklaw18.StateTells', WHERE WHAT IT READS IS OF BULK AT MOST 1048576: true; the input reads as it did. -/
def stateTellsUptoRow : OpenClaim := { program := "ytekomjnjddhfmaagreat", sum := "1de9758a1e2ba2d783f03ab697799bc2c3d5bd984534517a5aa86d08e511c264", func := "souk/souklaw18.StateTells", spec := "stateTells", inPlace := ["math/bits.Add64"], unfollowed := true, recurses := true, plainKeys := false, apart := false, narrowed := true }
def StateTellsUptoSaid : Prop := stateTellsUptoRow.holds Tryz.pinned (OpenSpec.upto stateTellsSpec)

/-- 'souklaw18.StateLess', WHERE WHAT IT READS IS OF BULK AT MOST 1048576: true; the input reads as it did. -/
def stateLessUptoRow : OpenClaim := { program := "ytekomjnjddhfmaagreat", sum := "1de9758a1e2ba2d783f03ab697799bc2c3d5bd984534517a5aa86d08e511c264", func := "souk/souklaw18.StateLess", spec := "stateLess", inPlace := ["math/bits.Add64"], unfollowed := true, recurses := true, plainKeys := false, apart := false, narrowed := true }
def StateLessUptoSaid : Prop := stateLessUptoRow.holds Tryz.pinned (OpenSpec.upto stateLessSpec)

end Rows
end Go.Proofs.YtekomjnjddhfmaaGreat
