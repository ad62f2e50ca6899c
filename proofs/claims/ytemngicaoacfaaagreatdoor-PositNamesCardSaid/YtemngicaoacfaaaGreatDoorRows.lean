/-
  NARROWER THAN 'FOR EVERY INPUT', by the rows' own cells (each row's printed sentence says how): PositEvents: laid · PositSums: laid · PositAll: laid · PositNames: laid · PositNever: laid · PositParts: laid.
  DERIVED. THE GIVEN ROWS OF THIS SEAT. 6 by the template 'for every input the law returns true; each argument reads behind the call as it read before'; 0 by the template 'total and deterministic' (their statements: YtemngicaoacfaaaGreatDoorTotals.lean).
  GIVEN WITH THE SEED: the statements are not yours to turn. If you find one false, say at which input.
  Laid BY PROGRAM, IN A SANDBOX (cutbox-rows.mjs): the forced cells as the released guide's own fill.sh prints them over the translation cf811d9696bf73fe… (all of the seat's roots in one cut). By AI agents, Wed Nov 11 2026. No macro, syntax, notation, axiom, sorry.
-/
import Derived.Test.YtemngicaoacfaaaGreatDoorChecked
import GoSem.Claim
import GoSem.ClaimJoined
import GoSem.ClaimMapViews
import Derived.JoinedTies
import Derived.KernelRfl
namespace Go.Proofs.YtemngicaoacfaaaGreatDoor
/- THE CELL 'sum', in the pinned program and in every row, IS THE sha256 OF THE DUMP (.gsa) THAT YtemngicaoacfaaaGreatDoorProg.lean LOADS. Nothing in Lean hashes anything: it is a label: what it is worth is what the hold of that sum in a sandbox is worth. -/
noncomputable def Tryz.pinned : Pinned := { name := "ytemngicaoacfaaagreatdoor", sum := "cf811d9696bf73fe94c793a3201ea0f675835711749511ad4a5839c7449c2a43", checked := Tryz.checked }
namespace Rows
def none {H : Type} : Left H := { results := [], args := [] }

/- WHAT THE LISTED PACKAGE-LEVEL VARIABLES READ AS WHEN THE CALL BEGINS. Each datum BY PROGRAM (the guide's laid-datum.mjs) off the statement by which the dump's own 'gosem.cut.vars' lays the variable. In a bare row this is a premise. The card (YtemngicaoacfaaaGreatDoorCards.lean) ties it to the program's text. -/
def laid_souk_schema_kinds {H : Type} : DataW H := .agg [.agg [.lit (.string [111, 112, 101, 110, 101, 100]), .agg [.lit (.string [97]), .lit (.string [97]), .lit (.string [97])], .lit (.bool true)], .agg [.lit (.string [99, 108, 111, 115, 101, 100]), .agg [.lit (.string [97]), .lit (.string [97]), .lit (.string [97])], .lit (.bool false)], .agg [.lit (.string [108, 105, 115, 116, 101, 100]), .agg [.lit (.string [105]), .lit (.string [105, 107]), .lit (.string [105, 107])], .lit (.bool true)], .agg [.lit (.string [104, 97, 108, 116, 101, 100]), .agg [.lit (.string [105]), .lit (.string [105]), .lit (.string [105])], .lit (.bool false)], .agg [.lit (.string [114, 101, 115, 117, 109, 101, 100]), .agg [.lit (.string [105]), .lit (.string [105]), .lit (.string [105])], .lit (.bool false)], .agg [.lit (.string [100, 101, 112, 111, 115, 105, 116, 101, 100]), .agg [.lit (.string [97, 109]), .lit (.string [97, 109]), .lit (.string [97, 109])], .lit (.bool false)], .agg [.lit (.string [119, 105, 116, 104, 100, 114, 97, 119, 110]), .agg [.lit (.string [97, 109]), .lit (.string [97, 109]), .lit (.string [97, 109])], .lit (.bool false)], .agg [.lit (.string [105, 115, 115, 117, 101, 100]), .agg [.lit (.string [97, 105, 113]), .lit (.string [97, 105, 113]), .lit (.string [97, 105, 113])], .lit (.bool false)], .agg [.lit (.string [114, 101, 100, 101, 101, 109, 101, 100]), .agg [.lit (.string [97, 105, 113]), .lit (.string [97, 105, 113]), .lit (.string [97, 105, 113])], .lit (.bool false)], .agg [.lit (.string [102, 101, 101, 32, 115, 101, 116]), .agg [.lit (.string [98]), .lit (.string [98]), .lit (.string [98])], .lit (.bool false)], .agg [.lit (.string [112, 108, 97, 99, 101, 100]), .agg [.lit (.string [111, 97, 105, 115, 112, 113]), .lit (.string [111, 97, 105, 115, 112, 113]), .lit (.string [111, 97, 105, 115, 112, 113])], .lit (.bool false)], .agg [.lit (.string [99, 97, 110, 99, 101, 108, 108, 101, 100]), .agg [.lit (.string [111]), .lit (.string [111]), .lit (.string [111])], .lit (.bool false)], .agg [.lit (.string [116, 114, 97, 100, 101, 100]), .agg [.lit (.string [111, 111, 112, 113]), .lit (.string [111, 111, 112, 113, 122]), .lit (.string [111, 111, 112, 113, 122])], .lit (.bool false)], .agg [.lit (.string [101, 110, 103, 108, 105, 115, 104]), .agg [.lit (.string [99, 97, 105, 113, 109, 116]), .lit (.string [99, 97, 105, 113, 109, 109, 116]), .lit (.string [99, 97, 105, 113, 109, 109, 116])], .lit (.bool false)], .agg [.lit (.string [114, 97, 105, 115, 101, 100]), .agg [.lit (.string [99, 97, 109]), .lit (.string [99, 97, 109]), .lit (.string [99, 97, 109])], .lit (.bool false)], .agg [.lit (.string [115, 101, 97, 108, 101, 100]), .agg [.lit (.string [99, 97, 105, 113, 109, 116]), .lit (.string [99, 97, 105, 113, 109, 116]), .lit (.string [99, 97, 105, 113, 109, 116])], .lit (.bool false)], .agg [.lit (.string [98, 105, 100]), .agg [.lit (.string [99, 97, 109]), .lit (.string [99, 97, 109]), .lit (.string [99, 97, 109])], .lit (.bool false)], .agg [.lit (.string [115, 111, 108, 100]), .agg [.lit (.string [99, 97, 109]), .lit (.string [99, 97, 109, 122]), .lit (.string [99, 97, 109, 122])], .lit (.bool false)], .agg [.lit (.string [117, 110, 115, 111, 108, 100]), .agg [.lit (.string [99]), .lit (.string [99]), .lit (.string [99])], .lit (.bool false)], .agg [.lit (.string [109, 111, 118, 101, 100]), .agg [.lit (.string [116]), .lit (.string [116]), .lit (.string [116])], .lit (.bool false)], .agg [.lit (.string [116, 114, 97, 110, 115, 102, 101, 114, 114, 101, 100]), .agg [.lit (.string [32]), .lit (.string [97, 97, 109]), .lit (.string [97, 97, 109])], .lit (.bool false)], .agg [.lit (.string [114, 101, 110, 97, 109, 101, 100]), .agg [.lit (.string [32]), .lit (.string [32]), .lit (.string [97])], .lit (.bool true)], .agg [.lit (.string [116, 105, 99, 107, 101, 100]), .agg [.lit (.string [32]), .lit (.string [32]), .lit (.string [105, 107])], .lit (.bool false)]]

/-- 'souklaw23.PositEvents': WHATEVER THE INPUT: true; the input reads as it did. -/
def positEventsSpec : ChangeSpec := { name := "positEvents", fn := fun _ => fun
  | [d1, d2, d3, d4] => { results := [.lit (.bool true)], args := [d1, d2, d3, d4] }
  | _ => none }
def positEventsRow : OpenClaim := { program := "ytemngicaoacfaaagreatdoor", sum := "cf811d9696bf73fe94c793a3201ea0f675835711749511ad4a5839c7449c2a43", func := "souk/souklaw23.PositEvents", spec := "positEvents", inPlace := ["slices.overlaps[souk/api.Position]"], unfollowed := true, recurses := true, named := ["souk/schema.kinds"], plainKeys := false, apart := false, laid := [("souk/schema.kinds", laid_souk_schema_kinds)] }
def PositEventsSaid : Prop := positEventsRow.holds Tryz.pinned (OpenSpec.ofChange positEventsSpec)

/-- ITS FALSE NEIGHBOUR: 'it returns false'. Refute it at one input. -/
def positEventsWrong : ChangeSpec := { name := "positEvents", fn := fun _ => fun
  | [d1, d2, d3, d4] => { results := [.lit (.bool false)], args := [d1, d2, d3, d4] }
  | _ => none }
def PositEventsWrongFalsely : Prop := positEventsRow.holds Tryz.pinned (OpenSpec.ofChange positEventsWrong)

/-- 'souklaw23.PositSums': WHATEVER THE INPUT: true; the input reads as it did. -/
def positSumsSpec : ChangeSpec := { name := "positSums", fn := fun _ => fun
  | [d1, d2, d3, d4] => { results := [.lit (.bool true)], args := [d1, d2, d3, d4] }
  | _ => none }
def positSumsRow : OpenClaim := { program := "ytemngicaoacfaaagreatdoor", sum := "cf811d9696bf73fe94c793a3201ea0f675835711749511ad4a5839c7449c2a43", func := "souk/souklaw23.PositSums", spec := "positSums", inPlace := ["slices.overlaps[souk/api.Position]"], unfollowed := true, recurses := true, named := ["souk/schema.kinds"], plainKeys := false, apart := false, laid := [("souk/schema.kinds", laid_souk_schema_kinds)] }
def PositSumsSaid : Prop := positSumsRow.holds Tryz.pinned (OpenSpec.ofChange positSumsSpec)

/-- ITS FALSE NEIGHBOUR: 'it returns false'. Refute it at one input. -/
def positSumsWrong : ChangeSpec := { name := "positSums", fn := fun _ => fun
  | [d1, d2, d3, d4] => { results := [.lit (.bool false)], args := [d1, d2, d3, d4] }
  | _ => none }
def PositSumsWrongFalsely : Prop := positSumsRow.holds Tryz.pinned (OpenSpec.ofChange positSumsWrong)

/-- 'souklaw23.PositAll': WHATEVER THE INPUT: true; the input reads as it did. -/
def positAllSpec : ChangeSpec := { name := "positAll", fn := fun _ => fun
  | [d] => { results := [.lit (.bool true)], args := [d] }
  | _ => none }
def positAllRow : OpenClaim := { program := "ytemngicaoacfaaagreatdoor", sum := "cf811d9696bf73fe94c793a3201ea0f675835711749511ad4a5839c7449c2a43", func := "souk/souklaw23.PositAll", spec := "positAll", inPlace := ["slices.overlaps[souk/api.Position]"], unfollowed := true, recurses := true, named := ["souk/schema.kinds"], plainKeys := false, apart := false, laid := [("souk/schema.kinds", laid_souk_schema_kinds)] }
def PositAllSaid : Prop := positAllRow.holds Tryz.pinned (OpenSpec.ofChange positAllSpec)

/-- ITS FALSE NEIGHBOUR: 'it returns false'. Refute it at one input. -/
def positAllWrong : ChangeSpec := { name := "positAll", fn := fun _ => fun
  | [d] => { results := [.lit (.bool false)], args := [d] }
  | _ => none }
def PositAllWrongFalsely : Prop := positAllRow.holds Tryz.pinned (OpenSpec.ofChange positAllWrong)

/-- 'souklaw23.PositNames': WHATEVER THE INPUT: true; the input reads as it did. -/
def positNamesSpec : ChangeSpec := { name := "positNames", fn := fun _ => fun
  | [] => { results := [.lit (.bool true)], args := [] }
  | _ => none }
def positNamesRow : OpenClaim := { program := "ytemngicaoacfaaagreatdoor", sum := "cf811d9696bf73fe94c793a3201ea0f675835711749511ad4a5839c7449c2a43", func := "souk/souklaw23.PositNames", spec := "positNames", inPlace := ["slices.overlaps[souk/api.Position]"], unfollowed := true, recurses := true, named := ["souk/schema.kinds"], plainKeys := false, apart := false, laid := [("souk/schema.kinds", laid_souk_schema_kinds)] }
def PositNamesSaid : Prop := positNamesRow.holds Tryz.pinned (OpenSpec.ofChange positNamesSpec)

/-- ITS FALSE NEIGHBOUR: 'it returns false'. Refute it at one input. -/
def positNamesWrong : ChangeSpec := { name := "positNames", fn := fun _ => fun
  | [] => { results := [.lit (.bool false)], args := [] }
  | _ => none }
def PositNamesWrongFalsely : Prop := positNamesRow.holds Tryz.pinned (OpenSpec.ofChange positNamesWrong)

/-- 'souklaw23.PositNever': WHATEVER THE INPUT: true; the input reads as it did. -/
def positNeverSpec : ChangeSpec := { name := "positNever", fn := fun _ => fun
  | [d1, d2, d3, d4] => { results := [.lit (.bool true)], args := [d1, d2, d3, d4] }
  | _ => none }
def positNeverRow : OpenClaim := { program := "ytemngicaoacfaaagreatdoor", sum := "cf811d9696bf73fe94c793a3201ea0f675835711749511ad4a5839c7449c2a43", func := "souk/souklaw23.PositNever", spec := "positNever", inPlace := ["slices.overlaps[souk/api.Position]"], unfollowed := true, recurses := true, named := ["souk/schema.kinds"], plainKeys := false, apart := false, laid := [("souk/schema.kinds", laid_souk_schema_kinds)] }
def PositNeverSaid : Prop := positNeverRow.holds Tryz.pinned (OpenSpec.ofChange positNeverSpec)

/-- ITS FALSE NEIGHBOUR: 'it returns false'. Refute it at one input. -/
def positNeverWrong : ChangeSpec := { name := "positNever", fn := fun _ => fun
  | [d1, d2, d3, d4] => { results := [.lit (.bool false)], args := [d1, d2, d3, d4] }
  | _ => none }
def PositNeverWrongFalsely : Prop := positNeverRow.holds Tryz.pinned (OpenSpec.ofChange positNeverWrong)

/-- 'souklaw23.PositParts': WHATEVER THE INPUT: true; the input reads as it did. -/
def positPartsSpec : ChangeSpec := { name := "positParts", fn := fun _ => fun
  | [d1, d2, d3, d4, d5, d6, d7, d8, d9] => { results := [.lit (.bool true)], args := [d1, d2, d3, d4, d5, d6, d7, d8, d9] }
  | _ => none }
def positPartsRow : OpenClaim := { program := "ytemngicaoacfaaagreatdoor", sum := "cf811d9696bf73fe94c793a3201ea0f675835711749511ad4a5839c7449c2a43", func := "souk/souklaw23.PositParts", spec := "positParts", inPlace := ["slices.overlaps[souk/api.Position]"], unfollowed := true, recurses := true, named := ["souk/schema.kinds"], plainKeys := false, apart := false, laid := [("souk/schema.kinds", laid_souk_schema_kinds)] }
def PositPartsSaid : Prop := positPartsRow.holds Tryz.pinned (OpenSpec.ofChange positPartsSpec)

/-- ITS FALSE NEIGHBOUR: 'it returns false'. Refute it at one input. -/
def positPartsWrong : ChangeSpec := { name := "positParts", fn := fun _ => fun
  | [d1, d2, d3, d4, d5, d6, d7, d8, d9] => { results := [.lit (.bool false)], args := [d1, d2, d3, d4, d5, d6, d7, d8, d9] }
  | _ => none }
def PositPartsWrongFalsely : Prop := positPartsRow.holds Tryz.pinned (OpenSpec.ofChange positPartsWrong)

/- THE SECOND FORM. 'bulk': how many values and letters a reading holds, each counted each time it is reached (what is shared counts as often as it is met; a slice's spare places count too). A statement '..UptoSaid' is the law's where the arguments, and the package variables that the reading takes, are together of bulk at most 1048576: NARROWER than '..Said'. Prove '..Said' where nothing that the law and all that it calls make is longer than what came in: it says more and counts as full. Else prove '..UptoSaid'. A law counts once. -/
mutual
def uptoBulk {H : Type} : DataW H → Nat
  | .lit (.string bytes) => bytes.length + 1
  | .lit _ => 1
  | .nil => 1
  | .ptr d => uptoBulk d + 1
  | .slice elems spare => uptoBulkAll elems + uptoBulkAll spare + 1
  | .agg parts => uptoBulkAll parts + 1
  | .iface _ d => uptoBulk d + 1
  | .map entries => uptoBulkEntries entries + 1
  | .held _ => 1
def uptoBulkAll {H : Type} : List (DataW H) → Nat
  | [] => 0
  | d :: r => uptoBulk d + uptoBulkAll r
def uptoBulkEntries {H : Type} : List (Lit × DataW H) → Nat
  | [] => 0
  | x :: r => uptoBulkEntry x + uptoBulkEntries r
def uptoBulkEntry {H : Type} : Lit × DataW H → Nat
  | (.string bytes, d) => bytes.length + uptoBulk d + 1
  | (_, d) => uptoBulk d + 1
 end
def uptoSmall : (H : Type) → List (DataW H) → Bool := fun _ ds => decide (uptoBulkAll ds ≤ 1048576)
def OpenSpec.upto (s : _root_.Go.ChangeSpec) : _root_.Go.OpenSpec := { _root_.Go.OpenSpec.ofChange s with cond := some uptoSmall }

/-- 'souklaw23.PositEvents', WHERE WHAT IT READS IS OF BULK AT MOST 1048576: true; the input reads as it did. -/
def positEventsUptoRow : OpenClaim := { program := "ytemngicaoacfaaagreatdoor", sum := "cf811d9696bf73fe94c793a3201ea0f675835711749511ad4a5839c7449c2a43", func := "souk/souklaw23.PositEvents", spec := "positEvents", inPlace := ["slices.overlaps[souk/api.Position]"], unfollowed := true, recurses := true, named := ["souk/schema.kinds"], plainKeys := false, apart := false, laid := [("souk/schema.kinds", laid_souk_schema_kinds)], narrowed := true }
def PositEventsUptoSaid : Prop := positEventsUptoRow.holds Tryz.pinned (OpenSpec.upto positEventsSpec)

/-- 'souklaw23.PositSums', WHERE WHAT IT READS IS OF BULK AT MOST 1048576: true; the input reads as it did. -/
def positSumsUptoRow : OpenClaim := { program := "ytemngicaoacfaaagreatdoor", sum := "cf811d9696bf73fe94c793a3201ea0f675835711749511ad4a5839c7449c2a43", func := "souk/souklaw23.PositSums", spec := "positSums", inPlace := ["slices.overlaps[souk/api.Position]"], unfollowed := true, recurses := true, named := ["souk/schema.kinds"], plainKeys := false, apart := false, laid := [("souk/schema.kinds", laid_souk_schema_kinds)], narrowed := true }
def PositSumsUptoSaid : Prop := positSumsUptoRow.holds Tryz.pinned (OpenSpec.upto positSumsSpec)

/-- 'souklaw23.PositAll', WHERE WHAT IT READS IS OF BULK AT MOST 1048576: true; the input reads as it did. -/
def positAllUptoRow : OpenClaim := { program := "ytemngicaoacfaaagreatdoor", sum := "cf811d9696bf73fe94c793a3201ea0f675835711749511ad4a5839c7449c2a43", func := "souk/souklaw23.PositAll", spec := "positAll", inPlace := ["slices.overlaps[souk/api.Position]"], unfollowed := true, recurses := true, named := ["souk/schema.kinds"], plainKeys := false, apart := false, laid := [("souk/schema.kinds", laid_souk_schema_kinds)], narrowed := true }
def PositAllUptoSaid : Prop := positAllUptoRow.holds Tryz.pinned (OpenSpec.upto positAllSpec)

/-- 'souklaw23.PositNames', WHERE WHAT IT READS IS OF BULK AT MOST 1048576: true; the input reads as it did. -/
def positNamesUptoRow : OpenClaim := { program := "ytemngicaoacfaaagreatdoor", sum := "cf811d9696bf73fe94c793a3201ea0f675835711749511ad4a5839c7449c2a43", func := "souk/souklaw23.PositNames", spec := "positNames", inPlace := ["slices.overlaps[souk/api.Position]"], unfollowed := true, recurses := true, named := ["souk/schema.kinds"], plainKeys := false, apart := false, laid := [("souk/schema.kinds", laid_souk_schema_kinds)], narrowed := true }
def PositNamesUptoSaid : Prop := positNamesUptoRow.holds Tryz.pinned (OpenSpec.upto positNamesSpec)

/-- 'souklaw23.PositNever', WHERE WHAT IT READS IS OF BULK AT MOST 1048576: true; the input reads as it did. -/
def positNeverUptoRow : OpenClaim := { program := "ytemngicaoacfaaagreatdoor", sum := "cf811d9696bf73fe94c793a3201ea0f675835711749511ad4a5839c7449c2a43", func := "souk/souklaw23.PositNever", spec := "positNever", inPlace := ["slices.overlaps[souk/api.Position]"], unfollowed := true, recurses := true, named := ["souk/schema.kinds"], plainKeys := false, apart := false, laid := [("souk/schema.kinds", laid_souk_schema_kinds)], narrowed := true }
def PositNeverUptoSaid : Prop := positNeverUptoRow.holds Tryz.pinned (OpenSpec.upto positNeverSpec)

/-- 'souklaw23.PositParts', WHERE WHAT IT READS IS OF BULK AT MOST 1048576: true; the input reads as it did. -/
def positPartsUptoRow : OpenClaim := { program := "ytemngicaoacfaaagreatdoor", sum := "cf811d9696bf73fe94c793a3201ea0f675835711749511ad4a5839c7449c2a43", func := "souk/souklaw23.PositParts", spec := "positParts", inPlace := ["slices.overlaps[souk/api.Position]"], unfollowed := true, recurses := true, named := ["souk/schema.kinds"], plainKeys := false, apart := false, laid := [("souk/schema.kinds", laid_souk_schema_kinds)], narrowed := true }
def PositPartsUptoSaid : Prop := positPartsUptoRow.holds Tryz.pinned (OpenSpec.upto positPartsSpec)

end Rows
end Go.Proofs.YtemngicaoacfaaaGreatDoor
