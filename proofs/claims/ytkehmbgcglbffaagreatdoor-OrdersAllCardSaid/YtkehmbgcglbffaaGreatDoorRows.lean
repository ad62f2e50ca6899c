/-
  NARROWER THAN 'FOR EVERY INPUT', by the rows' own cells (each row's printed sentence says how): OrdersTells: laid · OrdersParted: laid · OrdersAll: laid.
  DERIVED. THE GIVEN ROWS OF THIS SEAT. 3 by the template 'for every input the law returns true; each argument reads behind the call as it read before'; 0 by the template 'total and deterministic' (their statements: YtkehmbgcglbffaaGreatDoorTotals.lean).
  GIVEN WITH THE SEED: the statements are not yours to turn. If you find one false, say at which input.
  Laid BY PROGRAM, IN A SANDBOX (cutbox-rows.mjs): the forced cells as the released guide's own fill.sh prints them over the translation 7351af56bbba9925… (all of the seat's roots in one cut). By AI agents, Wed Nov 11 2026. No macro, syntax, notation, axiom, sorry.
-/
import Derived.Test.YtkehmbgcglbffaaGreatDoorChecked
import GoSem.Claim
import GoSem.ClaimJoined
import GoSem.ClaimMapViews
import Derived.JoinedTies
import Derived.KernelRfl
namespace Go.Proofs.YtkehmbgcglbffaaGreatDoor
/- THE CELL 'sum', in the pinned program and in every row, IS THE sha256 OF THE DUMP (.gsa) THAT YtkehmbgcglbffaaGreatDoorProg.lean LOADS. Nothing in Lean hashes anything: it is a label: what it is worth is what the hold of that sum in a sandbox is worth. -/
noncomputable def Tryz.pinned : Pinned := { name := "ytkehmbgcglbffaagreatdoor", sum := "7351af56bbba99256803e16cf019c092582136b78853f9af9d567161739142ce", checked := Tryz.checked }
namespace Rows
def none {H : Type} : Left H := { results := [], args := [] }

/- WHAT THE LISTED PACKAGE-LEVEL VARIABLES READ AS WHEN THE CALL BEGINS. Each datum BY PROGRAM (the guide's laid-datum.mjs) off the statement by which the dump's own 'gosem.cut.vars' lays the variable. In a bare row this is a premise. The card (YtkehmbgcglbffaaGreatDoorCards.lean) ties it to the program's text. -/
def laid_souk_schema_kinds {H : Type} : DataW H := .agg [.agg [.lit (.string [111, 112, 101, 110, 101, 100]), .agg [.lit (.string [97]), .lit (.string [97]), .lit (.string [97])], .lit (.bool true)], .agg [.lit (.string [99, 108, 111, 115, 101, 100]), .agg [.lit (.string [97]), .lit (.string [97]), .lit (.string [97])], .lit (.bool false)], .agg [.lit (.string [108, 105, 115, 116, 101, 100]), .agg [.lit (.string [105]), .lit (.string [105, 107]), .lit (.string [105, 107])], .lit (.bool true)], .agg [.lit (.string [104, 97, 108, 116, 101, 100]), .agg [.lit (.string [105]), .lit (.string [105]), .lit (.string [105])], .lit (.bool false)], .agg [.lit (.string [114, 101, 115, 117, 109, 101, 100]), .agg [.lit (.string [105]), .lit (.string [105]), .lit (.string [105])], .lit (.bool false)], .agg [.lit (.string [100, 101, 112, 111, 115, 105, 116, 101, 100]), .agg [.lit (.string [97, 109]), .lit (.string [97, 109]), .lit (.string [97, 109])], .lit (.bool false)], .agg [.lit (.string [119, 105, 116, 104, 100, 114, 97, 119, 110]), .agg [.lit (.string [97, 109]), .lit (.string [97, 109]), .lit (.string [97, 109])], .lit (.bool false)], .agg [.lit (.string [105, 115, 115, 117, 101, 100]), .agg [.lit (.string [97, 105, 113]), .lit (.string [97, 105, 113]), .lit (.string [97, 105, 113])], .lit (.bool false)], .agg [.lit (.string [114, 101, 100, 101, 101, 109, 101, 100]), .agg [.lit (.string [97, 105, 113]), .lit (.string [97, 105, 113]), .lit (.string [97, 105, 113])], .lit (.bool false)], .agg [.lit (.string [102, 101, 101, 32, 115, 101, 116]), .agg [.lit (.string [98]), .lit (.string [98]), .lit (.string [98])], .lit (.bool false)], .agg [.lit (.string [112, 108, 97, 99, 101, 100]), .agg [.lit (.string [111, 97, 105, 115, 112, 113]), .lit (.string [111, 97, 105, 115, 112, 113]), .lit (.string [111, 97, 105, 115, 112, 113])], .lit (.bool false)], .agg [.lit (.string [99, 97, 110, 99, 101, 108, 108, 101, 100]), .agg [.lit (.string [111]), .lit (.string [111]), .lit (.string [111])], .lit (.bool false)], .agg [.lit (.string [116, 114, 97, 100, 101, 100]), .agg [.lit (.string [111, 111, 112, 113]), .lit (.string [111, 111, 112, 113, 122]), .lit (.string [111, 111, 112, 113, 122])], .lit (.bool false)], .agg [.lit (.string [101, 110, 103, 108, 105, 115, 104]), .agg [.lit (.string [99, 97, 105, 113, 109, 116]), .lit (.string [99, 97, 105, 113, 109, 109, 116]), .lit (.string [99, 97, 105, 113, 109, 109, 116])], .lit (.bool false)], .agg [.lit (.string [114, 97, 105, 115, 101, 100]), .agg [.lit (.string [99, 97, 109]), .lit (.string [99, 97, 109]), .lit (.string [99, 97, 109])], .lit (.bool false)], .agg [.lit (.string [115, 101, 97, 108, 101, 100]), .agg [.lit (.string [99, 97, 105, 113, 109, 116]), .lit (.string [99, 97, 105, 113, 109, 116]), .lit (.string [99, 97, 105, 113, 109, 116])], .lit (.bool false)], .agg [.lit (.string [98, 105, 100]), .agg [.lit (.string [99, 97, 109]), .lit (.string [99, 97, 109]), .lit (.string [99, 97, 109])], .lit (.bool false)], .agg [.lit (.string [115, 111, 108, 100]), .agg [.lit (.string [99, 97, 109]), .lit (.string [99, 97, 109, 122]), .lit (.string [99, 97, 109, 122])], .lit (.bool false)], .agg [.lit (.string [117, 110, 115, 111, 108, 100]), .agg [.lit (.string [99]), .lit (.string [99]), .lit (.string [99])], .lit (.bool false)], .agg [.lit (.string [109, 111, 118, 101, 100]), .agg [.lit (.string [116]), .lit (.string [116]), .lit (.string [116])], .lit (.bool false)], .agg [.lit (.string [116, 114, 97, 110, 115, 102, 101, 114, 114, 101, 100]), .agg [.lit (.string [32]), .lit (.string [97, 97, 109]), .lit (.string [97, 97, 109])], .lit (.bool false)], .agg [.lit (.string [114, 101, 110, 97, 109, 101, 100]), .agg [.lit (.string [32]), .lit (.string [32]), .lit (.string [97])], .lit (.bool true)], .agg [.lit (.string [116, 105, 99, 107, 101, 100]), .agg [.lit (.string [32]), .lit (.string [32]), .lit (.string [105, 107])], .lit (.bool false)]]

/-- 'souklaw22.OrdersTells': WHATEVER THE INPUT: true; the input reads as it did. -/
def ordersTellsSpec : ChangeSpec := { name := "ordersTells", fn := fun _ => fun
  | [d1, d2, d3] => { results := [.lit (.bool true)], args := [d1, d2, d3] }
  | _ => none }
def ordersTellsRow : OpenClaim := { program := "ytkehmbgcglbffaagreatdoor", sum := "7351af56bbba99256803e16cf019c092582136b78853f9af9d567161739142ce", func := "souk/souklaw22.OrdersTells", spec := "ordersTells", unfollowed := true, recurses := true, named := ["souk/schema.kinds"], apart := false, laid := [("souk/schema.kinds", laid_souk_schema_kinds)] }
def OrdersTellsSaid : Prop := ordersTellsRow.holds Tryz.pinned (OpenSpec.ofChange ordersTellsSpec)

/-- ITS FALSE NEIGHBOUR: 'it returns false'. Refute it at one input. -/
def ordersTellsWrong : ChangeSpec := { name := "ordersTells", fn := fun _ => fun
  | [d1, d2, d3] => { results := [.lit (.bool false)], args := [d1, d2, d3] }
  | _ => none }
def OrdersTellsWrongFalsely : Prop := ordersTellsRow.holds Tryz.pinned (OpenSpec.ofChange ordersTellsWrong)

/-- 'souklaw22.OrdersParted': WHATEVER THE INPUT: true; the input reads as it did. -/
def ordersPartedSpec : ChangeSpec := { name := "ordersParted", fn := fun _ => fun
  | [d1, d2, d3] => { results := [.lit (.bool true)], args := [d1, d2, d3] }
  | _ => none }
def ordersPartedRow : OpenClaim := { program := "ytkehmbgcglbffaagreatdoor", sum := "7351af56bbba99256803e16cf019c092582136b78853f9af9d567161739142ce", func := "souk/souklaw22.OrdersParted", spec := "ordersParted", unfollowed := true, recurses := true, named := ["souk/schema.kinds"], apart := false, laid := [("souk/schema.kinds", laid_souk_schema_kinds)] }
def OrdersPartedSaid : Prop := ordersPartedRow.holds Tryz.pinned (OpenSpec.ofChange ordersPartedSpec)

/-- ITS FALSE NEIGHBOUR: 'it returns false'. Refute it at one input. -/
def ordersPartedWrong : ChangeSpec := { name := "ordersParted", fn := fun _ => fun
  | [d1, d2, d3] => { results := [.lit (.bool false)], args := [d1, d2, d3] }
  | _ => none }
def OrdersPartedWrongFalsely : Prop := ordersPartedRow.holds Tryz.pinned (OpenSpec.ofChange ordersPartedWrong)

/-- 'souklaw22.OrdersAll': WHATEVER THE INPUT: true; the input reads as it did. -/
def ordersAllSpec : ChangeSpec := { name := "ordersAll", fn := fun _ => fun
  | [d] => { results := [.lit (.bool true)], args := [d] }
  | _ => none }
def ordersAllRow : OpenClaim := { program := "ytkehmbgcglbffaagreatdoor", sum := "7351af56bbba99256803e16cf019c092582136b78853f9af9d567161739142ce", func := "souk/souklaw22.OrdersAll", spec := "ordersAll", unfollowed := true, recurses := true, named := ["souk/schema.kinds"], apart := false, laid := [("souk/schema.kinds", laid_souk_schema_kinds)] }
def OrdersAllSaid : Prop := ordersAllRow.holds Tryz.pinned (OpenSpec.ofChange ordersAllSpec)

/-- ITS FALSE NEIGHBOUR: 'it returns false'. Refute it at one input. -/
def ordersAllWrong : ChangeSpec := { name := "ordersAll", fn := fun _ => fun
  | [d] => { results := [.lit (.bool false)], args := [d] }
  | _ => none }
def OrdersAllWrongFalsely : Prop := ordersAllRow.holds Tryz.pinned (OpenSpec.ofChange ordersAllWrong)

/- THE SECOND FORM. 'bulk': how many values and letters a reading holds, each counted each time it is reached (what is shared counts as often as it is met; a slice's spare places count too). A statement '..UptoSaid' is the law's where the arguments, and the package variables that the reading takes, are together of bulk at most 1048576: NARROWER than '..Said'. Prove '..Said' where nothing that the law and all that it calls make is longer than what came in: it says more and counts as full. Else prove '..UptoSaid'. A law counts once. -/
mutual
def uptoBulk {H : Type} : DataW H → Nat
  | .lit (.string bytes) => bytes.length + 1
  | .lit _ => 1
  | .nil => 1
  | .ptr d => uptoBulk d + 1
  | .slice elems spare => uptoBulkAll elems + uptoBulkAll spare + 1
  | .agg parts => uptoBulkAll parts + 1
  | .iface _ d => uptoBulk d + 1
  | .map entries => uptoBulkEntries entries + 1
  | .held _ => 1
def uptoBulkAll {H : Type} : List (DataW H) → Nat
  | [] => 0
  | d :: r => uptoBulk d + uptoBulkAll r
def uptoBulkEntries {H : Type} : List (Lit × DataW H) → Nat
  | [] => 0
  | x :: r => uptoBulkEntry x + uptoBulkEntries r
def uptoBulkEntry {H : Type} : Lit × DataW H → Nat
  | (.string bytes, d) => bytes.length + uptoBulk d + 1
  | (_, d) => uptoBulk d + 1
 end
def uptoSmall : (H : Type) → List (DataW H) → Bool := fun _ ds => decide (uptoBulkAll ds ≤ 1048576)
def OpenSpec.upto (s : _root_.Go.ChangeSpec) : _root_.Go.OpenSpec := { _root_.Go.OpenSpec.ofChange s with cond := some uptoSmall }

/-- 'souklaw22.OrdersTells', WHERE WHAT IT READS IS OF BULK AT MOST 1048576: true; the input reads as it did. -/
def ordersTellsUptoRow : OpenClaim := { program := "ytkehmbgcglbffaagreatdoor", sum := "7351af56bbba99256803e16cf019c092582136b78853f9af9d567161739142ce", func := "souk/souklaw22.OrdersTells", spec := "ordersTells", unfollowed := true, recurses := true, named := ["souk/schema.kinds"], apart := false, laid := [("souk/schema.kinds", laid_souk_schema_kinds)], narrowed := true }
def OrdersTellsUptoSaid : Prop := ordersTellsUptoRow.holds Tryz.pinned (OpenSpec.upto ordersTellsSpec)

/-- 'souklaw22.OrdersParted', WHERE WHAT IT READS IS OF BULK AT MOST 1048576: true; the input reads as it did. -/
def ordersPartedUptoRow : OpenClaim := { program := "ytkehmbgcglbffaagreatdoor", sum := "7351af56bbba99256803e16cf019c092582136b78853f9af9d567161739142ce", func := "souk/souklaw22.OrdersParted", spec := "ordersParted", unfollowed := true, recurses := true, named := ["souk/schema.kinds"], apart := false, laid := [("souk/schema.kinds", laid_souk_schema_kinds)], narrowed := true }
def OrdersPartedUptoSaid : Prop := ordersPartedUptoRow.holds Tryz.pinned (OpenSpec.upto ordersPartedSpec)

/-- 'souklaw22.OrdersAll', WHERE WHAT IT READS IS OF BULK AT MOST 1048576: true; the input reads as it did. -/
def ordersAllUptoRow : OpenClaim := { program := "ytkehmbgcglbffaagreatdoor", sum := "7351af56bbba99256803e16cf019c092582136b78853f9af9d567161739142ce", func := "souk/souklaw22.OrdersAll", spec := "ordersAll", unfollowed := true, recurses := true, named := ["souk/schema.kinds"], apart := false, laid := [("souk/schema.kinds", laid_souk_schema_kinds)], narrowed := true }
def OrdersAllUptoSaid : Prop := ordersAllUptoRow.holds Tryz.pinned (OpenSpec.upto ordersAllSpec)

end Rows
end Go.Proofs.YtkehmbgcglbffaaGreatDoor
