/-
  NARROWER THAN 'FOR EVERY INPUT', by the rows' own cells (each row's printed sentence says how): BookHolds: laid · BookRow: laid · BookCrossing: laid · BookTells: laid · BookFirst: laid · BookMakes: laid · BookBack: laid · BookNames: laid.
  DERIVED. THE GIVEN ROWS OF THIS SEAT. 8 by the template 'for every input the law returns true; each argument reads behind the call as it read before'; 0 by the template 'total and deterministic' (their statements: YtecfajnmekpeoaaDoorTotals.lean).
  GIVEN WITH THE SEED: the statements are not yours to turn. If you find one false, say at which input.
  Laid BY PROGRAM, IN A SANDBOX (cutbox-rows.mjs): the forced cells as the released guide's own fill.sh prints them over the translation 2eed606c6adc5c40… (all of the seat's roots in one cut). By AI agents, Wed Nov 11 2026. No macro, syntax, notation, axiom, sorry.
-/
import Derived.Test.YtecfajnmekpeoaaDoorChecked
import GoSem.Claim
import GoSem.ClaimJoined
import GoSem.ClaimMapViews
import Derived.JoinedTies
import Derived.KernelRfl
namespace Go.Proofs.YtecfajnmekpeoaaDoor
/- THE CELL 'sum', in the pinned program and in every row, IS THE sha256 OF THE DUMP (.gsa) THAT YtecfajnmekpeoaaDoorProg.lean LOADS. Nothing in Lean hashes anything: it is a label: what it is worth is what the hold of that sum in a sandbox is worth. -/
noncomputable def Tryd.pinned : Pinned := { name := "ytecfajnmekpeoaadoor", sum := "2eed606c6adc5c40e0b7fa527771c0ccf113745bc06fe1e4befccecfbbebaa6f", checked := Tryd.checked }
namespace Rows
def none {H : Type} : Left H := { results := [], args := [] }

/- WHAT THE LISTED PACKAGE-LEVEL VARIABLES READ AS WHEN THE CALL BEGINS. Each datum BY PROGRAM (the guide's laid-datum.mjs) off the statement by which the dump's own 'gosem.cut.vars' lays the variable. In a bare row this is a premise. The card (YtecfajnmekpeoaaDoorCards.lean) ties it to the program's text. -/
def laid_souk_book_prices {H : Type} : DataW H := .iface "func table" (.agg [.nil, .iface "func" (.lit (.string [115, 111, 117, 107, 47, 98, 111, 111, 107, 46, 112, 114, 105, 99, 101, 115, 36, 49])), .iface "func" (.lit (.string [115, 111, 117, 107, 47, 98, 111, 111, 107, 46, 112, 114, 105, 99, 101, 115, 36, 50]))])

/-- 'souklaw16.BookHolds': WHATEVER THE INPUT: true; the input reads as it did. -/
def bookHoldsSpec : ChangeSpec := { name := "bookHolds", fn := fun _ => fun
  | [d1, d2] => { results := [.lit (.bool true)], args := [d1, d2] }
  | _ => none }
def bookHoldsRow : OpenClaim := { program := "ytecfajnmekpeoaadoor", sum := "2eed606c6adc5c40e0b7fa527771c0ccf113745bc06fe1e4befccecfbbebaa6f", func := "souk/souklaw16.BookHolds", spec := "bookHolds", unfollowed := true, recurses := true, named := ["souk/book.prices"], apart := false, laid := [("souk/book.prices", laid_souk_book_prices)] }
def BookHoldsSaid : Prop := bookHoldsRow.holds Tryd.pinned (OpenSpec.ofChange bookHoldsSpec)

/-- ITS FALSE NEIGHBOUR: 'it returns false'. Refute it at one input. -/
def bookHoldsWrong : ChangeSpec := { name := "bookHolds", fn := fun _ => fun
  | [d1, d2] => { results := [.lit (.bool false)], args := [d1, d2] }
  | _ => none }
def BookHoldsWrongFalsely : Prop := bookHoldsRow.holds Tryd.pinned (OpenSpec.ofChange bookHoldsWrong)

/-- 'souklaw16.BookRow': WHATEVER THE INPUT: true; the input reads as it did. -/
def bookRowSpec : ChangeSpec := { name := "bookRow", fn := fun _ => fun
  | [d1, d2, d3] => { results := [.lit (.bool true)], args := [d1, d2, d3] }
  | _ => none }
def bookRowRow : OpenClaim := { program := "ytecfajnmekpeoaadoor", sum := "2eed606c6adc5c40e0b7fa527771c0ccf113745bc06fe1e4befccecfbbebaa6f", func := "souk/souklaw16.BookRow", spec := "bookRow", unfollowed := true, recurses := true, named := ["souk/book.prices"], apart := false, laid := [("souk/book.prices", laid_souk_book_prices)] }
def BookRowSaid : Prop := bookRowRow.holds Tryd.pinned (OpenSpec.ofChange bookRowSpec)

/-- ITS FALSE NEIGHBOUR: 'it returns false'. Refute it at one input. -/
def bookRowWrong : ChangeSpec := { name := "bookRow", fn := fun _ => fun
  | [d1, d2, d3] => { results := [.lit (.bool false)], args := [d1, d2, d3] }
  | _ => none }
def BookRowWrongFalsely : Prop := bookRowRow.holds Tryd.pinned (OpenSpec.ofChange bookRowWrong)

/-- 'souklaw16.BookCrossing': WHATEVER THE INPUT: true; the input reads as it did. -/
def bookCrossingSpec : ChangeSpec := { name := "bookCrossing", fn := fun _ => fun
  | [d1, d2, d3, d4] => { results := [.lit (.bool true)], args := [d1, d2, d3, d4] }
  | _ => none }
def bookCrossingRow : OpenClaim := { program := "ytecfajnmekpeoaadoor", sum := "2eed606c6adc5c40e0b7fa527771c0ccf113745bc06fe1e4befccecfbbebaa6f", func := "souk/souklaw16.BookCrossing", spec := "bookCrossing", unfollowed := true, recurses := true, named := ["souk/book.prices"], apart := false, laid := [("souk/book.prices", laid_souk_book_prices)] }
def BookCrossingSaid : Prop := bookCrossingRow.holds Tryd.pinned (OpenSpec.ofChange bookCrossingSpec)

/-- ITS FALSE NEIGHBOUR: 'it returns false'. Refute it at one input. -/
def bookCrossingWrong : ChangeSpec := { name := "bookCrossing", fn := fun _ => fun
  | [d1, d2, d3, d4] => { results := [.lit (.bool false)], args := [d1, d2, d3, d4] }
  | _ => none }
def BookCrossingWrongFalsely : Prop := bookCrossingRow.holds Tryd.pinned (OpenSpec.ofChange bookCrossingWrong)

/-- 'souklaw16.BookTells': WHATEVER THE INPUT: true; the input reads as it did. -/
def bookTellsSpec : ChangeSpec := { name := "bookTells", fn := fun _ => fun
  | [d1, d2, d3, d4, d5, d6] => { results := [.lit (.bool true)], args := [d1, d2, d3, d4, d5, d6] }
  | _ => none }
def bookTellsRow : OpenClaim := { program := "ytecfajnmekpeoaadoor", sum := "2eed606c6adc5c40e0b7fa527771c0ccf113745bc06fe1e4befccecfbbebaa6f", func := "souk/souklaw16.BookTells", spec := "bookTells", unfollowed := true, recurses := true, named := ["souk/book.prices"], apart := false, laid := [("souk/book.prices", laid_souk_book_prices)] }
def BookTellsSaid : Prop := bookTellsRow.holds Tryd.pinned (OpenSpec.ofChange bookTellsSpec)

/-- ITS FALSE NEIGHBOUR: 'it returns false'. Refute it at one input. -/
def bookTellsWrong : ChangeSpec := { name := "bookTells", fn := fun _ => fun
  | [d1, d2, d3, d4, d5, d6] => { results := [.lit (.bool false)], args := [d1, d2, d3, d4, d5, d6] }
  | _ => none }
def BookTellsWrongFalsely : Prop := bookTellsRow.holds Tryd.pinned (OpenSpec.ofChange bookTellsWrong)

/-- 'souklaw16.BookFirst': WHATEVER THE INPUT: true; the input reads as it did. -/
def bookFirstSpec : ChangeSpec := { name := "bookFirst", fn := fun _ => fun
  | [d1, d2, d3] => { results := [.lit (.bool true)], args := [d1, d2, d3] }
  | _ => none }
def bookFirstRow : OpenClaim := { program := "ytecfajnmekpeoaadoor", sum := "2eed606c6adc5c40e0b7fa527771c0ccf113745bc06fe1e4befccecfbbebaa6f", func := "souk/souklaw16.BookFirst", spec := "bookFirst", unfollowed := true, recurses := true, named := ["souk/book.prices"], apart := false, laid := [("souk/book.prices", laid_souk_book_prices)] }
def BookFirstSaid : Prop := bookFirstRow.holds Tryd.pinned (OpenSpec.ofChange bookFirstSpec)

/-- ITS FALSE NEIGHBOUR: 'it returns false'. Refute it at one input. -/
def bookFirstWrong : ChangeSpec := { name := "bookFirst", fn := fun _ => fun
  | [d1, d2, d3] => { results := [.lit (.bool false)], args := [d1, d2, d3] }
  | _ => none }
def BookFirstWrongFalsely : Prop := bookFirstRow.holds Tryd.pinned (OpenSpec.ofChange bookFirstWrong)

/-- 'souklaw16.BookMakes': WHATEVER THE INPUT: true; the input reads as it did. -/
def bookMakesSpec : ChangeSpec := { name := "bookMakes", fn := fun _ => fun
  | [d1, d2, d3, d4] => { results := [.lit (.bool true)], args := [d1, d2, d3, d4] }
  | _ => none }
def bookMakesRow : OpenClaim := { program := "ytecfajnmekpeoaadoor", sum := "2eed606c6adc5c40e0b7fa527771c0ccf113745bc06fe1e4befccecfbbebaa6f", func := "souk/souklaw16.BookMakes", spec := "bookMakes", unfollowed := true, recurses := true, named := ["souk/book.prices"], apart := false, laid := [("souk/book.prices", laid_souk_book_prices)] }
def BookMakesSaid : Prop := bookMakesRow.holds Tryd.pinned (OpenSpec.ofChange bookMakesSpec)

/-- ITS FALSE NEIGHBOUR: 'it returns false'. Refute it at one input. -/
def bookMakesWrong : ChangeSpec := { name := "bookMakes", fn := fun _ => fun
  | [d1, d2, d3, d4] => { results := [.lit (.bool false)], args := [d1, d2, d3, d4] }
  | _ => none }
def BookMakesWrongFalsely : Prop := bookMakesRow.holds Tryd.pinned (OpenSpec.ofChange bookMakesWrong)

/-- 'souklaw16.BookBack': WHATEVER THE INPUT: true; the input reads as it did. -/
def bookBackSpec : ChangeSpec := { name := "bookBack", fn := fun _ => fun
  | [d1, d2, d3, d4, d5] => { results := [.lit (.bool true)], args := [d1, d2, d3, d4, d5] }
  | _ => none }
def bookBackRow : OpenClaim := { program := "ytecfajnmekpeoaadoor", sum := "2eed606c6adc5c40e0b7fa527771c0ccf113745bc06fe1e4befccecfbbebaa6f", func := "souk/souklaw16.BookBack", spec := "bookBack", unfollowed := true, recurses := true, named := ["souk/book.prices"], apart := false, laid := [("souk/book.prices", laid_souk_book_prices)] }
def BookBackSaid : Prop := bookBackRow.holds Tryd.pinned (OpenSpec.ofChange bookBackSpec)

/-- ITS FALSE NEIGHBOUR: 'it returns false'. Refute it at one input. -/
def bookBackWrong : ChangeSpec := { name := "bookBack", fn := fun _ => fun
  | [d1, d2, d3, d4, d5] => { results := [.lit (.bool false)], args := [d1, d2, d3, d4, d5] }
  | _ => none }
def BookBackWrongFalsely : Prop := bookBackRow.holds Tryd.pinned (OpenSpec.ofChange bookBackWrong)

/-- 'souklaw16.BookNames': WHATEVER THE INPUT: true; the input reads as it did. -/
def bookNamesSpec : ChangeSpec := { name := "bookNames", fn := fun _ => fun
  | [] => { results := [.lit (.bool true)], args := [] }
  | _ => none }
def bookNamesRow : OpenClaim := { program := "ytecfajnmekpeoaadoor", sum := "2eed606c6adc5c40e0b7fa527771c0ccf113745bc06fe1e4befccecfbbebaa6f", func := "souk/souklaw16.BookNames", spec := "bookNames", unfollowed := true, recurses := true, named := ["souk/book.prices"], apart := false, laid := [("souk/book.prices", laid_souk_book_prices)] }
def BookNamesSaid : Prop := bookNamesRow.holds Tryd.pinned (OpenSpec.ofChange bookNamesSpec)

/-- ITS FALSE NEIGHBOUR: 'it returns false'. Refute it at one input. -/
def bookNamesWrong : ChangeSpec := { name := "bookNames", fn := fun _ => fun
  | [] => { results := [.lit (.bool false)], args := [] }
  | _ => none }
def BookNamesWrongFalsely : Prop := bookNamesRow.holds Tryd.pinned (OpenSpec.ofChange bookNamesWrong)

/- THE SECOND FORM. 'bulk': how many values and letters a reading holds, each counted each time it is reached (what is shared counts as often as it is met; a slice's spare places count too). A statement '..UptoSaid' is the law's where the arguments, and the package variables that the reading takes, are together of bulk at most 1048576: NARROWER than '..Said'. Prove '..Said' where nothing that the law and all that it calls make is longer than what came in: it says more and counts as full. Else prove '..UptoSaid'. A law counts once. -/
mutual
def uptoBulk {H : Type} : DataW H → Nat
  | .lit (.string bytes) => bytes.length + 1
  | .lit _ => 1
  | .nil => 1
  | .ptr d => uptoBulk d + 1
  | .slice elems spare => uptoBulkAll elems + uptoBulkAll spare + 1
  | .agg parts => uptoBulkAll parts + 1
  | .iface _ d => uptoBulk d + 1
  | .map entries => uptoBulkEntries entries + 1
  | .held _ => 1
def uptoBulkAll {H : Type} : List (DataW H) → Nat
  | [] => 0
  | d :: r => uptoBulk d + uptoBulkAll r
def uptoBulkEntries {H : Type} : List (Lit × DataW H) → Nat
  | [] => 0
  | x :: r => uptoBulkEntry x + uptoBulkEntries r
def uptoBulkEntry {H : Type} : Lit × DataW H → Nat
  | (.string bytes, d) => bytes.length + uptoBulk d + 1
  | (_, d) => uptoBulk d + 1
 end
def uptoSmall : (H : Type) → List (DataW H) → Bool := fun _ ds => decide (uptoBulkAll ds ≤ 1048576)
def OpenSpec.upto (s : _root_.Go.ChangeSpec) : _root_.Go.OpenSpec := { _root_.Go.OpenSpec.ofChange s with cond := some uptoSmall }

/-- 'souklaw16.BookHolds', WHERE WHAT IT READS IS OF BULK AT MOST 1048576: true; the input reads as it did. -/
def bookHoldsUptoRow : OpenClaim := { program := "ytecfajnmekpeoaadoor", sum := "2eed606c6adc5c40e0b7fa527771c0ccf113745bc06fe1e4befccecfbbebaa6f", func := "souk/souklaw16.BookHolds", spec := "bookHolds", unfollowed := true, recurses := true, named := ["souk/book.prices"], apart := false, laid := [("souk/book.prices", laid_souk_book_prices)], narrowed := true }
def BookHoldsUptoSaid : Prop := bookHoldsUptoRow.holds Tryd.pinned (OpenSpec.upto bookHoldsSpec)

/-- 'souklaw16.BookRow', WHERE WHAT IT READS IS OF BULK AT MOST 1048576: true; the input reads as it did. -/
def bookRowUptoRow : OpenClaim := { program := "ytecfajnmekpeoaadoor", sum := "2eed606c6adc5c40e0b7fa527771c0ccf113745bc06fe1e4befccecfbbebaa6f", func := "souk/souklaw16.BookRow", spec := "bookRow", unfollowed := true, recurses := true, named := ["souk/book.prices"], apart := false, laid := [("souk/book.prices", laid_souk_book_prices)], narrowed := true }
def BookRowUptoSaid : Prop := bookRowUptoRow.holds Tryd.pinned (OpenSpec.upto bookRowSpec)

/-- 'souklaw16.BookCrossing', WHERE WHAT IT READS IS OF BULK AT MOST 1048576: true; the input reads as it did. -/
def bookCrossingUptoRow : OpenClaim := { program := "ytecfajnmekpeoaadoor", sum := "2eed606c6adc5c40e0b7fa527771c0ccf113745bc06fe1e4befccecfbbebaa6f", func := "souk/souklaw16.BookCrossing", spec := "bookCrossing", unfollowed := true, recurses := true, named := ["souk/book.prices"], apart := false, laid := [("souk/book.prices", laid_souk_book_prices)], narrowed := true }
def BookCrossingUptoSaid : Prop := bookCrossingUptoRow.holds Tryd.pinned (OpenSpec.upto bookCrossingSpec)

/-- 'souklaw16.BookTells', WHERE WHAT IT READS IS OF BULK AT MOST 1048576: true; the input reads as it did. -/
def bookTellsUptoRow : OpenClaim := { program := "ytecfajnmekpeoaadoor", sum := "2eed606c6adc5c40e0b7fa527771c0ccf113745bc06fe1e4befccecfbbebaa6f", func := "souk/souklaw16.BookTells", spec := "bookTells", unfollowed := true, recurses := true, named := ["souk/book.prices"], apart := false, laid := [("souk/book.prices", laid_souk_book_prices)], narrowed := true }
def BookTellsUptoSaid : Prop := bookTellsUptoRow.holds Tryd.pinned (OpenSpec.upto bookTellsSpec)

/-- 'souklaw16.BookFirst', WHERE WHAT IT READS IS OF BULK AT MOST 1048576: true; the input reads as it did. -/
def bookFirstUptoRow : OpenClaim := { program := "ytecfajnmekpeoaadoor", sum := "2eed606c6adc5c40e0b7fa527771c0ccf113745bc06fe1e4befccecfbbebaa6f", func := "souk/souklaw16.BookFirst", spec := "bookFirst", unfollowed := true, recurses := true, named := ["souk/book.prices"], apart := false, laid := [("souk/book.prices", laid_souk_book_prices)], narrowed := true }
def BookFirstUptoSaid : Prop := bookFirstUptoRow.holds Tryd.pinned (OpenSpec.upto bookFirstSpec)

/-- 'souklaw16.BookMakes', WHERE WHAT IT READS IS OF BULK AT MOST 1048576: true; the input reads as it did. -/
def bookMakesUptoRow : OpenClaim := { program := "ytecfajnmekpeoaadoor", sum := "2eed606c6adc5c40e0b7fa527771c0ccf113745bc06fe1e4befccecfbbebaa6f", func := "souk/souklaw16.BookMakes", spec := "bookMakes", unfollowed := true, recurses := true, named := ["souk/book.prices"], apart := false, laid := [("souk/book.prices", laid_souk_book_prices)], narrowed := true }
def BookMakesUptoSaid : Prop := bookMakesUptoRow.holds Tryd.pinned (OpenSpec.upto bookMakesSpec)

/-- 'souklaw16.BookBack', WHERE WHAT IT READS IS OF BULK AT MOST 1048576: true; the input reads as it did. -/
def bookBackUptoRow : OpenClaim := { program := "ytecfajnmekpeoaadoor", sum := "2eed606c6adc5c40e0b7fa527771c0ccf113745bc06fe1e4befccecfbbebaa6f", func := "souk/souklaw16.BookBack", spec := "bookBack", unfollowed := true, recurses := true, named := ["souk/book.prices"], apart := false, laid := [("souk/book.prices", laid_souk_book_prices)], narrowed := true }
def BookBackUptoSaid : Prop := bookBackUptoRow.holds Tryd.pinned (OpenSpec.upto bookBackSpec)

/-- 'souklaw16.BookNames', WHERE WHAT IT READS IS OF BULK AT MOST 1048576: true; the input reads as it did. -/
def bookNamesUptoRow : OpenClaim := { program := "ytecfajnmekpeoaadoor", sum := "2eed606c6adc5c40e0b7fa527771c0ccf113745bc06fe1e4befccecfbbebaa6f", func := "souk/souklaw16.BookNames", spec := "bookNames", unfollowed := true, recurses := true, named := ["souk/book.prices"], apart := false, laid := [("souk/book.prices", laid_souk_book_prices)], narrowed := true }
def BookNamesUptoSaid : Prop := bookNamesUptoRow.holds Tryd.pinned (OpenSpec.upto bookNamesSpec)

end Rows
end Go.Proofs.YtecfajnmekpeoaaDoor
