/-
  NARROWER THAN 'FOR EVERY INPUT', by the rows' own cells (each row's printed sentence says how): CountNumbers: laid · CountMeet: laid · CountRise: laid · CountLists: laid · CountUnion: laid · CountSets: laid · CountBack: laid.
  DERIVED. THE GIVEN ROWS OF THIS SEAT. 7 by the template 'for every input the law returns true; each argument reads behind the call as it read before'; 0 by the template 'total and deterministic' (their statements: YtnfmnhbcjapmpaaDoorTotals.lean).
  GIVEN WITH THE SEED: the statements are not yours to turn. If you find one false, say at which input.
  Laid BY PROGRAM, IN A SANDBOX (cutbox-rows.mjs): the forced cells as the released guide's own fill.sh prints them over the translation b2813a0c230b8c48… (all of the seat's roots in one cut). By AI agents, Wed Nov 11 2026. No macro, syntax, notation, axiom, sorry.
-/
import Derived.Test.YtnfmnhbcjapmpaaDoorChecked
import GoSem.Claim
import GoSem.ClaimJoined
import GoSem.ClaimMapViews
import Derived.JoinedTies
import Derived.KernelRfl
namespace Go.Proofs.YtnfmnhbcjapmpaaDoor
/- THE CELL 'sum', in the pinned program and in every row, IS THE sha256 OF THE DUMP (.gsa) THAT YtnfmnhbcjapmpaaDoorProg.lean LOADS. Nothing in Lean hashes anything: it is a label: what it is worth is what the hold of that sum in a sandbox is worth. -/
noncomputable def Tryd.pinned : Pinned := { name := "ytnfmnhbcjapmpaadoor", sum := "b2813a0c230b8c48b70fb017ad3f38e953112d2e8f3cb4fd0f9f3a1b7057a0e2", checked := Tryd.checked }
namespace Rows
def none {H : Type} : Left H := { results := [], args := [] }

/- WHAT THE LISTED PACKAGE-LEVEL VARIABLES READ AS WHEN THE CALL BEGINS. Each datum BY PROGRAM (the guide's laid-datum.mjs) off the statement by which the dump's own 'gosem.cut.vars' lays the variable. In a bare row this is a premise. The card (YtnfmnhbcjapmpaaDoorCards.lean) ties it to the program's text. -/
def laid_math_bits_deBruijn32tab {H : Type} : DataW H := .agg [.lit (.int .u8 0), .lit (.int .u8 1), .lit (.int .u8 28), .lit (.int .u8 2), .lit (.int .u8 29), .lit (.int .u8 14), .lit (.int .u8 24), .lit (.int .u8 3), .lit (.int .u8 30), .lit (.int .u8 22), .lit (.int .u8 20), .lit (.int .u8 15), .lit (.int .u8 25), .lit (.int .u8 17), .lit (.int .u8 4), .lit (.int .u8 8), .lit (.int .u8 31), .lit (.int .u8 27), .lit (.int .u8 13), .lit (.int .u8 23), .lit (.int .u8 21), .lit (.int .u8 19), .lit (.int .u8 16), .lit (.int .u8 7), .lit (.int .u8 26), .lit (.int .u8 12), .lit (.int .u8 18), .lit (.int .u8 6), .lit (.int .u8 11), .lit (.int .u8 5), .lit (.int .u8 10), .lit (.int .u8 9)]

/-- 'chantrylaw05.CountNumbers': WHATEVER THE INPUT: true; the input reads as it did. -/
def countNumbersSpec : ChangeSpec := { name := "countNumbers", fn := fun _ => fun
  | [d] => { results := [.lit (.bool true)], args := [d] }
  | _ => none }
def countNumbersRow : OpenClaim := { program := "ytnfmnhbcjapmpaadoor", sum := "b2813a0c230b8c48b70fb017ad3f38e953112d2e8f3cb4fd0f9f3a1b7057a0e2", func := "chantry/chantrylaw05.CountNumbers", spec := "countNumbers", named := ["math/bits.deBruijn32tab"], apart := false, laid := [("math/bits.deBruijn32tab", laid_math_bits_deBruijn32tab)] }
def CountNumbersSaid : Prop := countNumbersRow.holds Tryd.pinned (OpenSpec.ofChange countNumbersSpec)

/-- ITS FALSE NEIGHBOUR: 'it returns false'. Refute it at one input. -/
def countNumbersWrong : ChangeSpec := { name := "countNumbers", fn := fun _ => fun
  | [d] => { results := [.lit (.bool false)], args := [d] }
  | _ => none }
def CountNumbersWrongFalsely : Prop := countNumbersRow.holds Tryd.pinned (OpenSpec.ofChange countNumbersWrong)

/-- 'chantrylaw05.CountMeet': WHATEVER THE INPUT: true; the input reads as it did. -/
def countMeetSpec : ChangeSpec := { name := "countMeet", fn := fun _ => fun
  | [d1, d2] => { results := [.lit (.bool true)], args := [d1, d2] }
  | _ => none }
def countMeetRow : OpenClaim := { program := "ytnfmnhbcjapmpaadoor", sum := "b2813a0c230b8c48b70fb017ad3f38e953112d2e8f3cb4fd0f9f3a1b7057a0e2", func := "chantry/chantrylaw05.CountMeet", spec := "countMeet", named := ["math/bits.deBruijn32tab"], apart := false, laid := [("math/bits.deBruijn32tab", laid_math_bits_deBruijn32tab)] }
def CountMeetSaid : Prop := countMeetRow.holds Tryd.pinned (OpenSpec.ofChange countMeetSpec)

/-- ITS FALSE NEIGHBOUR: 'it returns false'. Refute it at one input. -/
def countMeetWrong : ChangeSpec := { name := "countMeet", fn := fun _ => fun
  | [d1, d2] => { results := [.lit (.bool false)], args := [d1, d2] }
  | _ => none }
def CountMeetWrongFalsely : Prop := countMeetRow.holds Tryd.pinned (OpenSpec.ofChange countMeetWrong)

/-- 'chantrylaw05.CountRise': WHATEVER THE INPUT: true; the input reads as it did. -/
def countRiseSpec : ChangeSpec := { name := "countRise", fn := fun _ => fun
  | [d] => { results := [.lit (.bool true)], args := [d] }
  | _ => none }
def countRiseRow : OpenClaim := { program := "ytnfmnhbcjapmpaadoor", sum := "b2813a0c230b8c48b70fb017ad3f38e953112d2e8f3cb4fd0f9f3a1b7057a0e2", func := "chantry/chantrylaw05.CountRise", spec := "countRise", named := ["math/bits.deBruijn32tab"], apart := false, laid := [("math/bits.deBruijn32tab", laid_math_bits_deBruijn32tab)] }
def CountRiseSaid : Prop := countRiseRow.holds Tryd.pinned (OpenSpec.ofChange countRiseSpec)

/-- ITS FALSE NEIGHBOUR: 'it returns false'. Refute it at one input. -/
def countRiseWrong : ChangeSpec := { name := "countRise", fn := fun _ => fun
  | [d] => { results := [.lit (.bool false)], args := [d] }
  | _ => none }
def CountRiseWrongFalsely : Prop := countRiseRow.holds Tryd.pinned (OpenSpec.ofChange countRiseWrong)

/-- 'chantrylaw05.CountLists': WHATEVER THE INPUT: true; the input reads as it did. -/
def countListsSpec : ChangeSpec := { name := "countLists", fn := fun _ => fun
  | [d] => { results := [.lit (.bool true)], args := [d] }
  | _ => none }
def countListsRow : OpenClaim := { program := "ytnfmnhbcjapmpaadoor", sum := "b2813a0c230b8c48b70fb017ad3f38e953112d2e8f3cb4fd0f9f3a1b7057a0e2", func := "chantry/chantrylaw05.CountLists", spec := "countLists", named := ["math/bits.deBruijn32tab"], apart := false, laid := [("math/bits.deBruijn32tab", laid_math_bits_deBruijn32tab)] }
def CountListsSaid : Prop := countListsRow.holds Tryd.pinned (OpenSpec.ofChange countListsSpec)

/-- ITS FALSE NEIGHBOUR: 'it returns false'. Refute it at one input. -/
def countListsWrong : ChangeSpec := { name := "countLists", fn := fun _ => fun
  | [d] => { results := [.lit (.bool false)], args := [d] }
  | _ => none }
def CountListsWrongFalsely : Prop := countListsRow.holds Tryd.pinned (OpenSpec.ofChange countListsWrong)

/-- 'chantrylaw05.CountUnion': WHATEVER THE INPUT: true; the input reads as it did. -/
def countUnionSpec : ChangeSpec := { name := "countUnion", fn := fun _ => fun
  | [d1, d2] => { results := [.lit (.bool true)], args := [d1, d2] }
  | _ => none }
def countUnionRow : OpenClaim := { program := "ytnfmnhbcjapmpaadoor", sum := "b2813a0c230b8c48b70fb017ad3f38e953112d2e8f3cb4fd0f9f3a1b7057a0e2", func := "chantry/chantrylaw05.CountUnion", spec := "countUnion", named := ["math/bits.deBruijn32tab"], apart := false, laid := [("math/bits.deBruijn32tab", laid_math_bits_deBruijn32tab)] }
def CountUnionSaid : Prop := countUnionRow.holds Tryd.pinned (OpenSpec.ofChange countUnionSpec)

/-- ITS FALSE NEIGHBOUR: 'it returns false'. Refute it at one input. -/
def countUnionWrong : ChangeSpec := { name := "countUnion", fn := fun _ => fun
  | [d1, d2] => { results := [.lit (.bool false)], args := [d1, d2] }
  | _ => none }
def CountUnionWrongFalsely : Prop := countUnionRow.holds Tryd.pinned (OpenSpec.ofChange countUnionWrong)

/-- 'chantrylaw05.CountSets': WHATEVER THE INPUT: true; the input reads as it did. -/
def countSetsSpec : ChangeSpec := { name := "countSets", fn := fun _ => fun
  | [d1, d2, d3] => { results := [.lit (.bool true)], args := [d1, d2, d3] }
  | _ => none }
def countSetsRow : OpenClaim := { program := "ytnfmnhbcjapmpaadoor", sum := "b2813a0c230b8c48b70fb017ad3f38e953112d2e8f3cb4fd0f9f3a1b7057a0e2", func := "chantry/chantrylaw05.CountSets", spec := "countSets", named := ["math/bits.deBruijn32tab"], apart := false, laid := [("math/bits.deBruijn32tab", laid_math_bits_deBruijn32tab)] }
def CountSetsSaid : Prop := countSetsRow.holds Tryd.pinned (OpenSpec.ofChange countSetsSpec)

/-- ITS FALSE NEIGHBOUR: 'it returns false'. Refute it at one input. -/
def countSetsWrong : ChangeSpec := { name := "countSets", fn := fun _ => fun
  | [d1, d2, d3] => { results := [.lit (.bool false)], args := [d1, d2, d3] }
  | _ => none }
def CountSetsWrongFalsely : Prop := countSetsRow.holds Tryd.pinned (OpenSpec.ofChange countSetsWrong)

/-- 'chantrylaw05.CountBack': WHATEVER THE INPUT: true; the input reads as it did. -/
def countBackSpec : ChangeSpec := { name := "countBack", fn := fun _ => fun
  | [d1, d2] => { results := [.lit (.bool true)], args := [d1, d2] }
  | _ => none }
def countBackRow : OpenClaim := { program := "ytnfmnhbcjapmpaadoor", sum := "b2813a0c230b8c48b70fb017ad3f38e953112d2e8f3cb4fd0f9f3a1b7057a0e2", func := "chantry/chantrylaw05.CountBack", spec := "countBack", named := ["math/bits.deBruijn32tab"], apart := false, laid := [("math/bits.deBruijn32tab", laid_math_bits_deBruijn32tab)] }
def CountBackSaid : Prop := countBackRow.holds Tryd.pinned (OpenSpec.ofChange countBackSpec)

/-- ITS FALSE NEIGHBOUR: 'it returns false'. Refute it at one input. -/
def countBackWrong : ChangeSpec := { name := "countBack", fn := fun _ => fun
  | [d1, d2] => { results := [.lit (.bool false)], args := [d1, d2] }
  | _ => none }
def CountBackWrongFalsely : Prop := countBackRow.holds Tryd.pinned (OpenSpec.ofChange countBackWrong)

/- THE SECOND FORM. 'bulk': how many values and letters a reading holds, each counted each time it is reached (what is shared counts as often as it is met; a slice's spare places count too). A statement '..UptoSaid' is the law's where the arguments, and the package variables that the reading takes, are together of bulk at most 1048576: NARROWER than '..Said'. Prove '..Said' where nothing that the law and all that it calls make is longer than what came in: it says more and counts as full. Else prove '..UptoSaid'. A law counts once. -/
mutual
def uptoBulk {H : Type} : DataW H → Nat
  | .lit (.string bytes) => bytes.length + 1
  | .lit _ => 1
  | .nil => 1
  | .ptr d => uptoBulk d + 1
  | .slice elems spare => uptoBulkAll elems + uptoBulkAll spare + 1
  | .agg parts => uptoBulkAll parts + 1
  | .iface _ d => uptoBulk d + 1
  | .map entries => uptoBulkEntries entries + 1
  | .held _ => 1
def uptoBulkAll {H : Type} : List (DataW H) → Nat
  | [] => 0
  | d :: r => uptoBulk d + uptoBulkAll r
def uptoBulkEntries {H : Type} : List (Lit × DataW H) → Nat
  | [] => 0
  | x :: r => uptoBulkEntry x + uptoBulkEntries r
def uptoBulkEntry {H : Type} : Lit × DataW H → Nat
  | (.string bytes, d) => bytes.length + uptoBulk d + 1
  | (_, d) => uptoBulk d + 1
 end
def uptoSmall : (H : Type) → List (DataW H) → Bool := fun _ ds => decide (uptoBulkAll ds ≤ 1048576)
def OpenSpec.upto (s : _root_.Go.ChangeSpec) : _root_.Go.OpenSpec := { _root_.Go.OpenSpec.ofChange s with cond := some uptoSmall }

/-- 'chantrylaw05.CountNumbers', WHERE WHAT IT READS IS OF BULK AT MOST 1048576: true; the input reads as it did. -/
def countNumbersUptoRow : OpenClaim := { program := "ytnfmnhbcjapmpaadoor", sum := "b2813a0c230b8c48b70fb017ad3f38e953112d2e8f3cb4fd0f9f3a1b7057a0e2", func := "chantry/chantrylaw05.CountNumbers", spec := "countNumbers", named := ["math/bits.deBruijn32tab"], apart := false, laid := [("math/bits.deBruijn32tab", laid_math_bits_deBruijn32tab)], narrowed := true }
def CountNumbersUptoSaid : Prop := countNumbersUptoRow.holds Tryd.pinned (OpenSpec.upto countNumbersSpec)

/-- 'chantrylaw05.CountMeet', WHERE WHAT IT READS IS OF BULK AT MOST 1048576: true; the input reads as it did. -/
def countMeetUptoRow : OpenClaim := { program := "ytnfmnhbcjapmpaadoor", sum := "b2813a0c230b8c48b70fb017ad3f38e953112d2e8f3cb4fd0f9f3a1b7057a0e2", func := "chantry/chantrylaw05.CountMeet", spec := "countMeet", named := ["math/bits.deBruijn32tab"], apart := false, laid := [("math/bits.deBruijn32tab", laid_math_bits_deBruijn32tab)], narrowed := true }
def CountMeetUptoSaid : Prop := countMeetUptoRow.holds Tryd.pinned (OpenSpec.upto countMeetSpec)

/-- 'chantrylaw05.CountRise', WHERE WHAT IT READS IS OF BULK AT MOST 1048576: true; the input reads as it did. -/
def countRiseUptoRow : OpenClaim := { program := "ytnfmnhbcjapmpaadoor", sum := "b2813a0c230b8c48b70fb017ad3f38e953112d2e8f3cb4fd0f9f3a1b7057a0e2", func := "chantry/chantrylaw05.CountRise", spec := "countRise", named := ["math/bits.deBruijn32tab"], apart := false, laid := [("math/bits.deBruijn32tab", laid_math_bits_deBruijn32tab)], narrowed := true }
def CountRiseUptoSaid : Prop := countRiseUptoRow.holds Tryd.pinned (OpenSpec.upto countRiseSpec)

/-- 'chantrylaw05.CountLists', WHERE WHAT IT READS IS OF BULK AT MOST 1048576: true; the input reads as it did. -/
def countListsUptoRow : OpenClaim := { program := "ytnfmnhbcjapmpaadoor", sum := "b2813a0c230b8c48b70fb017ad3f38e953112d2e8f3cb4fd0f9f3a1b7057a0e2", func := "chantry/chantrylaw05.CountLists", spec := "countLists", named := ["math/bits.deBruijn32tab"], apart := false, laid := [("math/bits.deBruijn32tab", laid_math_bits_deBruijn32tab)], narrowed := true }
def CountListsUptoSaid : Prop := countListsUptoRow.holds Tryd.pinned (OpenSpec.upto countListsSpec)

/-- 'chantrylaw05.CountUnion', WHERE WHAT IT READS IS OF BULK AT MOST 1048576: true; the input reads as it did. -/
def countUnionUptoRow : OpenClaim := { program := "ytnfmnhbcjapmpaadoor", sum := "b2813a0c230b8c48b70fb017ad3f38e953112d2e8f3cb4fd0f9f3a1b7057a0e2", func := "chantry/chantrylaw05.CountUnion", spec := "countUnion", named := ["math/bits.deBruijn32tab"], apart := false, laid := [("math/bits.deBruijn32tab", laid_math_bits_deBruijn32tab)], narrowed := true }
def CountUnionUptoSaid : Prop := countUnionUptoRow.holds Tryd.pinned (OpenSpec.upto countUnionSpec)

/-- 'chantrylaw05.CountSets', WHERE WHAT IT READS IS OF BULK AT MOST 1048576: true; the input reads as it did. -/
def countSetsUptoRow : OpenClaim := { program := "ytnfmnhbcjapmpaadoor", sum := "b2813a0c230b8c48b70fb017ad3f38e953112d2e8f3cb4fd0f9f3a1b7057a0e2", func := "chantry/chantrylaw05.CountSets", spec := "countSets", named := ["math/bits.deBruijn32tab"], apart := false, laid := [("math/bits.deBruijn32tab", laid_math_bits_deBruijn32tab)], narrowed := true }
def CountSetsUptoSaid : Prop := countSetsUptoRow.holds Tryd.pinned (OpenSpec.upto countSetsSpec)

/-- 'chantrylaw05.CountBack', WHERE WHAT IT READS IS OF BULK AT MOST 1048576: true; the input reads as it did. -/
def countBackUptoRow : OpenClaim := { program := "ytnfmnhbcjapmpaadoor", sum := "b2813a0c230b8c48b70fb017ad3f38e953112d2e8f3cb4fd0f9f3a1b7057a0e2", func := "chantry/chantrylaw05.CountBack", spec := "countBack", named := ["math/bits.deBruijn32tab"], apart := false, laid := [("math/bits.deBruijn32tab", laid_math_bits_deBruijn32tab)], narrowed := true }
def CountBackUptoSaid : Prop := countBackUptoRow.holds Tryd.pinned (OpenSpec.upto countBackSpec)

end Rows
end Go.Proofs.YtnfmnhbcjapmpaaDoor
