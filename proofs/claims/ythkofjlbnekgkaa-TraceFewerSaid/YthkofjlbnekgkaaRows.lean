/-
  No cell of these rows narrows 'for every input' (looked for: loops, veiled, ifaces, maps, wideKeys, modest, calm, conditions, laid).
  DERIVED. THE GIVEN ROWS OF THIS SEAT. 6 by the template 'for every input the law returns true; each argument reads behind the call as it read before'; 0 by the template 'total and deterministic' (their statements: YthkofjlbnekgkaaTotals.lean).
  GIVEN WITH THE SEED: the statements are not yours to turn. If you find one false, say at which input.
  Laid BY PROGRAM, IN A SANDBOX (cutbox-rows.mjs): the forced cells as the released guide's own fill.sh prints them over the translation 30051bff0c8878ee… (all of the seat's roots in one cut). By AI agents, Wed Nov 11 2026. No macro, syntax, notation, axiom, sorry.
-/
import Derived.Test.YthkofjlbnekgkaaChecked
import GoSem.Claim
import GoSem.ClaimJoined
import GoSem.ClaimMapViews
import Derived.JoinedTies
import Derived.KernelRfl
namespace Go.Proofs.Ythkofjlbnekgkaa
/- THE CELL 'sum', in the pinned program and in every row, IS THE sha256 OF THE DUMP (.gsa) THAT YthkofjlbnekgkaaProg.lean LOADS. Nothing in Lean hashes anything: it is a label: what it is worth is what the hold of that sum in a sandbox is worth. -/
noncomputable def Try.pinned : Pinned := { name := "ythkofjlbnekgkaa", sum := "30051bff0c8878ee336f3c716d83028350842053502a739c744a33774a738597", checked := Try.checked }
namespace Rows
def none {H : Type} : Left H := { results := [], args := [] }

/-- 'chantrylaw22.TraceParts': WHATEVER THE INPUT: true; the input reads as it did. -/
def tracePartsSpec : ChangeSpec := { name := "traceParts", fn := fun _ => fun
  | [d1, d2, d3] => { results := [.lit (.bool true)], args := [d1, d2, d3] }
  | _ => none }
def tracePartsRow : OpenClaim := { program := "ythkofjlbnekgkaa", sum := "30051bff0c8878ee336f3c716d83028350842053502a739c744a33774a738597", func := "chantry/chantrylaw22.TraceParts", spec := "traceParts", unfollowed := true, recurses := true, plainKeys := false, apart := false }
def TracePartsSaid : Prop := tracePartsRow.holds Try.pinned (OpenSpec.ofChange tracePartsSpec)

/-- ITS FALSE NEIGHBOUR: 'it returns false'. Refute it at one input. -/
def tracePartsWrong : ChangeSpec := { name := "traceParts", fn := fun _ => fun
  | [d1, d2, d3] => { results := [.lit (.bool false)], args := [d1, d2, d3] }
  | _ => none }
def TracePartsWrongFalsely : Prop := tracePartsRow.holds Try.pinned (OpenSpec.ofChange tracePartsWrong)

/-- 'chantrylaw22.TraceAgrees': WHATEVER THE INPUT: true; the input reads as it did. -/
def traceAgreesSpec : ChangeSpec := { name := "traceAgrees", fn := fun _ => fun
  | [d] => { results := [.lit (.bool true)], args := [d] }
  | _ => none }
def traceAgreesRow : OpenClaim := { program := "ythkofjlbnekgkaa", sum := "30051bff0c8878ee336f3c716d83028350842053502a739c744a33774a738597", func := "chantry/chantrylaw22.TraceAgrees", spec := "traceAgrees", unfollowed := true, recurses := true, plainKeys := false, apart := false }
def TraceAgreesSaid : Prop := traceAgreesRow.holds Try.pinned (OpenSpec.ofChange traceAgreesSpec)

/-- ITS FALSE NEIGHBOUR: 'it returns false'. Refute it at one input. -/
def traceAgreesWrong : ChangeSpec := { name := "traceAgrees", fn := fun _ => fun
  | [d] => { results := [.lit (.bool false)], args := [d] }
  | _ => none }
def TraceAgreesWrongFalsely : Prop := traceAgreesRow.holds Try.pinned (OpenSpec.ofChange traceAgreesWrong)

/-- 'chantrylaw22.TraceAlike': WHATEVER THE INPUT: true; the input reads as it did. -/
def traceAlikeSpec : ChangeSpec := { name := "traceAlike", fn := fun _ => fun
  | [d1, d2, d3] => { results := [.lit (.bool true)], args := [d1, d2, d3] }
  | _ => none }
def traceAlikeRow : OpenClaim := { program := "ythkofjlbnekgkaa", sum := "30051bff0c8878ee336f3c716d83028350842053502a739c744a33774a738597", func := "chantry/chantrylaw22.TraceAlike", spec := "traceAlike", unfollowed := true, recurses := true, plainKeys := false, apart := false }
def TraceAlikeSaid : Prop := traceAlikeRow.holds Try.pinned (OpenSpec.ofChange traceAlikeSpec)

/-- ITS FALSE NEIGHBOUR: 'it returns false'. Refute it at one input. -/
def traceAlikeWrong : ChangeSpec := { name := "traceAlike", fn := fun _ => fun
  | [d1, d2, d3] => { results := [.lit (.bool false)], args := [d1, d2, d3] }
  | _ => none }
def TraceAlikeWrongFalsely : Prop := traceAlikeRow.holds Try.pinned (OpenSpec.ofChange traceAlikeWrong)

/-- 'chantrylaw22.TraceFewer': WHATEVER THE INPUT: true; the input reads as it did. -/
def traceFewerSpec : ChangeSpec := { name := "traceFewer", fn := fun _ => fun
  | [d1, d2] => { results := [.lit (.bool true)], args := [d1, d2] }
  | _ => none }
def traceFewerRow : OpenClaim := { program := "ythkofjlbnekgkaa", sum := "30051bff0c8878ee336f3c716d83028350842053502a739c744a33774a738597", func := "chantry/chantrylaw22.TraceFewer", spec := "traceFewer", unfollowed := true, recurses := true, plainKeys := false, apart := false }
def TraceFewerSaid : Prop := traceFewerRow.holds Try.pinned (OpenSpec.ofChange traceFewerSpec)

/-- ITS FALSE NEIGHBOUR: 'it returns false'. Refute it at one input. -/
def traceFewerWrong : ChangeSpec := { name := "traceFewer", fn := fun _ => fun
  | [d1, d2] => { results := [.lit (.bool false)], args := [d1, d2] }
  | _ => none }
def TraceFewerWrongFalsely : Prop := traceFewerRow.holds Try.pinned (OpenSpec.ofChange traceFewerWrong)

/-- 'chantrylaw22.TraceFirst': WHATEVER THE INPUT: true; the input reads as it did. -/
def traceFirstSpec : ChangeSpec := { name := "traceFirst", fn := fun _ => fun
  | [d1, d2] => { results := [.lit (.bool true)], args := [d1, d2] }
  | _ => none }
def traceFirstRow : OpenClaim := { program := "ythkofjlbnekgkaa", sum := "30051bff0c8878ee336f3c716d83028350842053502a739c744a33774a738597", func := "chantry/chantrylaw22.TraceFirst", spec := "traceFirst", unfollowed := true, recurses := true, plainKeys := false, apart := false }
def TraceFirstSaid : Prop := traceFirstRow.holds Try.pinned (OpenSpec.ofChange traceFirstSpec)

/-- ITS FALSE NEIGHBOUR: 'it returns false'. Refute it at one input. -/
def traceFirstWrong : ChangeSpec := { name := "traceFirst", fn := fun _ => fun
  | [d1, d2] => { results := [.lit (.bool false)], args := [d1, d2] }
  | _ => none }
def TraceFirstWrongFalsely : Prop := traceFirstRow.holds Try.pinned (OpenSpec.ofChange traceFirstWrong)

/-- 'chantrylaw22.TraceCounts': WHATEVER THE INPUT: true; the input reads as it did. -/
def traceCountsSpec : ChangeSpec := { name := "traceCounts", fn := fun _ => fun
  | [d1, d2] => { results := [.lit (.bool true)], args := [d1, d2] }
  | _ => none }
def traceCountsRow : OpenClaim := { program := "ythkofjlbnekgkaa", sum := "30051bff0c8878ee336f3c716d83028350842053502a739c744a33774a738597", func := "chantry/chantrylaw22.TraceCounts", spec := "traceCounts", unfollowed := true, recurses := true, plainKeys := false, apart := false }
def TraceCountsSaid : Prop := traceCountsRow.holds Try.pinned (OpenSpec.ofChange traceCountsSpec)

/-- ITS FALSE NEIGHBOUR: 'it returns false'. Refute it at one input. -/
def traceCountsWrong : ChangeSpec := { name := "traceCounts", fn := fun _ => fun
  | [d1, d2] => { results := [.lit (.bool false)], args := [d1, d2] }
  | _ => none }
def TraceCountsWrongFalsely : Prop := traceCountsRow.holds Try.pinned (OpenSpec.ofChange traceCountsWrong)

/- THE SECOND FORM. 'bulk': how many values and letters a reading holds, each counted each time it is reached (what is shared counts as often as it is met; a slice's spare places count too). A statement '..UptoSaid' is the law's where the arguments, and the package variables that the reading takes, are together of bulk at most 1048576: NARROWER than '..Said'. Prove '..Said' where nothing that the law and all that it calls make is longer than what came in: it says more and counts as full. Else prove '..UptoSaid'. A law counts once. -/
mutual
def uptoBulk {H : Type} : DataW H → Nat
  | .lit (.string bytes) => bytes.length + 1
  | .lit _ => 1
  | .nil => 1
  | .ptr d => uptoBulk d + 1
  | .slice elems spare => uptoBulkAll elems + uptoBulkAll spare + 1
  | .agg parts => uptoBulkAll parts + 1
  | .iface _ d => uptoBulk d + 1
  | .map entries => uptoBulkEntries entries + 1
  | .held _ => 1
def uptoBulkAll {H : Type} : List (DataW H) → Nat
  | [] => 0
  | d :: r => uptoBulk d + uptoBulkAll r
def uptoBulkEntries {H : Type} : List (Lit × DataW H) → Nat
  | [] => 0
  | x :: r => uptoBulkEntry x + uptoBulkEntries r
def uptoBulkEntry {H : Type} : Lit × DataW H → Nat
  | (.string bytes, d) => bytes.length + uptoBulk d + 1
  | (_, d) => uptoBulk d + 1
 end
def uptoSmall : (H : Type) → List (DataW H) → Bool := fun _ ds => decide (uptoBulkAll ds ≤ 1048576)
def OpenSpec.upto (s : _root_.Go.ChangeSpec) : _root_.Go.OpenSpec := { _root_.Go.OpenSpec.ofChange s with cond := some uptoSmall }

/-- 'chantrylaw22.TraceParts', WHERE WHAT IT READS IS OF BULK AT MOST 1048576: true; the input reads as it did. -/
def tracePartsUptoRow : OpenClaim := { program := "ythkofjlbnekgkaa", sum := "30051bff0c8878ee336f3c716d83028350842053502a739c744a33774a738597", func := "chantry/chantrylaw22.TraceParts", spec := "traceParts", unfollowed := true, recurses := true, plainKeys := false, apart := false, narrowed := true }
def TracePartsUptoSaid : Prop := tracePartsUptoRow.holds Try.pinned (OpenSpec.upto tracePartsSpec)

/-- 'chantrylaw22.TraceAgrees', WHERE WHAT IT READS IS OF BULK AT MOST 1048576: true; the input reads as it did. -/
def traceAgreesUptoRow : OpenClaim := { program := "ythkofjlbnekgkaa", sum := "30051bff0c8878ee336f3c716d83028350842053502a739c744a33774a738597", func := "chantry/chantrylaw22.TraceAgrees", spec := "traceAgrees", unfollowed := true, recurses := true, plainKeys := false, apart := false, narrowed := true }
def TraceAgreesUptoSaid : Prop := traceAgreesUptoRow.holds Try.pinned (OpenSpec.upto traceAgreesSpec)

/-- 'chantrylaw22.TraceAlike', WHERE WHAT IT READS IS OF BULK AT MOST 1048576: true; the input reads as it did. -/
def traceAlikeUptoRow : OpenClaim := { program := "ythkofjlbnekgkaa", sum := "30051bff0c8878ee336f3c716d83028350842053502a739c744a33774a738597", func := "chantry/chantrylaw22.TraceAlike", spec := "traceAlike", unfollowed := true, recurses := true, plainKeys := false, apart := false, narrowed := true }
def TraceAlikeUptoSaid : Prop := traceAlikeUptoRow.holds Try.pinned (OpenSpec.upto traceAlikeSpec)

/-- 'chantrylaw22.TraceFewer', WHERE WHAT IT READS IS OF BULK AT MOST 1048576: true; the input reads as it did. -/
def traceFewerUptoRow : OpenClaim := { program := "ythkofjlbnekgkaa", sum := "30051bff0c8878ee336f3c716d83028350842053502a739c744a33774a738597", func := "chantry/chantrylaw22.TraceFewer", spec := "traceFewer", unfollowed := true, recurses := true, plainKeys := false, apart := false, narrowed := true }
def TraceFewerUptoSaid : Prop := traceFewerUptoRow.holds Try.pinned (OpenSpec.upto traceFewerSpec)

/-- 'chantrylaw22.TraceFirst', WHERE WHAT IT READS IS OF BULK AT MOST 1048576: true; the input reads as it did. -/
def traceFirstUptoRow : OpenClaim := { program := "ythkofjlbnekgkaa", sum := "30051bff0c8878ee336f3c716d83028350842053502a739c744a33774a738597", func := "chantry/chantrylaw22.TraceFirst", spec := "traceFirst", unfollowed := true, recurses := true, plainKeys := false, apart := false, narrowed := true }
def TraceFirstUptoSaid : Prop := traceFirstUptoRow.holds Try.pinned (OpenSpec.upto traceFirstSpec)

/-- 'chantrylaw22.TraceCounts', WHERE WHAT IT READS IS OF BULK AT MOST 1048576: true; the input reads as it did. -/
def traceCountsUptoRow : OpenClaim := { program := "ythkofjlbnekgkaa", sum := "30051bff0c8878ee336f3c716d83028350842053502a739c744a33774a738597", func := "chantry/chantrylaw22.TraceCounts", spec := "traceCounts", unfollowed := true, recurses := true, plainKeys := false, apart := false, narrowed := true }
def TraceCountsUptoSaid : Prop := traceCountsUptoRow.holds Try.pinned (OpenSpec.upto traceCountsSpec)

end Rows
end Go.Proofs.Ythkofjlbnekgkaa
