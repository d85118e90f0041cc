/-
  No cell of these rows narrows 'for every input' (looked for: loops, veiled, ifaces, maps, wideKeys, modest, calm, conditions, laid).
  DERIVED. THE GIVEN ROWS OF THIS SEAT. 6 by the template 'for every input the law returns true; each argument reads behind the call as it read before'; 0 by the template 'total and deterministic' (their statements: YtkifekjcpnoclaaTotals.lean).
  GIVEN WITH THE SEED: the statements are not yours to turn. If you find one false, say at which input.
  Laid BY PROGRAM, IN A SANDBOX (cutbox-rows.mjs): the forced cells as the released guide's own fill.sh prints them over the translation b21324fb2e8ea319… (all of the seat's roots in one cut). By AI agents, Wed Nov 11 2026. No macro, syntax, notation, axiom, sorry.
-/
import Derived.Test.YtkifekjcpnoclaaChecked
import GoSem.Claim
import GoSem.ClaimJoined
import GoSem.ClaimMapViews
import Derived.JoinedTies
import Derived.KernelRfl
namespace Go.Proofs.Ytkifekjcpnoclaa
/- THE CELL 'sum', in the pinned program and in every row, IS THE sha256 OF THE DUMP (.gsa) THAT YtkifekjcpnoclaaProg.lean LOADS. Nothing in Lean hashes anything: it is a label: what it is worth is what the hold of that sum in a sandbox is worth. -/
noncomputable def Try.pinned : Pinned := { name := "ytkifekjcpnoclaa", sum := "b21324fb2e8ea3190b0dd524856d050ce16dd5464796b4f61ed801f11fc2b16e", checked := Try.checked }
namespace Rows
def none {H : Type} : Left H := { results := [], args := [] }

/-- 'chantrylaw10.HoldPuts': WHATEVER THE INPUT: true; the input reads as it did. -/
def holdPutsSpec : ChangeSpec := { name := "holdPuts", fn := fun _ => fun
  | [d1, d2] => { results := [.lit (.bool true)], args := [d1, d2] }
  | _ => none }
def holdPutsRow : OpenClaim := { program := "ytkifekjcpnoclaa", sum := "b21324fb2e8ea3190b0dd524856d050ce16dd5464796b4f61ed801f11fc2b16e", func := "chantry/chantrylaw10.HoldPuts", spec := "holdPuts", unfollowed := true, recurses := true, plainKeys := false, apart := false }
def HoldPutsSaid : Prop := holdPutsRow.holds Try.pinned (OpenSpec.ofChange holdPutsSpec)

/-- ITS FALSE NEIGHBOUR: 'it returns false'. Refute it at one input. -/
def holdPutsWrong : ChangeSpec := { name := "holdPuts", fn := fun _ => fun
  | [d1, d2] => { results := [.lit (.bool false)], args := [d1, d2] }
  | _ => none }
def HoldPutsWrongFalsely : Prop := holdPutsRow.holds Try.pinned (OpenSpec.ofChange holdPutsWrong)

/-- 'chantrylaw10.HoldOrder': WHATEVER THE INPUT: true; the input reads as it did. -/
def holdOrderSpec : ChangeSpec := { name := "holdOrder", fn := fun _ => fun
  | [d] => { results := [.lit (.bool true)], args := [d] }
  | _ => none }
def holdOrderRow : OpenClaim := { program := "ytkifekjcpnoclaa", sum := "b21324fb2e8ea3190b0dd524856d050ce16dd5464796b4f61ed801f11fc2b16e", func := "chantry/chantrylaw10.HoldOrder", spec := "holdOrder", unfollowed := true, recurses := true, plainKeys := false, apart := false }
def HoldOrderSaid : Prop := holdOrderRow.holds Try.pinned (OpenSpec.ofChange holdOrderSpec)

/-- ITS FALSE NEIGHBOUR: 'it returns false'. Refute it at one input. -/
def holdOrderWrong : ChangeSpec := { name := "holdOrder", fn := fun _ => fun
  | [d] => { results := [.lit (.bool false)], args := [d] }
  | _ => none }
def HoldOrderWrongFalsely : Prop := holdOrderRow.holds Try.pinned (OpenSpec.ofChange holdOrderWrong)

/-- 'chantrylaw10.HoldAll': WHATEVER THE INPUT: true; the input reads as it did. -/
def holdAllSpec : ChangeSpec := { name := "holdAll", fn := fun _ => fun
  | [d1, d2] => { results := [.lit (.bool true)], args := [d1, d2] }
  | _ => none }
def holdAllRow : OpenClaim := { program := "ytkifekjcpnoclaa", sum := "b21324fb2e8ea3190b0dd524856d050ce16dd5464796b4f61ed801f11fc2b16e", func := "chantry/chantrylaw10.HoldAll", spec := "holdAll", unfollowed := true, recurses := true, plainKeys := false, apart := false }
def HoldAllSaid : Prop := holdAllRow.holds Try.pinned (OpenSpec.ofChange holdAllSpec)

/-- ITS FALSE NEIGHBOUR: 'it returns false'. Refute it at one input. -/
def holdAllWrong : ChangeSpec := { name := "holdAll", fn := fun _ => fun
  | [d1, d2] => { results := [.lit (.bool false)], args := [d1, d2] }
  | _ => none }
def HoldAllWrongFalsely : Prop := holdAllRow.holds Try.pinned (OpenSpec.ofChange holdAllWrong)

/-- 'chantrylaw10.HoldTwice': WHATEVER THE INPUT: true; the input reads as it did. -/
def holdTwiceSpec : ChangeSpec := { name := "holdTwice", fn := fun _ => fun
  | [d1, d2] => { results := [.lit (.bool true)], args := [d1, d2] }
  | _ => none }
def holdTwiceRow : OpenClaim := { program := "ytkifekjcpnoclaa", sum := "b21324fb2e8ea3190b0dd524856d050ce16dd5464796b4f61ed801f11fc2b16e", func := "chantry/chantrylaw10.HoldTwice", spec := "holdTwice", unfollowed := true, recurses := true, plainKeys := false, apart := false }
def HoldTwiceSaid : Prop := holdTwiceRow.holds Try.pinned (OpenSpec.ofChange holdTwiceSpec)

/-- ITS FALSE NEIGHBOUR: 'it returns false'. Refute it at one input. -/
def holdTwiceWrong : ChangeSpec := { name := "holdTwice", fn := fun _ => fun
  | [d1, d2] => { results := [.lit (.bool false)], args := [d1, d2] }
  | _ => none }
def HoldTwiceWrongFalsely : Prop := holdTwiceRow.holds Try.pinned (OpenSpec.ofChange holdTwiceWrong)

/-- 'chantrylaw10.HoldLater': WHATEVER THE INPUT: true; the input reads as it did. -/
def holdLaterSpec : ChangeSpec := { name := "holdLater", fn := fun _ => fun
  | [d1, d2] => { results := [.lit (.bool true)], args := [d1, d2] }
  | _ => none }
def holdLaterRow : OpenClaim := { program := "ytkifekjcpnoclaa", sum := "b21324fb2e8ea3190b0dd524856d050ce16dd5464796b4f61ed801f11fc2b16e", func := "chantry/chantrylaw10.HoldLater", spec := "holdLater", unfollowed := true, recurses := true, plainKeys := false, apart := false }
def HoldLaterSaid : Prop := holdLaterRow.holds Try.pinned (OpenSpec.ofChange holdLaterSpec)

/-- ITS FALSE NEIGHBOUR: 'it returns false'. Refute it at one input. -/
def holdLaterWrong : ChangeSpec := { name := "holdLater", fn := fun _ => fun
  | [d1, d2] => { results := [.lit (.bool false)], args := [d1, d2] }
  | _ => none }
def HoldLaterWrongFalsely : Prop := holdLaterRow.holds Try.pinned (OpenSpec.ofChange holdLaterWrong)

/-- 'chantrylaw10.HoldFull': WHATEVER THE INPUT: true; the input reads as it did. -/
def holdFullSpec : ChangeSpec := { name := "holdFull", fn := fun _ => fun
  | [d1, d2] => { results := [.lit (.bool true)], args := [d1, d2] }
  | _ => none }
def holdFullRow : OpenClaim := { program := "ytkifekjcpnoclaa", sum := "b21324fb2e8ea3190b0dd524856d050ce16dd5464796b4f61ed801f11fc2b16e", func := "chantry/chantrylaw10.HoldFull", spec := "holdFull", unfollowed := true, recurses := true, plainKeys := false, apart := false }
def HoldFullSaid : Prop := holdFullRow.holds Try.pinned (OpenSpec.ofChange holdFullSpec)

/-- ITS FALSE NEIGHBOUR: 'it returns false'. Refute it at one input. -/
def holdFullWrong : ChangeSpec := { name := "holdFull", fn := fun _ => fun
  | [d1, d2] => { results := [.lit (.bool false)], args := [d1, d2] }
  | _ => none }
def HoldFullWrongFalsely : Prop := holdFullRow.holds Try.pinned (OpenSpec.ofChange holdFullWrong)

/- THE SECOND FORM. 'bulk': how many values and letters a reading holds, each counted each time it is reached (what is shared counts as often as it is met; a slice's spare places count too). A statement '..UptoSaid' is the law's where the arguments, and the package variables that the reading takes, are together of bulk at most 1048576: NARROWER than '..Said'. Prove '..Said' where nothing that the law and all that it calls make is longer than what came in: it says more and counts as full. Else prove '..UptoSaid'. A law counts once. -/
mutual
def uptoBulk {H : Type} : DataW H → Nat
  | .lit (.string bytes) => bytes.length + 1
  | .lit _ => 1
  | .nil => 1
  | .ptr d => uptoBulk d + 1
  | .slice elems spare => uptoBulkAll elems + uptoBulkAll spare + 1
  | .agg parts => uptoBulkAll parts + 1
  | .iface _ d => uptoBulk d + 1
  | .map entries => uptoBulkEntries entries + 1
  | .held _ => 1
def uptoBulkAll {H : Type} : List (DataW H) → Nat
  | [] => 0
  | d :: r => uptoBulk d + uptoBulkAll r
def uptoBulkEntries {H : Type} : List (Lit × DataW H) → Nat
  | [] => 0
  | x :: r => uptoBulkEntry x + uptoBulkEntries r
def uptoBulkEntry {H : Type} : Lit × DataW H → Nat
  | (.string bytes, d) => bytes.length + uptoBulk d + 1
  | (_, d) => uptoBulk d + 1
 end
def uptoSmall : (H : Type) → List (DataW H) → Bool := fun _ ds => decide (uptoBulkAll ds ≤ 1048576)
def OpenSpec.upto (s : _root_.Go.ChangeSpec) : _root_.Go.OpenSpec := { _root_.Go.OpenSpec.ofChange s with cond := some uptoSmall }

/-- 'chantrylaw10.HoldPuts', WHERE WHAT IT READS IS OF BULK AT MOST 1048576: true; the input reads as it did. -/
def holdPutsUptoRow : OpenClaim := { program := "ytkifekjcpnoclaa", sum := "b21324fb2e8ea3190b0dd524856d050ce16dd5464796b4f61ed801f11fc2b16e", func := "chantry/chantrylaw10.HoldPuts", spec := "holdPuts", unfollowed := true, recurses := true, plainKeys := false, apart := false, narrowed := true }
def HoldPutsUptoSaid : Prop := holdPutsUptoRow.holds Try.pinned (OpenSpec.upto holdPutsSpec)

/-- 'chantrylaw10.HoldOrder', WHERE WHAT IT READS IS OF BULK AT MOST 1048576: true; the input reads as it did. -/
def holdOrderUptoRow : OpenClaim := { program := "ytkifekjcpnoclaa", sum := "b21324fb2e8ea3190b0dd524856d050ce16dd5464796b4f61ed801f11fc2b16e", func := "chantry/chantrylaw10.HoldOrder", spec := "holdOrder", unfollowed := true, recurses := true, plainKeys := false, apart := false, narrowed := true }
def HoldOrderUptoSaid : Prop := holdOrderUptoRow.holds Try.pinned (OpenSpec.upto holdOrderSpec)

/-- 'chantrylaw10.HoldAll', WHERE WHAT IT READS IS OF BULK AT MOST 1048576: true; the input reads as it did. -/
def holdAllUptoRow : OpenClaim := { program := "ytkifekjcpnoclaa", sum := "b21324fb2e8ea3190b0dd524856d050ce16dd5464796b4f61ed801f11fc2b16e", func := "chantry/chantrylaw10.HoldAll", spec := "holdAll", unfollowed := true, recurses := true, plainKeys := false, apart := false, narrowed := true }
def HoldAllUptoSaid : Prop := holdAllUptoRow.holds Try.pinned (OpenSpec.upto holdAllSpec)

/-- 'chantrylaw10.HoldTwice', WHERE WHAT IT READS IS OF BULK AT MOST 1048576: true; the input reads as it did. -/
def holdTwiceUptoRow : OpenClaim := { program := "ytkifekjcpnoclaa", sum := "b21324fb2e8ea3190b0dd524856d050ce16dd5464796b4f61ed801f11fc2b16e", func := "chantry/chantrylaw10.HoldTwice", spec := "holdTwice", unfollowed := true, recurses := true, plainKeys := false, apart := false, narrowed := true }
def HoldTwiceUptoSaid : Prop := holdTwiceUptoRow.holds Try.pinned (OpenSpec.upto holdTwiceSpec)

/-- 'chantrylaw10.HoldLater', WHERE WHAT IT READS IS OF BULK AT MOST 1048576: true; the input reads as it did. -/
def holdLaterUptoRow : OpenClaim := { program := "ytkifekjcpnoclaa", sum := "b21324fb2e8ea3190b0dd524856d050ce16dd5464796b4f61ed801f11fc2b16e", func := "chantry/chantrylaw10.HoldLater", spec := "holdLater", unfollowed := true, recurses := true, plainKeys := false, apart := false, narrowed := true }
def HoldLaterUptoSaid : Prop := holdLaterUptoRow.holds Try.pinned (OpenSpec.upto holdLaterSpec)

/-- 'chantrylaw10.HoldFull', WHERE WHAT IT READS IS OF BULK AT MOST 1048576: true; the input reads as it did. -/
def holdFullUptoRow : OpenClaim := { program := "ytkifekjcpnoclaa", sum := "b21324fb2e8ea3190b0dd524856d050ce16dd5464796b4f61ed801f11fc2b16e", func := "chantry/chantrylaw10.HoldFull", spec := "holdFull", unfollowed := true, recurses := true, plainKeys := false, apart := false, narrowed := true }
def HoldFullUptoSaid : Prop := holdFullUptoRow.holds Try.pinned (OpenSpec.upto holdFullSpec)

end Rows
end Go.Proofs.Ytkifekjcpnoclaa
