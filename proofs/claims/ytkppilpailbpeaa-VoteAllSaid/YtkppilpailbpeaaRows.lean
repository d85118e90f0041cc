/-
  No cell of these rows narrows 'for every input' (looked for: loops, veiled, ifaces, maps, wideKeys, modest, calm, conditions, laid).
  DERIVED. THE GIVEN ROWS OF THIS SEAT. 8 by the template 'for every input the law returns true; each argument reads behind the call as it read before'; 0 by the template 'total and deterministic' (their statements: YtkppilpailbpeaaTotals.lean).
  GIVEN WITH THE SEED: the statements are not yours to turn. If you find one false, say at which input.
  Laid BY PROGRAM, IN A SANDBOX (cutbox-rows.mjs): the forced cells as the released guide's own fill.sh prints them over the translation 30657c16908f3e71… (all of the seat's roots in one cut). By AI agents, Wed Nov 11 2026. No macro, syntax, notation, axiom, sorry.
-/
import Derived.Test.YtkppilpailbpeaaChecked
import GoSem.Claim
import GoSem.ClaimJoined
import GoSem.ClaimMapViews
import Derived.JoinedTies
import Derived.KernelRfl
namespace Go.Proofs.Ytkppilpailbpeaa
/- THE CELL 'sum', in the pinned program and in every row, IS THE sha256 OF THE DUMP (.gsa) THAT YtkppilpailbpeaaProg.lean LOADS. Nothing in Lean hashes anything: it is a label: what it is worth is what the hold of that sum in a sandbox is worth. -/
noncomputable def Try.pinned : Pinned := { name := "ytkppilpailbpeaa", sum := "30657c16908f3e71ec33a37727e418c5bd42f3e7bdb512a4be4239d9ce200af1", checked := Try.checked }
namespace Rows
def none {H : Type} : Left H := { results := [], args := [] }

/-- 'chantrylaw07.VoteTakes': WHATEVER THE INPUT: true; the input reads as it did. -/
def voteTakesSpec : ChangeSpec := { name := "voteTakes", fn := fun _ => fun
  | [d1, d2, d3] => { results := [.lit (.bool true)], args := [d1, d2, d3] }
  | _ => none }
def voteTakesRow : OpenClaim := { program := "ytkppilpailbpeaa", sum := "30657c16908f3e71ec33a37727e418c5bd42f3e7bdb512a4be4239d9ce200af1", func := "chantry/chantrylaw07.VoteTakes", spec := "voteTakes", unfollowed := true, recurses := true, apart := false }
def VoteTakesSaid : Prop := voteTakesRow.holds Try.pinned (OpenSpec.ofChange voteTakesSpec)

/-- ITS FALSE NEIGHBOUR: 'it returns false'. Refute it at one input. -/
def voteTakesWrong : ChangeSpec := { name := "voteTakes", fn := fun _ => fun
  | [d1, d2, d3] => { results := [.lit (.bool false)], args := [d1, d2, d3] }
  | _ => none }
def VoteTakesWrongFalsely : Prop := voteTakesRow.holds Try.pinned (OpenSpec.ofChange voteTakesWrong)

/-- 'chantrylaw07.VoteRow': WHATEVER THE INPUT: true; the input reads as it did. -/
def voteRowSpec : ChangeSpec := { name := "voteRow", fn := fun _ => fun
  | [d1, d2, d3] => { results := [.lit (.bool true)], args := [d1, d2, d3] }
  | _ => none }
def voteRowRow : OpenClaim := { program := "ytkppilpailbpeaa", sum := "30657c16908f3e71ec33a37727e418c5bd42f3e7bdb512a4be4239d9ce200af1", func := "chantry/chantrylaw07.VoteRow", spec := "voteRow", unfollowed := true, recurses := true, apart := false }
def VoteRowSaid : Prop := voteRowRow.holds Try.pinned (OpenSpec.ofChange voteRowSpec)

/-- ITS FALSE NEIGHBOUR: 'it returns false'. Refute it at one input. -/
def voteRowWrong : ChangeSpec := { name := "voteRow", fn := fun _ => fun
  | [d1, d2, d3] => { results := [.lit (.bool false)], args := [d1, d2, d3] }
  | _ => none }
def VoteRowWrongFalsely : Prop := voteRowRow.holds Try.pinned (OpenSpec.ofChange voteRowWrong)

/-- 'chantrylaw07.VoteAgree': WHATEVER THE INPUT: true; the input reads as it did. -/
def voteAgreeSpec : ChangeSpec := { name := "voteAgree", fn := fun _ => fun
  | [d1, d2, d3] => { results := [.lit (.bool true)], args := [d1, d2, d3] }
  | _ => none }
def voteAgreeRow : OpenClaim := { program := "ytkppilpailbpeaa", sum := "30657c16908f3e71ec33a37727e418c5bd42f3e7bdb512a4be4239d9ce200af1", func := "chantry/chantrylaw07.VoteAgree", spec := "voteAgree", unfollowed := true, recurses := true, apart := false }
def VoteAgreeSaid : Prop := voteAgreeRow.holds Try.pinned (OpenSpec.ofChange voteAgreeSpec)

/-- ITS FALSE NEIGHBOUR: 'it returns false'. Refute it at one input. -/
def voteAgreeWrong : ChangeSpec := { name := "voteAgree", fn := fun _ => fun
  | [d1, d2, d3] => { results := [.lit (.bool false)], args := [d1, d2, d3] }
  | _ => none }
def VoteAgreeWrongFalsely : Prop := voteAgreeRow.holds Try.pinned (OpenSpec.ofChange voteAgreeWrong)

/-- 'chantrylaw07.VoteAll': WHATEVER THE INPUT: true; the input reads as it did. -/
def voteAllSpec : ChangeSpec := { name := "voteAll", fn := fun _ => fun
  | [d1, d2, d3] => { results := [.lit (.bool true)], args := [d1, d2, d3] }
  | _ => none }
def voteAllRow : OpenClaim := { program := "ytkppilpailbpeaa", sum := "30657c16908f3e71ec33a37727e418c5bd42f3e7bdb512a4be4239d9ce200af1", func := "chantry/chantrylaw07.VoteAll", spec := "voteAll", unfollowed := true, recurses := true, apart := false }
def VoteAllSaid : Prop := voteAllRow.holds Try.pinned (OpenSpec.ofChange voteAllSpec)

/-- ITS FALSE NEIGHBOUR: 'it returns false'. Refute it at one input. -/
def voteAllWrong : ChangeSpec := { name := "voteAll", fn := fun _ => fun
  | [d1, d2, d3] => { results := [.lit (.bool false)], args := [d1, d2, d3] }
  | _ => none }
def VoteAllWrongFalsely : Prop := voteAllRow.holds Try.pinned (OpenSpec.ofChange voteAllWrong)

/-- 'chantrylaw07.VoteErrors': WHATEVER THE INPUT: true; the input reads as it did. -/
def voteErrorsSpec : ChangeSpec := { name := "voteErrors", fn := fun _ => fun
  | [d1, d2, d3] => { results := [.lit (.bool true)], args := [d1, d2, d3] }
  | _ => none }
def voteErrorsRow : OpenClaim := { program := "ytkppilpailbpeaa", sum := "30657c16908f3e71ec33a37727e418c5bd42f3e7bdb512a4be4239d9ce200af1", func := "chantry/chantrylaw07.VoteErrors", spec := "voteErrors", unfollowed := true, recurses := true, apart := false }
def VoteErrorsSaid : Prop := voteErrorsRow.holds Try.pinned (OpenSpec.ofChange voteErrorsSpec)

/-- ITS FALSE NEIGHBOUR: 'it returns false'. Refute it at one input. -/
def voteErrorsWrong : ChangeSpec := { name := "voteErrors", fn := fun _ => fun
  | [d1, d2, d3] => { results := [.lit (.bool false)], args := [d1, d2, d3] }
  | _ => none }
def VoteErrorsWrongFalsely : Prop := voteErrorsRow.holds Try.pinned (OpenSpec.ofChange voteErrorsWrong)

/-- 'chantrylaw07.VoteCasts': WHATEVER THE INPUT: true; the input reads as it did. -/
def voteCastsSpec : ChangeSpec := { name := "voteCasts", fn := fun _ => fun
  | [d1, d2] => { results := [.lit (.bool true)], args := [d1, d2] }
  | _ => none }
def voteCastsRow : OpenClaim := { program := "ytkppilpailbpeaa", sum := "30657c16908f3e71ec33a37727e418c5bd42f3e7bdb512a4be4239d9ce200af1", func := "chantry/chantrylaw07.VoteCasts", spec := "voteCasts", unfollowed := true, recurses := true, apart := false }
def VoteCastsSaid : Prop := voteCastsRow.holds Try.pinned (OpenSpec.ofChange voteCastsSpec)

/-- ITS FALSE NEIGHBOUR: 'it returns false'. Refute it at one input. -/
def voteCastsWrong : ChangeSpec := { name := "voteCasts", fn := fun _ => fun
  | [d1, d2] => { results := [.lit (.bool false)], args := [d1, d2] }
  | _ => none }
def VoteCastsWrongFalsely : Prop := voteCastsRow.holds Try.pinned (OpenSpec.ofChange voteCastsWrong)

/-- 'chantrylaw07.VoteCounts': WHATEVER THE INPUT: true; the input reads as it did. -/
def voteCountsSpec : ChangeSpec := { name := "voteCounts", fn := fun _ => fun
  | [d1, d2] => { results := [.lit (.bool true)], args := [d1, d2] }
  | _ => none }
def voteCountsRow : OpenClaim := { program := "ytkppilpailbpeaa", sum := "30657c16908f3e71ec33a37727e418c5bd42f3e7bdb512a4be4239d9ce200af1", func := "chantry/chantrylaw07.VoteCounts", spec := "voteCounts", unfollowed := true, recurses := true, apart := false }
def VoteCountsSaid : Prop := voteCountsRow.holds Try.pinned (OpenSpec.ofChange voteCountsSpec)

/-- ITS FALSE NEIGHBOUR: 'it returns false'. Refute it at one input. -/
def voteCountsWrong : ChangeSpec := { name := "voteCounts", fn := fun _ => fun
  | [d1, d2] => { results := [.lit (.bool false)], args := [d1, d2] }
  | _ => none }
def VoteCountsWrongFalsely : Prop := voteCountsRow.holds Try.pinned (OpenSpec.ofChange voteCountsWrong)

/-- 'chantrylaw07.VoteFew': WHATEVER THE INPUT: true; the input reads as it did. -/
def voteFewSpec : ChangeSpec := { name := "voteFew", fn := fun _ => fun
  | [d1, d2] => { results := [.lit (.bool true)], args := [d1, d2] }
  | _ => none }
def voteFewRow : OpenClaim := { program := "ytkppilpailbpeaa", sum := "30657c16908f3e71ec33a37727e418c5bd42f3e7bdb512a4be4239d9ce200af1", func := "chantry/chantrylaw07.VoteFew", spec := "voteFew", unfollowed := true, recurses := true, apart := false }
def VoteFewSaid : Prop := voteFewRow.holds Try.pinned (OpenSpec.ofChange voteFewSpec)

/-- ITS FALSE NEIGHBOUR: 'it returns false'. Refute it at one input. -/
def voteFewWrong : ChangeSpec := { name := "voteFew", fn := fun _ => fun
  | [d1, d2] => { results := [.lit (.bool false)], args := [d1, d2] }
  | _ => none }
def VoteFewWrongFalsely : Prop := voteFewRow.holds Try.pinned (OpenSpec.ofChange voteFewWrong)

/- THE SECOND FORM. 'bulk': how many values and letters a reading holds, each counted each time it is reached (what is shared counts as often as it is met; a slice's spare places count too). A statement '..UptoSaid' is the law's where the arguments, and the package variables that the reading takes, are together of bulk at most 1048576: NARROWER than '..Said'. Prove '..Said' where nothing that the law and all that it calls make is longer than what came in: it says more and counts as full. Else prove '..UptoSaid'. A law counts once. -/
mutual
def uptoBulk {H : Type} : DataW H → Nat
  | .lit (.string bytes) => bytes.length + 1
  | .lit _ => 1
  | .nil => 1
  | .ptr d => uptoBulk d + 1
  | .slice elems spare => uptoBulkAll elems + uptoBulkAll spare + 1
  | .agg parts => uptoBulkAll parts + 1
  | .iface _ d => uptoBulk d + 1
  | .map entries => uptoBulkEntries entries + 1
  | .held _ => 1
def uptoBulkAll {H : Type} : List (DataW H) → Nat
  | [] => 0
  | d :: r => uptoBulk d + uptoBulkAll r
def uptoBulkEntries {H : Type} : List (Lit × DataW H) → Nat
  | [] => 0
  | x :: r => uptoBulkEntry x + uptoBulkEntries r
def uptoBulkEntry {H : Type} : Lit × DataW H → Nat
  | (.string bytes, d) => bytes.length + uptoBulk d + 1
  | (_, d) => uptoBulk d + 1
 end
def uptoSmall : (H : Type) → List (DataW H) → Bool := fun _ ds => decide (uptoBulkAll ds ≤ 1048576)
def OpenSpec.upto (s : _root_.Go.ChangeSpec) : _root_.Go.OpenSpec := { _root_.Go.OpenSpec.ofChange s with cond := some uptoSmall }

/-- 'chantrylaw07.VoteTakes', WHERE WHAT IT READS IS OF BULK AT MOST 1048576: true; the input reads as it did. -/
def voteTakesUptoRow : OpenClaim := { program := "ytkppilpailbpeaa", sum := "30657c16908f3e71ec33a37727e418c5bd42f3e7bdb512a4be4239d9ce200af1", func := "chantry/chantrylaw07.VoteTakes", spec := "voteTakes", unfollowed := true, recurses := true, apart := false, narrowed := true }
def VoteTakesUptoSaid : Prop := voteTakesUptoRow.holds Try.pinned (OpenSpec.upto voteTakesSpec)

/-- 'chantrylaw07.VoteRow', WHERE WHAT IT READS IS OF BULK AT MOST 1048576: true; the input reads as it did. -/
def voteRowUptoRow : OpenClaim := { program := "ytkppilpailbpeaa", sum := "30657c16908f3e71ec33a37727e418c5bd42f3e7bdb512a4be4239d9ce200af1", func := "chantry/chantrylaw07.VoteRow", spec := "voteRow", unfollowed := true, recurses := true, apart := false, narrowed := true }
def VoteRowUptoSaid : Prop := voteRowUptoRow.holds Try.pinned (OpenSpec.upto voteRowSpec)

/-- 'chantrylaw07.VoteAgree', WHERE WHAT IT READS IS OF BULK AT MOST 1048576: true; the input reads as it did. -/
def voteAgreeUptoRow : OpenClaim := { program := "ytkppilpailbpeaa", sum := "30657c16908f3e71ec33a37727e418c5bd42f3e7bdb512a4be4239d9ce200af1", func := "chantry/chantrylaw07.VoteAgree", spec := "voteAgree", unfollowed := true, recurses := true, apart := false, narrowed := true }
def VoteAgreeUptoSaid : Prop := voteAgreeUptoRow.holds Try.pinned (OpenSpec.upto voteAgreeSpec)

/-- 'chantrylaw07.VoteAll', WHERE WHAT IT READS IS OF BULK AT MOST 1048576: true; the input reads as it did. -/
def voteAllUptoRow : OpenClaim := { program := "ytkppilpailbpeaa", sum := "30657c16908f3e71ec33a37727e418c5bd42f3e7bdb512a4be4239d9ce200af1", func := "chantry/chantrylaw07.VoteAll", spec := "voteAll", unfollowed := true, recurses := true, apart := false, narrowed := true }
def VoteAllUptoSaid : Prop := voteAllUptoRow.holds Try.pinned (OpenSpec.upto voteAllSpec)

/-- 'chantrylaw07.VoteErrors', WHERE WHAT IT READS IS OF BULK AT MOST 1048576: true; the input reads as it did. -/
def voteErrorsUptoRow : OpenClaim := { program := "ytkppilpailbpeaa", sum := "30657c16908f3e71ec33a37727e418c5bd42f3e7bdb512a4be4239d9ce200af1", func := "chantry/chantrylaw07.VoteErrors", spec := "voteErrors", unfollowed := true, recurses := true, apart := false, narrowed := true }
def VoteErrorsUptoSaid : Prop := voteErrorsUptoRow.holds Try.pinned (OpenSpec.upto voteErrorsSpec)

/-- 'chantrylaw07.VoteCasts', WHERE WHAT IT READS IS OF BULK AT MOST 1048576: true; the input reads as it did. -/
def voteCastsUptoRow : OpenClaim := { program := "ytkppilpailbpeaa", sum := "30657c16908f3e71ec33a37727e418c5bd42f3e7bdb512a4be4239d9ce200af1", func := "chantry/chantrylaw07.VoteCasts", spec := "voteCasts", unfollowed := true, recurses := true, apart := false, narrowed := true }
def VoteCastsUptoSaid : Prop := voteCastsUptoRow.holds Try.pinned (OpenSpec.upto voteCastsSpec)

/-- 'chantrylaw07.VoteCounts', WHERE WHAT IT READS IS OF BULK AT MOST 1048576: true; the input reads as it did. -/
def voteCountsUptoRow : OpenClaim := { program := "ytkppilpailbpeaa", sum := "30657c16908f3e71ec33a37727e418c5bd42f3e7bdb512a4be4239d9ce200af1", func := "chantry/chantrylaw07.VoteCounts", spec := "voteCounts", unfollowed := true, recurses := true, apart := false, narrowed := true }
def VoteCountsUptoSaid : Prop := voteCountsUptoRow.holds Try.pinned (OpenSpec.upto voteCountsSpec)

/-- 'chantrylaw07.VoteFew', WHERE WHAT IT READS IS OF BULK AT MOST 1048576: true; the input reads as it did. -/
def voteFewUptoRow : OpenClaim := { program := "ytkppilpailbpeaa", sum := "30657c16908f3e71ec33a37727e418c5bd42f3e7bdb512a4be4239d9ce200af1", func := "chantry/chantrylaw07.VoteFew", spec := "voteFew", unfollowed := true, recurses := true, apart := false, narrowed := true }
def VoteFewUptoSaid : Prop := voteFewUptoRow.holds Try.pinned (OpenSpec.upto voteFewSpec)

end Rows
end Go.Proofs.Ytkppilpailbpeaa
