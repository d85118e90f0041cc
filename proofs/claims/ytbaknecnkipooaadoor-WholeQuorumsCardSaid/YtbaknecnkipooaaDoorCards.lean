/-
  DERIVED. GIVEN WITH THE SEED: THE CARDS: each row of YtbaknecnkipooaaDoorRows.lean that lists a variable, with what it lists TIED to the program's text (the seventh form; the later family's looks); each row that meets fmt, with fmt's text TOLD by the authors' own Lean function (tested against real Go, not proved from fmt's source: count such statements apart). THE CARD IS WHAT COUNTS. Prove the row's statement (the work); the ties are given (YtbaknecnkipooaaDoorTie.lean); close each card by the builder's one call (the guide's Derived/Test/ToyasCard.lean, 'card_holds'). Laid BY PROGRAM, IN A SANDBOX (cutbox-door.mjs). By AI agents, Wed Nov 11 2026. No macro, syntax, notation, axiom, sorry.
-/
import Derived.Test.YtbaknecnkipooaaDoorRows
import GoSem.ClaimSeven
namespace Go.Proofs.YtbaknecnkipooaaDoor
namespace Rows

/-- THE TIED CARD OF 'chantrytop.WholeQuorums'. -/
def wholeQuorumsCard : Claim7 := { stood := { row := wholeQuorumsRow, standIns := [], harness := (true, "c5f7e05400e5fc61d2d408ade49836a65907e9e35f0e848590c6efc53c964a0f"), looks := false }, kinds := [], alts := [], laidByText := true, laidKinds := [.data], laidTests := true, laidLooks := .later }
def WholeQuorumsCardSaid : Prop := Claim7.holds Tryd.pinned (.plain (OpenSpec.ofChange wholeQuorumsSpec)) wholeQuorumsCard

/-- THE SECOND FORM's CARD OF 'chantrytop.WholeQuorums'. -/
def wholeQuorumsUptoCard : Claim7 := { stood := { row := wholeQuorumsUptoRow, standIns := [], harness := (true, "c5f7e05400e5fc61d2d408ade49836a65907e9e35f0e848590c6efc53c964a0f"), looks := false }, kinds := [], alts := [], laidByText := true, laidKinds := [.data], laidTests := true, laidLooks := .later }
def WholeQuorumsUptoCardSaid : Prop := Claim7.holds Tryd.pinned (.plain (OpenSpec.upto wholeQuorumsSpec)) wholeQuorumsUptoCard
end Rows
end Go.Proofs.YtbaknecnkipooaaDoor
