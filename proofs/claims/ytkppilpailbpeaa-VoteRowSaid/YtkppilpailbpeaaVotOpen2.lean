/- How a case that comes in is opened. -/
import Derived.Test.YtkppilpailbpeaaVotOpen
namespace Go.Proofs.Ytkppilpailbpeaa.Vot
open Go Go.RowKit Go.Proofs.YtkppilpailbpeaaW.PrintWords Go.Proofs.Ytkppilpailbpeaa.Opn
set_option linter.unusedVariables false

theorem opensBal : Opens Try.prog 78 kB (fun x => x.body.size ≤ maxLen ∧ x.who < 65536) := by
  intro H enc w base spare held fuel cs y h
  have h1 : Opens Try.prog 78 (Kd.pair Kd.string (Kd.int .u16)) (fun x => x.1.size ≤ maxLen ∧ WI .u16 x.2) :=
    opens_struct Try.underlying78 (by kernel_rfl) (opensF_cons rfl (by kernel_rfl) (opens_string Try.underlying9) (opensF_one rfl (by kernel_rfl) (opens_int Try.underlying26)))
  obtain ⟨⟨b, s⟩, hx, hb, hs⟩ := h1 h
  obtain ⟨n, rfl, hn⟩ := nat_u16 hs
  exact ⟨⟨b, n⟩, hx, hb, hn⟩
def kCr : Kd (Bool × Bool × Bool × List Bal × List Bal) := Kd.pair Kd.bool (Kd.pair Kd.bool (Kd.pair Kd.bool (Kd.pair (Kd.slice 78 kB) (Kd.slice 78 kB))))
theorem opensCr : Opens Try.prog 24 kCr (fun x => (x.2.2.2.1.length ≤ maxLen ∧ ∀ b ∈ x.2.2.2.1, b.body.size ≤ maxLen ∧ b.who < 65536) ∧ (x.2.2.2.2.length ≤ maxLen ∧ ∀ b ∈ x.2.2.2.2, b.body.size ≤ maxLen ∧ b.who < 65536)) :=
  opens_imp (opens_struct Try.underlying24 (by kernel_rfl) (opensF_cons rfl (by kernel_rfl) (opens_bool Try.underlying4) (opensF_cons rfl (by kernel_rfl) (opens_bool Try.underlying4) (opensF_cons rfl (by kernel_rfl) (opens_bool Try.underlying4) (opensF_cons rfl (by kernel_rfl) (opens_slice Try.underlying22 (by kernel_rfl) opensBal) (opensF_one rfl (by kernel_rfl) (opens_slice Try.underlying22 (by kernel_rfl) opensBal)))))))
    (fun x h => ⟨h.2.2.2.1, h.2.2.2.2⟩)
theorem kCr_open {w : World} {ec rc dc : Bool} {E R : List Bal} {cs : List Value} (h : kCr.K w (ec, rc, dc, E, R) cs) :
    ∃ AE cE AR cR, cs = [.bool ec, .bool rc, .bool dc, .slice AE E.length cE, .slice AR R.length cR] ∧ E.length ≤ cE ∧ kB.C w AE E.length E ∧ R.length ≤ cR ∧ kB.C w AR R.length R := by
  obtain ⟨_, _, rfl, rfl, _, _, rfl, rfl, _, _, rfl, rfl, _, _, rfl, ⟨AE, cE, rfl, h1, h2⟩, ⟨AR, cR, rfl, h3, h4⟩⟩ := h
  exact ⟨AE, cE, AR, cR, rfl, h1, h2, h3, h4⟩
def kVt : Kd Vt := kV
theorem kVt_open {w : World} {x : Vt} {cs : List Value} (h : kV.K w x cs) : cs = [.int .i64 x.kind, .int .u8 x.who, .string x.body] := kV_open h
end Go.Proofs.Ytkppilpailbpeaa.Vot
