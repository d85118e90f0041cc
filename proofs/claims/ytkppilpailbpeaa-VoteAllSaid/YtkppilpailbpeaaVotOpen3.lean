/- How a play that comes in is opened. -/
import Derived.Test.YtkppilpailbpeaaVotAgree
import Derived.Test.YtkppilpailbpeaaVotOpen
namespace Go.Proofs.Ytkppilpailbpeaa.Vot
open Go Go.RowKit Go.Proofs.YtkppilpailbpeaaW.PrintWords Go.Proofs.Ytkppilpailbpeaa.Opn
set_option linter.unusedVariables false

theorem opensPl : Opens Try.prog 58 kPl PlOk := by
  intro H enc w base spare held fuel cs y h
  have h1 : Opens Try.prog 58 (Kd.pair Kd.bool (Kd.pair (Kd.int .u16) (Kd.pair (Kd.int .u8) (Kd.pair (Kd.int .i64) (Kd.pair (Kd.int .u8) Kd.string))))) _ :=
    opens_struct Try.underlying58 (by kernel_rfl) (opensF_cons rfl (by kernel_rfl) (opens_bool Try.underlying4) (opensF_cons rfl (by kernel_rfl) (opens_int Try.underlying25) (opensF_cons rfl (by kernel_rfl) (opens_int Try.underlying5) (opensF_cons rfl (by kernel_rfl) (opens_int Try.underlying3) (opensF_cons rfl (by kernel_rfl) (opens_int Try.underlying5) (opensF_one rfl (by kernel_rfl) (opens_string Try.underlying9)))))))
  obtain ⟨⟨lie, pa, pt, pk, pw, b⟩, ⟨_, _, rfl, rfl, _, _, rfl, rfl, _, _, rfl, rfl, _, _, rfl, rfl, _, _, rfl, rfl, rfl⟩, _, ha, ht, hk, hw, hb⟩ := h1 h
  exact ⟨⟨lie, pa, pt, pk, pw, b⟩, rfl, wf_u16 ha, wf_u8 ht, wf_i64 hk, wf_u8 hw, by simp only at hb ⊢; unfold maxLen at hb; exact hb⟩
def kW2 : Kd (Int × Int) := flat 2 (fun x => [.int .u8 x.1, .int .u8 x.2]) (fun _ => rfl) (fun x u hu => by simp at hu; rcases hu with rfl | rfl <;> rfl)
theorem opensW2 : Opens Try.prog 53 kW2 (fun x => (0 ≤ x.1 ∧ x.1 ≤ 255) ∧ (0 ≤ x.2 ∧ x.2 ≤ 255)) := by
  intro H enc w base spare held fuel cs y h
  obtain ⟨xs, rfl, hl, hw⟩ := opens_array Try.underlying53 Try.underlying5 (by kernel_rfl) (by kernel_rfl) h
  match xs, hl with
  | [a, b], _ => exact ⟨(a, b), rfl, wf_u8 (hw a (by simp)), wf_u8 (hw b (by simp))⟩
end Go.Proofs.Ytkppilpailbpeaa.Vot
