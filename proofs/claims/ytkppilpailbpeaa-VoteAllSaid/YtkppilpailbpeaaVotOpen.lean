/- How the arguments of vote's laws are opened. -/
import Derived.Test.YtkppilpailbpeaaOpen
import Derived.Test.YtkppilpailbpeaaVotStep
namespace Go.Proofs.Ytkppilpailbpeaa.Vot
open Go Go.RowKit Go.Proofs.YtkppilpailbpeaaW.PrintWords Go.Proofs.Ytkppilpailbpeaa.Opn
set_option linter.unusedVariables false

abbrev WI (k : IntKind) (n : Int) : Prop := (Lit.int k n).wf = true
def kP : Kd (Int × Int) := Kd.pair (Kd.int .u16) (Kd.int .u8)
theorem kP_open {w : World} {m f : Int} {cs : List Value} (h : kP.K w (m, f) cs) : cs = [.int .u16 m, .int .u8 f] := by
  obtain ⟨_, _, rfl, rfl, rfl⟩ := h
  exact rfl
theorem opensP : Opens Try.prog 28 kP (fun x => WI .u16 x.1 ∧ WI .u8 x.2) :=
  opens_struct Try.underlying28 (by kernel_rfl) (opensF_cons rfl (by kernel_rfl) (opens_int Try.underlying26) (opensF_one rfl (by kernel_rfl) (opens_int Try.underlying5)))
theorem opensV : Opens Try.prog 30 kV (fun x => VtOk x ∧ x.body.size ≤ 9223372036854775807) :=
  opens_imp (opens_iso (G := fun p : Int × Int × ByteArray => WI .i64 p.1 ∧ WI .u8 p.2.1 ∧ p.2.2.size ≤ maxLen) (fun x : Vt => (x.kind, x.who, x.body)) (fun p => ⟨p.1, p.2.1, p.2.2⟩) (fun _ => rfl)
    (opens_struct Try.underlying30 (by kernel_rfl) (opensF_cons rfl (by kernel_rfl) (opens_int Try.underlying3) (opensF_cons rfl (by kernel_rfl) (opens_int Try.underlying5) (opensF_one rfl (by kernel_rfl) (opens_string Try.underlying9))))))
    (fun x h => ⟨⟨wf_i64 h.1, wf_u8 h.2.1⟩, by have := h.2.2; unfold maxLen at this; exact this⟩)
end Go.Proofs.Ytkppilpailbpeaa.Vot
