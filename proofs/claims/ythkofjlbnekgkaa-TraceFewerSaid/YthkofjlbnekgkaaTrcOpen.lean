/- How the arguments of trace's laws are opened. -/
import Derived.Test.YthkofjlbnekgkaaOpen
import Derived.Test.YthkofjlbnekgkaaTrcKeys
namespace Go.Proofs.Ythkofjlbnekgkaa.Trc
open Go Go.RowKit Go.Proofs.YthkofjlbnekgkaaW.PrintWords Go.Proofs.Ythkofjlbnekgkaa.PTraceAgrees Go.Proofs.Ythkofjlbnekgkaa.Opn
set_option linter.unusedVariables false

theorem opens24 : Opens Try.prog 24 k24 (fun x => WI .i64 x.f0 ∧ WI .u8 x.f1 ∧ WI .i64 x.f2) :=
  opens_iso (G := fun p : Int × Int × Int => WI .i64 p.1 ∧ WI .u8 p.2.1 ∧ WI .i64 p.2.2) (fun x : S24 => (x.f0, x.f1, x.f2)) (fun p => ⟨p.1, p.2.1, p.2.2⟩) (fun _ => rfl)
    (opens_struct Try.underlying24 (by kernel_rfl) (opensF_cons rfl (by kernel_rfl) (opens_int Try.underlying3) (opensF_cons rfl (by kernel_rfl) (opens_int Try.underlying5) (opensF_one rfl (by kernel_rfl) (opens_int Try.underlying3)))))
theorem opens52 : Opens Try.prog 52 k52 (fun x => okE (conv x)) :=
  opens_iso (G := fun p : S24 × ByteArray => (WI .i64 p.1.f0 ∧ WI .u8 p.1.f1 ∧ WI .i64 p.1.f2) ∧ p.2.size ≤ maxLen) (fun x : S52 => (x.f0, x.f1)) (fun p => ⟨p.1, p.2⟩) (fun _ => rfl)
    (opens_struct Try.underlying52 (by kernel_rfl) (opensF_cons rfl (by kernel_rfl) opens24 (opensF_one rfl (by kernel_rfl) (opens_string Try.underlying9))))
end Go.Proofs.Ythkofjlbnekgkaa.Trc
