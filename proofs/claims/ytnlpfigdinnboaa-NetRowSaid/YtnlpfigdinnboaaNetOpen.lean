/- How letters and acts that come in are opened. -/
import Derived.Test.YtnlpfigdinnboaaNetRef
import Derived.Test.YtnlpfigdinnboaaOpen
namespace Go.Proofs.Ytnlpfigdinnboaa.Net
open Go Go.RowKit Go.Proofs.YtnlpfigdinnboaaW.PrintWords Go.Proofs.Ytnlpfigdinnboaa.Opn
set_option linter.unusedVariables false

def LtOk (x : Lt) : Prop := x.tag.size ≤ maxLen
theorem opensL : Opens Try.prog 40 kLt LtOk :=
  opens_imp (opens_iso (fun x : Lt => (x.frm, x.dst, x.seq, x.body, x.tag)) (fun p => (⟨p.1, p.2.1, p.2.2.1, p.2.2.2.1, p.2.2.2.2⟩ : Lt)) (fun _ => rfl)
    (opens_struct Try.underlying40 (by kernel_rfl) (opensF_cons rfl (by kernel_rfl) (opens_int Try.underlying5) (opensF_cons rfl (by kernel_rfl) (opens_int Try.underlying5) (opensF_cons rfl (by kernel_rfl) (opens_int Try.underlying32) (opensF_cons rfl (by kernel_rfl) (opens_slice Try.underlying33 (by kernel_rfl) (opens_int Try.underlying5)) (opensF_one rfl (by kernel_rfl) (opens_string Try.underlying34))))))))
    (fun x h => h.2.2.2.2)
/-- an act -/
structure Ac where
  kind : Int
  l : List Lt
  at_ : Int
def kAc : Kd Ac := Kd.iso (Kd.pair (Kd.int .u8) (Kd.pair (Kd.slice 40 kLt) (Kd.int .i64))) (fun x => (x.kind, x.l, x.at_))
def AcOk (x : Ac) : Prop := (0 ≤ x.kind ∧ x.kind ≤ 255) ∧ x.l.length ≤ maxLen
theorem opensA : Opens Try.prog 30 kAc AcOk :=
  opens_imp (opens_iso (fun x : Ac => (x.kind, x.l, x.at_)) (fun p => (⟨p.1, p.2.1, p.2.2⟩ : Ac)) (fun _ => rfl)
    (opens_struct Try.underlying30 (by kernel_rfl) (opensF_cons rfl (by kernel_rfl) (opens_int Try.underlying5) (opensF_cons rfl (by kernel_rfl) (opens_slice Try.underlying26 (by kernel_rfl) opensL) (opensF_one rfl (by kernel_rfl) (opens_int Try.underlying3))))))
    (fun x h => ⟨wf_u8 h.1, h.2.1.1⟩)
theorem kAc_open {w : World} {x : Ac} {cs : List Value} (h : kAc.K w x cs) : ∃ A c, cs = [.int .u8 x.kind, .slice A x.l.length c, .int .i64 x.at_] ∧ x.l.length ≤ c ∧ kLt.C w A x.l.length x.l := by
  obtain ⟨_, _, rfl, rfl, _, _, rfl, ⟨A, c, rfl, h1, h2⟩, rfl⟩ := h
  exact ⟨A, c, rfl, h1, h2⟩
def zA : Ac := ⟨0, [], 0⟩
theorem at_A {w : World} {A : Option Addr} {n : Nat} {xs : List Ac} (h : kAc.C w A n xs) (i : Nat) (h1 : i < xs.length) : ∃ ad Al cl, A = some ad ∧ kLt.C w Al xs[i].l.length xs[i].l ∧ xs[i].l.length ≤ cl ∧ w.cell? (ad.add (i * 3)) = some (.int .u8 xs[i].kind) ∧
    w.cell? ⟨(ad.add (i * 3)).block, (ad.add (i * 3)).off + 1, none⟩ = some (.slice Al xs[i].l.length cl) ∧ w.cell? ⟨(ad.add (i * 3)).block, (ad.add (i * 3)).off + 2, none⟩ = some (.int .i64 xs[i].at_) := by
  have hn := Kd.C_len h
  obtain ⟨ad, c, e, _, hK, hc0⟩ := Kd.C_get h zA (i : Int) (by omega) (by omega)
  have hx : xs.getD (i : Int).toNat zA = xs[i] := by simp [h1]
  rw [hx] at hK
  have hc : ∀ j u, c[j]? = some u → w.cell? (ad.add (i * 3 + j)) = some u := hc0
  obtain ⟨Al, cl, rfl, h2, h3⟩ := kAc_open hK
  refine ⟨ad, Al, cl, e, h3, h2, hc 0 _ rfl, ?_, ?_⟩
  · rw [← add_field _ _ 1 (by omega)]; exact hc 1 _ rfl
  · rw [← add_field _ _ 2 (by omega)]; exact hc 2 _ rfl
end Go.Proofs.Ytnlpfigdinnboaa.Net
