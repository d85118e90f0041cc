/- How the arguments of hold's laws are opened. -/
import Derived.Test.YtkifekjcpnoclaaHldEq
import Derived.Test.YtkifekjcpnoclaaOpen
namespace Go.Proofs.Ytkifekjcpnoclaa.Hld
open Go Go.RowKit Go.Proofs.YtkifekjcpnoclaaW.PrintWords Go.Proofs.Ytkifekjcpnoclaa.Opn
set_option linter.unusedVariables false

/-- a vector, by value -/
def kVec : Kd (List Int) where
  sz := 16
  E := []
  K := fun _ v cs => cs = (vecC v).toList ∧ okV v
  M := fun _ _ _ v cs => cs = (vecC v).toList ∧ okV v
  K_len := fun h => by rw [h.1, Array.length_toList, vecC_size _ h.2.1]
  K_one := fun h u hu => vecC_one _ u (by rw [← h.1]; exact hu)
  K_below := fun _ h => h
  K_of_M := fun h => h
  M_mono := fun _ h => h
  M_bound := fun h => h
  M_move := fun _ h => h
  M_lower := fun _ h => h
theorem opensVec : Opens Try.prog 24 kVec okV := by
  intro H enc w base spare held fuel cs y h
  obtain ⟨xs, rfl, hl, hw⟩ := opens_array Try.underlying24 Try.underlying22 (by kernel_rfl) (by kernel_rfl) h
  have hok : okV xs := ⟨hl, fun x hx => wf_u16 (hw x hx)⟩
  exact ⟨xs, ⟨by simp [vecC], hok⟩, hok⟩
theorem opensIt : Opens Try.prog 31 kIt okK := by
  intro H enc w base spare held fuel cs y h
  have h1 : Opens Try.prog 31 (Kd.pair (Kd.int .u8) (Kd.pair (Kd.int .i64) (Kd.pair (Kd.int .i64) (Kd.pair kVec Kd.string)))) _ :=
    opens_struct Try.underlying31 (by kernel_rfl) (opensF_cons rfl (by kernel_rfl) (opens_int Try.underlying5) (opensF_cons rfl (by kernel_rfl) (opens_int Try.underlying3) (opensF_one rfl (by kernel_rfl)
      (opens_struct Try.underlying29 (by kernel_rfl) (opensF_cons rfl (by kernel_rfl) (opens_int Try.underlying3) (opensF_cons rfl (by kernel_rfl) opensVec (opensF_one rfl (by kernel_rfl) (opens_string Try.underlying9))))))))
  obtain ⟨⟨f, q, k, v, t⟩, ⟨_, _, rfl, rfl, _, _, rfl, rfl, _, _, rfl, rfl, _, _, rfl, ⟨rfl, hv⟩, rfl⟩, hf, hq, hk, _, ht⟩ := h1 h
  have hok : okI ⟨f, q, k, v, t⟩ := ⟨hv, wf_u8 hf, by simp only at ht ⊢; unfold maxLen at ht; omega⟩
  exact ⟨⟨f, q, k, v, t⟩, ⟨by simp [itC, vecC], hok⟩, hq, hk⟩
/-- a hold that comes in -/
def kHo : Kd (List Int × List It) := Kd.pair kVec (Kd.slice 31 kIt)
theorem opensHo : Opens Try.prog 27 kHo (fun x => x.2.length ≤ maxLen ∧ ∀ y ∈ x.2, okK y) :=
  opens_imp (opens_struct Try.underlying27 (by kernel_rfl) (opensF_cons rfl (by kernel_rfl) opensVec (opensF_one rfl (by kernel_rfl) (opens_slice Try.underlying25 (by kernel_rfl) opensIt)))) (fun x h => h.2)
theorem kHo_open {w : World} {v : List Int} {l : List It} {cs : List Value} (h : kHo.K w (v, l) cs) : okV v ∧ ∃ A c, cs = (hoC v (.slice A l.length c)).toList ∧ l.length ≤ c ∧ kIt.C w A l.length l := by
  obtain ⟨_, _, rfl, ⟨rfl, hv⟩, A, c, rfl, h1, h2⟩ := h
  exact ⟨hv, A, c, by simp [hoC, vecC], h1, h2⟩
theorem kIt_ok {w : World} {A : Option Addr} {n : Nat} {xs : List It} (h : kIt.C w A n xs) : ∀ x ∈ xs, okI x := fun x hx => by
  obtain ⟨i, hi, rfl⟩ := List.getElem_of_mem hx
  obtain ⟨_, _, _, h1, _⟩ := at_It h i hi
  exact h1
end Go.Proofs.Ytkifekjcpnoclaa.Hld
