/- What the laws use besides. -/
import Derived.Test.YtkifekjcpnoclaaHldTheirs
import Derived.Test.YtkifekjcpnoclaaHldLaw
import Derived.Deep.DeepCutAuto
namespace Go.Proofs.Ytkifekjcpnoclaa.Hld
open Go Go.RowKit Go.Proofs.YtkifekjcpnoclaaW.PrintWords Go.Proofs.Ytkifekjcpnoclaa.Sep Go.Proofs.Ytkifekjcpnoclaa.Obj
set_option linter.unusedVariables false
theorem kIt_all {w : World} {A : Option Addr} {n : Nat} {xs : List It} (h : kIt.C w A n xs) : ∀ x ∈ xs, okI x := fun x hx => by
  obtain ⟨i, hi, rfl⟩ := List.getElem_of_mem hx
  obtain ⟨_, _, _, h1, _⟩ := at_It h i hi
  exact h1
theorem right_seq {x : It} (hx : okI x) (h : rightI x = true) : WI .i64 x.seq := by
  have hf := right_frm hx h
  unfold rightI rightB at h
  rw [Bool.and_eq_true] at h
  have h1 := of_decide_eq_true h.2
  have h2 := okV_at hx.1 x.frm.toNat hf.1
  rw [h1] at h2
  have h3 : x.seq ≤ 9223372036854775807 := by omega
  have h4 : (-9223372036854775808 : Int) ≤ x.seq := by omega
  simpa [WI, Lit.wf, IntKind.min, IntKind.max, IntKind.signed, IntKind.bits] using And.intro h4 h3
theorem put_seq {told : List Int} {wait : List It} {x : It} (hq : ∀ y ∈ wait, WI .i64 y.seq) (hx : okI x) : ∀ y ∈ (putH told wait x).1.2.1, WI .i64 y.seq := by
  by_cases h : (putH told wait x).2 = 0
  · obtain ⟨_, h2, _, _, ⟨_, h1⟩ | ⟨_, _, h1⟩⟩ := putH_ok h
    · rw [h1]
      exact drain_ind (fun _ w _ => ∀ y ∈ w, WI .i64 y.seq) (fun t w o i hi hr h y hy => h y (mem_erase hy)) _ _ _ _ hq
    · rw [h1]
      intro y hy
      rcases List.mem_append.1 hy with hy | hy
      · exact hq y hy
      · rw [List.mem_singleton.1 hy]; exact right_seq hx h2
  · rw [putH_err h]; exact hq
theorem put_len {told : List Int} {wait : List It} {x : It} : (putH told wait x).1.2.1.length ≤ wait.length + 1 ∧ (putH told wait x).1.2.2.length ≤ wait.length + 1 := by
  by_cases h : (putH told wait x).2 = 0
  · obtain ⟨_, h2, _, _, ⟨_, h1⟩ | ⟨_, _, h1⟩⟩ := putH_ok h
    · rw [h1]
      have := drain_ind (fun _ w o => o.length + w.length = wait.length + 1) (fun t w o i hi hr h => by rw [List.length_eraseIdx]; simp [hi]; omega) wait.length (inc told x) wait [x] (by simp; omega)
      omega
    · rw [h1]; simp
  · rw [putH_err h]; simp
end Go.Proofs.Ytkifekjcpnoclaa.Hld
