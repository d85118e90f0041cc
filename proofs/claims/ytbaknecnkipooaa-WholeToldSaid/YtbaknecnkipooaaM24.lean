/- What Put tells after the first: laws of drain. -/
import Derived.Test.YtbaknecnkipooaaM21
namespace Go.Proofs.Ytbaknecnkipooaa.Hld
open Go Go.RowKit Go.Proofs.YtbaknecnkipooaaW.PrintWords Go.Proofs.Ytbaknecnkipooaa.Sep Go.Proofs.Ytbaknecnkipooaa.Obj
set_option linter.unusedVariables false
set_option linter.unusedSimpArgs false
theorem idx_cases (p : It → Bool) (l : List It) : (idxI p l = -1 ∧ ∀ j (h : j < l.length), p l[j] = false) ∨ ∃ i, ∃ h : i < l.length, idxI p l = (i : Int) ∧ p l[i] = true ∧ (∀ j (hj : j < l.length), j < i → p l[j] = false) := by
  cases hf : l.findIdx? p with
  | none =>
    have h := List.findIdx?_eq_none_iff.1 hf
    have ha : ∀ j (h : j < l.length), p l[j] = false := fun j hj => by simpa using h _ (List.getElem_mem hj)
    exact .inl ⟨idxI_no ha, ha⟩
  | some i =>
    obtain ⟨hi, h1, h2⟩ := List.findIdx?_eq_some_iff_getElem.1 hf
    have ha : ∀ j (hj : j < l.length), j < i → p l[j] = false := fun j hj hji => by simpa using h2 j hji
    exact .inr ⟨i, hi, idxI_yes hi h1 ha, h1, ha⟩
theorem ready_told {told : List Int} {y : It} (hy : okI y) (h : readyB told y = true) : told.getD y.frm.toNat 0 = y.seq ∧ y.seq ≤ 1000 ∧ y.frm < 16 := by
  unfold readyB at h
  rw [Bool.and_eq_true, Bool.and_eq_true] at h
  obtain ⟨⟨h1, h2⟩, _⟩ := h
  unfold rightI rightB mayB at h1
  rw [Bool.and_eq_true, Bool.and_eq_true, Bool.and_eq_true, Bool.and_eq_true, Bool.and_eq_true] at h1
  obtain ⟨⟨⟨⟨⟨h3, _⟩, _⟩, _⟩, h4⟩, h5⟩ := h1
  have h4 := of_decide_eq_true h4
  have h5 := of_decide_eq_true h5
  have h0 : 0 ≤ y.frm := hy.2.1.1
  have hl : y.frm.toNat < y.past.length := by rw [hy.1.1]; omega
  refine ⟨of_decide_eq_true h2, ?_, h4⟩
  rw [← h5, show y.past.getD y.frm.toNat 0 = y.past[y.frm.toNat] by simp [List.getD_eq_getElem?_getD, hl]]
  exact of_decide_eq_true (List.all_eq_true.1 h3 _ (List.getElem_mem hl))
theorem okV_set {told : List Int} (ht : okV told) (i : Nat) (n : Int) (h0 : 0 ≤ n) (h1 : n ≤ 65535) : okV (told.set i n) := by
  refine ⟨by simp [ht.1], fun x hx => ?_⟩
  rcases List.mem_or_eq_of_mem_set hx with h | h
  · exact ht.2 x h
  · subst h; exact ⟨h0, h1⟩
theorem inc_ok {told : List Int} {y : It} (ht : okV told) (hy : okI y) (h : readyB told y = true) : okV (inc told y) := by
  obtain ⟨h1, h2, h3⟩ := ready_told hy h
  have h0 : 0 ≤ y.frm := hy.2.1.1
  have hg := okV_at ht y.frm.toNat (by omega)
  unfold inc ofT
  exact okV_set ht _ _ (by omega) (by omega)
theorem drain_no {told : List Int} {wait out : List It} (h : ∀ j (hj : j < wait.length), readyB told wait[j] = false) (k : Nat) : drain k told wait out = (told, wait, out) := by
  cases k with
  | zero => rfl
  | succ k =>
    have hf : wait.findIdx? (readyB told) = none := by
      rw [List.findIdx?_eq_none_iff]
      intro x hx
      obtain ⟨j, hj, rfl⟩ := List.getElem_of_mem hx
      exact h j hj
    simp only [drain, hf]
theorem drain_yes {told : List Int} {wait out : List It} {i : Nat} (hi : i < wait.length) (h : readyB told wait[i] = true) (hb : ∀ j (hj : j < wait.length), j < i → readyB told wait[j] = false) (k : Nat) :
    drain (k + 1) told wait out = drain k (inc told wait[i]) (wait.eraseIdx i) (out ++ [wait[i]]) := by
  have hf : wait.findIdx? (readyB told) = some i := by
    rw [List.findIdx?_eq_some_iff_getElem]
    exact ⟨hi, h, fun j hj => by simpa using hb j (by omega) hj⟩
  simp only [drain, hf, List.getElem?_eq_getElem hi]
end Go.Proofs.Ytbaknecnkipooaa.Hld
