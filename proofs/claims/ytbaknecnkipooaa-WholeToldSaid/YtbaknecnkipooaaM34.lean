/- The Puts of alive, as plain data. HoldFull as plain data. HoldOrder as plain data. -/
import Derived.Test.YtbaknecnkipooaaM26
import Derived.Test.YtbaknecnkipooaaM33
import Derived.Test.YtbaknecnkipooaaM31
namespace Go.Proofs.Ytbaknecnkipooaa.Hld
open Go Go.RowKit Go.Proofs.YtbaknecnkipooaaW.PrintWords Go.Proofs.Ytbaknecnkipooaa.Sep Go.Proofs.Ytbaknecnkipooaa.Obj
def z16 : List Int := [0, 0, 0, 0, 0, 0, 0, 0, 0, 0, 0, 0, 0, 0, 0, 0]
def t2 : List Int := [2, 0, 0, 0, 0, 0, 0, 0, 0, 0, 0, 0, 0, 0, 0, 0]
theorem ok_z : okV z16 := ⟨rfl, by decide⟩
end Go.Proofs.Ytbaknecnkipooaa.Hld
namespace Go.Proofs.Ytbaknecnkipooaa.Hld
open Go Go.RowKit Go.Proofs.YtbaknecnkipooaaW.PrintWords Go.Proofs.Ytbaknecnkipooaa.Sep Go.Proofs.Ytbaknecnkipooaa.Obj
set_option linter.unusedVariables false
set_option linter.unusedSimpArgs false
theorem z16_at (j : Nat) : z16.getD j 0 = 0 := by
  rcases Nat.lt_or_ge j 16 with h | h
  · rcases lt16 h with rfl | rfl | rfl | rfl | rfl | rfl | rfl | rfl | rfl | rfl | rfl | rfl | rfl | rfl | rfl | rfl <;> rfl
  · simp [List.getD_eq_getElem?_getD, List.getElem?_eq_none (show z16.length ≤ j from h)]
end Go.Proofs.Ytbaknecnkipooaa.Hld
namespace Go.Proofs.Ytbaknecnkipooaa.Hld
open Go Go.RowKit Go.Proofs.YtbaknecnkipooaaW.PrintWords Go.Proofs.Ytbaknecnkipooaa.Sep Go.Proofs.Ytbaknecnkipooaa.Obj
set_option linter.unusedVariables false
set_option linter.unusedSimpArgs false
theorem sumD_nonneg {t : List Int} (ht : okV t) : ∀ i : Nat, i ≤ 16 → 0 ≤ sumD t z16 i
  | 0, _ => Int.le_refl _
  | i + 1, h => by
    have h1 := sumD_nonneg ht i (by omega)
    have h2 := okV_at ht i (by omega)
    simp only [sumD, z16_at]
    omega
theorem sumD_ge {t : List Int} (ht : okV t) (j : Nat) : ∀ i : Nat, i ≤ 16 → j < i → t.getD j 0 ≤ sumD t z16 i
  | i + 1, h, hj => by
    have h2 := okV_at ht i (by omega)
    simp only [sumD, z16_at]
    by_cases e : j = i
    · subst e
      have := sumD_nonneg ht j (by omega)
      omega
    · have := sumD_ge ht j i (by omega) (by omega)
      omega
theorem sum_all {t : List Int} (ht : okV t) {k : Int} (hk : sumD t z16 16 ≤ k) : ∀ n ∈ t, n ≤ k := by
  intro n hn
  obtain ⟨j, hj, rfl⟩ := List.getElem_of_mem hn
  have h16 := ht.1
  have := sumD_ge ht j 16 (Nat.le_refl _) (by omega)
  have e : t.getD j 0 = t[j] := by simp [List.getD_eq_getElem?_getD, hj]
  omega
theorem sumD_trans (a b c : List Int) : ∀ i : Nat, sumD a c i = sumD a b i + sumD b c i
  | 0 => rfl
  | i + 1 => by simp only [sumD, sumD_trans a b c i]; omega
theorem goes_all {t : List Int} {wl : List It} {x : It} : Goes t (putH t wl x).1.2.2 (putH t wl x).1.1 := by
  by_cases h : (putH t wl x).2 = 0
  · exact put_goes h
  · rw [putH_err h]; rfl
theorem goes_at {tj t2 : List Int} {o : List It} {j : Nat} (h : Goes tj (o.drop j) t2) (hj : j < o.length) : readyB tj o[j] = true ∧ Goes (inc tj o[j]) (o.drop (j + 1)) t2 := by
  rw [List.drop_eq_getElem_cons hj] at h
  exact h
theorem goes_end {tj t2 : List Int} {o : List It} (h : Goes tj (o.drop o.length) t2) : tj = t2 := by
  rw [List.drop_length] at h
  exact h
end Go.Proofs.Ytbaknecnkipooaa.Hld
