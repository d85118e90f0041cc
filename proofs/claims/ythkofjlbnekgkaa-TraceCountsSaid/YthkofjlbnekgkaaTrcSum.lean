/- Plain law of TraceCounts: the entries below a member are those of each one together. -/
import Derived.Test.YthkofjlbnekgkaaTrcAlive
namespace Go.Proofs.Ythkofjlbnekgkaa.Trc
open Go Go.RowKit Go.Proofs.YthkofjlbnekgkaaW.PrintWords Go.Proofs.Ythkofjlbnekgkaa.PTraceAgrees
set_option linter.unusedVariables false

def isBelow (v : Int) (k : Nat) (x : S50) : Bool := x.f0.f0 == v && decide (x.f0.f1 < (k : Int))
def belowN (l : List S50) (v : Int) (k : Nat) : Nat := (l.filter (isBelow v k)).length
theorem belowN_zero (l : List S50) (v : Int) (h : ∀ x ∈ l, 0 ≤ x.f0.f1) : belowN l v 0 = 0 := by
  unfold belowN
  rw [List.filter_eq_nil_iff.2 (fun x hx => ?_)]
  · rfl
  · have := h x hx
    simp [isBelow]
    omega
theorem belowN_succ (v : Int) (k : Nat) : ∀ l : List S50, (∀ x ∈ l, 0 ≤ x.f0.f1) → belowN l v (k + 1) = belowN l v k + (ofL l v (k : Int)).length
  | [], _ => rfl
  | x :: r, h => by
    have ih := belowN_succ v k r (fun y hy => h y (by simp [hy]))
    unfold belowN ofL at ih ⊢
    have hx := h x (by simp)
    by_cases hv : x.f0.f0 = v
    · rcases Int.lt_trichotomy x.f0.f1 (k : Int) with h1 | h1 | h1
      · have e1 : isBelow v (k + 1) x = true := by simp [isBelow, hv]; omega
        have e2 : isBelow v k x = true := by simp [isBelow, hv]; omega
        have e3 : isOf v (k : Int) x = false := by simp [isOf, hv]; omega
        simp only [List.filter_cons, e1, e2, e3, if_true, List.length_cons, Bool.false_eq_true, if_false]
        omega
      · have e1 : isBelow v (k + 1) x = true := by simp [isBelow, hv]; omega
        have e2 : isBelow v k x = false := by simp [isBelow, hv]; omega
        have e3 : isOf v (k : Int) x = true := by simp [isOf, hv]; omega
        simp only [List.filter_cons, e1, e2, e3, if_true, List.length_cons, Bool.false_eq_true, if_false]
        omega
      · have e1 : isBelow v (k + 1) x = false := by simp [isBelow, hv]; omega
        have e2 : isBelow v k x = false := by simp [isBelow, hv]; omega
        have e3 : isOf v (k : Int) x = false := by simp [isOf, hv]; omega
        simp only [List.filter_cons, e1, e2, e3, Bool.false_eq_true, if_false]
        omega
    · have e1 : isBelow v (k + 1) x = false := by simp [isBelow, hv]
      have e2 : isBelow v k x = false := by simp [isBelow, hv]
      have e3 : isOf v (k : Int) x = false := by simp [isOf, hv]
      simp only [List.filter_cons, e1, e2, e3, Bool.false_eq_true, if_false]
      omega
theorem belowN_le (l : List S50) (v : Int) (k : Nat) : belowN l v k ≤ l.length := List.length_filter_le _ _
end Go.Proofs.Ythkofjlbnekgkaa.Trc
