/- HoldOrder as plain data. -/
import Derived.Test.YtkifekjcpnoclaaHldOurs
import Derived.Test.YtkifekjcpnoclaaHldFullP
namespace Go.Proofs.Ytkifekjcpnoclaa.Hld
open Go Go.RowKit Go.Proofs.YtkifekjcpnoclaaW.PrintWords Go.Proofs.Ytkifekjcpnoclaa.Sep Go.Proofs.Ytkifekjcpnoclaa.Obj
set_option linter.unusedVariables false
set_option linter.unusedSimpArgs false
/-- behind i items, put one after the other -/
structure OrdI (i : Nat) (t : List Int) (wl : List It) : Prop where
  ok : okV t
  its : ∀ y ∈ wl, okI y
  cmp : ∀ y ∈ wl, okK y
  right : rightH t wl = true
  sum : sumD t z16 16 + (wl.length : Int) ≤ (i : Int)
theorem OrdI.up {i j : Nat} {t : List Int} {wl : List It} (h : OrdI i t wl) (hij : i ≤ j) : OrdI j t wl := ⟨h.ok, h.its, h.cmp, h.right, by have := h.sum; omega⟩
theorem sumD_nonneg {t : List Int} (ht : okV t) : ∀ i : Nat, i ≤ 16 → 0 ≤ sumD t z16 i
  | 0, _ => Int.le_refl _
  | i + 1, h => by
    have h1 := sumD_nonneg ht i (by omega)
    have h2 := okV_at ht i (by omega)
    simp only [sumD, z16_at]
    omega
theorem sumD_ge {t : List Int} (ht : okV t) (j : Nat) : ∀ i : Nat, i ≤ 16 → j < i → t.getD j 0 ≤ sumD t z16 i
  | i + 1, h, hj => by
    have h2 := okV_at ht i (by omega)
    simp only [sumD, z16_at]
    by_cases e : j = i
    · subst e
      have := sumD_nonneg ht j (by omega)
      omega
    · have := sumD_ge ht j i (by omega) (by omega)
      omega
theorem sum_all {t : List Int} (ht : okV t) {k : Int} (hk : sumD t z16 16 ≤ k) : ∀ n ∈ t, n ≤ k := by
  intro n hn
  obtain ⟨j, hj, rfl⟩ := List.getElem_of_mem hn
  have h16 := ht.1
  have := sumD_ge ht j 16 (Nat.le_refl _) (by omega)
  have e : t.getD j 0 = t[j] := by simp [List.getD_eq_getElem?_getD, hj]
  omega
theorem sumD_trans (a b c : List Int) : ∀ i : Nat, sumD a c i = sumD a b i + sumD b c i
  | 0 => rfl
  | i + 1 => by simp only [sumD, sumD_trans a b c i]; omega
theorem put_cmp {told : List Int} {wait : List It} {x : It} (hw : ∀ y ∈ wait, okK y) (hx : okK x) : ∀ y ∈ (putH told wait x).1.2.1, okK y := by
  by_cases h : (putH told wait x).2 = 0
  · obtain ⟨_, h2, _, _, ⟨_, h1⟩ | ⟨_, _, h1⟩⟩ := putH_ok h
    · rw [h1]
      exact drain_ind (fun _ w _ => ∀ y ∈ w, okK y) (fun t w o i hi hr h y hy => h y (mem_erase hy)) _ _ _ _ hw
    · rw [h1]
      intro y hy
      rcases List.mem_append.1 hy with hy | hy
      · exact hw y hy
      · rw [List.mem_singleton.1 hy]; exact hx
  · rw [putH_err h]; exact hw
theorem OrdI.put {i : Nat} {t : List Int} {wl : List It} {x : It} (h : OrdI i t wl) (hi : i < 140) (hx : okI x) (hk : okK x) : OrdI (i + 1) (putH t wl x).1.1 (putH t wl x).1.2.1 := by
  have hp := put_keep h.ok h.its hx
  have hs : sumD (putH t wl x).1.1 z16 16 + ((putH t wl x).1.2.1.length : Int) ≤ ((i + 1 : Nat) : Int) := by
    by_cases he : (putH t wl x).2 = 0
    · have hd := put_dr h.ok h.its hx he
      have h1 := sumD_trans (putH t wl x).1.1 t z16 16
      have h2 := hd.sum
      have h3 := hd.len
      have h4 := h.sum
      omega
    · rw [putH_err he]
      have := h.sum
      show sumD t z16 16 + (wl.length : Int) ≤ ((i + 1 : Nat) : Int)
      omega
  refine ⟨hp.1, hp.2, put_cmp h.cmp hk, put_right h.ok h.its hx h.right (fun n hn => ?_), hs⟩
  have := sum_all hp.1 (k := 1000) (by omega) n hn
  exact this
theorem OrdI.start : OrdI 0 z16 [] := ⟨ok_z, fun y hy => (by cases hy), fun y hy => (by cases hy), by kernel_rfl, by decide⟩
theorem goes_all {t : List Int} {wl : List It} {x : It} : Goes t (putH t wl x).1.2.2 (putH t wl x).1.1 := by
  by_cases h : (putH t wl x).2 = 0
  · exact put_goes h
  · rw [putH_err h]; rfl
theorem goes_at {tj t2 : List Int} {o : List It} {j : Nat} (h : Goes tj (o.drop j) t2) (hj : j < o.length) : readyB tj o[j] = true ∧ Goes (inc tj o[j]) (o.drop (j + 1)) t2 := by
  rw [List.drop_eq_getElem_cons hj] at h
  exact h
theorem goes_end {tj t2 : List Int} {o : List It} (h : Goes tj (o.drop o.length) t2) : tj = t2 := by
  rw [List.drop_length] at h
  exact h
end Go.Proofs.Ytkifekjcpnoclaa.Hld
