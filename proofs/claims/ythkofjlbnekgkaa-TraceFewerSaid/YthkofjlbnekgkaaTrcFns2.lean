/- The walks of Equal, Prefix, few, all. -/
import Derived.Test.YthkofjlbnekgkaaTrcFns
import Derived.Deep.QuietTactic
import Derived.BigQuiet
namespace Go.Proofs.Ythkofjlbnekgkaa.Trc
open Go.RowKit Go.Proofs.YthkofjlbnekgkaaW.PrintWords Go.Proofs.Ythkofjlbnekgkaa.PTraceAgrees
set_option linter.unusedVariables false
set_option linter.unusedSimpArgs false
attribute [local go_sem high] eqA50 eqA52 eqA54

theorem bytes_eq (a b : ByteArray) : (a.toList == b.toList) = true ↔ a = b := by
  rw [beq_iff_eq, ByteArray.toList_eq, ByteArray.toList_eq]
  exact ⟨fun h => ByteArray.ext (Array.toList_inj.mp h), fun h => by rw [h]⟩
/-- the walk's sameness of two entries -/
theorem same50 (x y : S50) : ((x.f0.f0 == y.f0.f0 && (x.f0.f1 == y.f0.f1 && (x.f0.f2 == y.f0.f2))) && (x.f1.toList == y.f1.toList)) = true ↔ x = y := by
  rw [Bool.and_eq_true, bytes_eq]
  cases x with | mk a b => cases a; cases y with | mk c d => cases c; simp
theorem same52 (x y : S52) : ((x.f0.f0 == y.f0.f0 && (x.f0.f1 == y.f0.f1 && (x.f0.f2 == y.f0.f2))) && (x.f1.toList == y.f1.toList)) = true ↔ x = y := by
  rw [Bool.and_eq_true, bytes_eq]
  cases x with | mk a b => cases a; cases y with | mk c d => cases c; simp
theorem unlike_same (p q r s : Bool) : ((!p || (!q || !r)) || !s) = !((p && (q && r)) && s) := by cases p <;> cases q <;> cases r <;> cases s <;> rfl
theorem unlike50 (x y : S50) : ((!(x.f0.f0 == y.f0.f0) || (!(x.f0.f1 == y.f0.f1) || (!(x.f0.f2 == y.f0.f2)))) || (!(x.f1.toList == y.f1.toList))) = true ↔ x ≠ y := by
  rw [unlike_same, Bool.not_eq_true', ← Bool.not_eq_true, same50]
/-- are two lists the same? -/
noncomputable def eqv {α : Type} (a b : α) : Bool := @decide (a = b) (Classical.propDecidable _)
theorem eqv_true {α : Type} {a b : α} (h : a = b) : eqv a b = true := by unfold eqv; simp [h]
theorem eqv_false {α : Type} {a b : α} (h : a ≠ b) : eqv a b = false := by unfold eqv; simp [h]
theorem eqv_iff {α : Type} (a b : α) : eqv a b = true ↔ a = b := by unfold eqv; simp

set_option maxHeartbeats 1000000 in
set_option maxRecDepth 100000 in
theorem equal_calls (A A' : Option Addr) (c c' : Nat) (a b : List S50) (w : World) (hr : Kd.C k50 w A a.length a) (hr' : Kd.C k50 w A' b.length b) (hl : a.length < 3518437208883) :
    Calls Try.prog 26 #[.slice A a.length c, .slice A' b.length c'] w (Ret (.bool (eqv a b)) w) := by
  have HR := Aside0.mk hr
  have HR' := Aside0.mk hr'
  clear hr hr'
  by_cases hlen : a.length = b.length
  · have n1 : ((a.length : Int) != (b.length : Int)) = false := by simp [hlen]
    have HLen := Aside0.mk hlen
    have hle : b.length ≤ a.length := by omega
    have hle' : a.length ≤ b.length := by omega
    clear hlen
    go_enter Try.func26, Try.ntmps26
    go_wp2_with fail
    go_loopw [5, 13] (fun v5 v13 w' => ∃ (k : Nat), v13 = .int .i64 (k : Int) ∧ k ≤ a.length ∧ Aside0 (a.take k = b.take k) ∧ ∃ n, w' = w.drewN n) (fun _ v13 _ => a.length - (intOf v13).toNat)
    case atStart => exact ⟨0, rfl, by omega, ⟨by simp⟩, 0, rfl⟩
    case round =>
      obtain ⟨k, rfl, hk, HT, n, rfl⟩ := hrel
      by_cases hlt : k < a.length
      · obtain ⟨ad, ea, h0, h1, h2, h3⟩ := at_T50 HR.out (k : Int) (by omega) (by omega)
        cases ea
        obtain ⟨ad', ea', h0', h1', h2', h3'⟩ := at_T50 HR'.out (k : Int) (by omega) (by omega)
        cases ea'
        simp only [Int.toNat_natCast] at h0 h1 h2 h3 h0' h1' h2' h3'
        have HX := Aside0.mk (rd50 (l := a) hlt)
        have HY := Aside0.mk (rd50 (l := b) (i := k) (by omega))
        generalize rd_T50 a (k : Int) = x at *
        generalize rd_T50 b (k : Int) = y at *
        have g0 : 0 ≤ (k : Int) := by omega
        have g1 : (k : Int) < (a.length : Int) := by omega
        have g2 : (k : Int) < (b.length : Int) := by omega
        by_cases hxy : x = y
        · subst hxy
          have n2 : ((!(x.f0.f0 == x.f0.f0) || (!(x.f0.f1 == x.f0.f1) || (!(x.f0.f2 == x.f0.f2)))) || (!(x.f1.toList == x.f1.toList))) = false := by
            rw [← Bool.not_eq_true, unlike50]; simp
          go_wp2_with fail
          go_quiet (fail)
          go_wp2_with fail
          go_roundw
          case rel => exact ⟨k + 1, by go_num, by omega, ⟨by rw [← List.take_append_getElem hlt, ← List.take_append_getElem (show k < b.length by omega), HT.out, ← HX.out, ← HY.out]⟩, _, rfl⟩
          case measure => simp [intOf]; omega
        · have n2 : ((!(x.f0.f0 == y.f0.f0) || (!(x.f0.f1 == y.f0.f1) || (!(x.f0.f2 == y.f0.f2)))) || (!(x.f1.toList == y.f1.toList))) = true := (unlike50 x y).2 hxy
          have HXY := Aside0.mk hxy
          clear hxy
          go_wp2_with fail
          go_quiet (fail)
          go_wp2_with fail
          go_ret
          exact ⟨ret_bool (eqv_false fun e => HXY.out (by rw [HX.out, HY.out]; simp only [e])).symm, n + nq, by rw [World.drewN_drewN]⟩
      · have hge : a.length ≤ k := by omega
        go_wp2_with fail
        go_ret
        exact ⟨ret_bool (eqv_true (by have := HT.out; rwa [List.take_of_length_le hge, List.take_of_length_le (by omega)] at this)).symm, _, rfl⟩
  · have n1 : ((a.length : Int) != (b.length : Int)) = true := by simp; omega
    have HLen := Aside0.mk hlen
    clear hlen
    go_enter Try.func26, Try.ntmps26
    go_wp2_with fail
    go_ret
    exact ⟨ret_bool (eqv_false fun e => HLen.out (by rw [e])).symm, 0, rfl⟩

/-- is one of two lists a beginning of the other one? -/
noncomputable def pre {α : Type} (a b : List α) : Bool := eqv (a.take (min a.length b.length)) (b.take (min a.length b.length))

set_option maxHeartbeats 1000000 in
set_option maxRecDepth 100000 in
theorem prefix_calls (A A' : Option Addr) (c c' : Nat) (a b : List S50) (w : World) (hr : Kd.C k50 w A a.length a) (hr' : Kd.C k50 w A' b.length b) (hc : a.length ≤ c) (hc' : b.length ≤ c') (hl : a.length < 3518437208883) (hm : b.length < 3518437208883) :
    Calls Try.prog 15 #[.slice A a.length c, .slice A' b.length c'] w (Ret (.bool (pre a b)) w) := by
  have HR := Aside0.mk hr
  have HR' := Aside0.mk hr'
  clear hr hr'
  obtain ⟨i0, hi0, _⟩ := Option.map_eq_some_iff.1 info50
  rcases Nat.lt_or_ge b.length a.length with h | h
  · have hmin : min a.length b.length = b.length := Nat.min_eq_right (by omega)
    have c1 := cut_to (P := Try.prog) 26 50 .i64 Try.underlying26 hi0 A a.length c (b.length : Int) (by omega) (by omega) hc
    have c2 := cut_to (P := Try.prog) 26 50 .i64 Try.underlying26 hi0 A' b.length c' (b.length : Int) (by omega) (by omega) hc'
    have HC1 := Aside0.mk (Kd.C_take HR.out (m := b.length) (by omega))
    have HC2 := Aside0.mk (Kd.C_take HR'.out (m := b.length) (by omega))
    have l1 : (a.take b.length).length = b.length := by simp; omega
    have l2 : (b.take b.length).length = b.length := by simp
    have HMin := Aside0.mk hmin
    have heq : ∀ n, Calls Try.prog 26 #[.slice A b.length c, .slice A' b.length c'] (w.drewN n) (Ret (.bool (pre a b)) (w.drewN n)) := by
      intro n
      have e1 : Kd.C k50 (w.drewN n) A (a.take b.length).length (a.take b.length) := HC1.out
      have e2 : Kd.C k50 (w.drewN n) A' (b.take b.length).length (b.take b.length) := HC2.out
      have := equal_calls A A' c c' (a.take b.length) (b.take b.length) (w.drewN n) e1 e2 (by omega)
      rw [l1, l2] at this
      unfold pre
      rw [hmin]
      exact this
    have HEq := Aside0.mk heq
    clear heq hmin l1 l2
    go_enter Try.func15, Try.ntmps15
    go_wp2_with fail
    go_quiet ((go_at_call 26; exact Calls.quiet_of (HEq.out _)))
    go_wp2_with fail
    go_ret
    exact ⟨rfl, _, rfl⟩
  · have hmin : min a.length b.length = a.length := Nat.min_eq_left h
    have c1 := cut_to (P := Try.prog) 26 50 .i64 Try.underlying26 hi0 A a.length c (a.length : Int) (by omega) (by omega) hc
    have c2 := cut_to (P := Try.prog) 26 50 .i64 Try.underlying26 hi0 A' b.length c' (a.length : Int) (by omega) (by omega) hc'
    have HC1 := Aside0.mk (Kd.C_take HR.out (m := a.length) (by omega))
    have HC2 := Aside0.mk (Kd.C_take HR'.out (m := a.length) (by omega))
    have l1 : (a.take a.length).length = a.length := by simp
    have l2 : (b.take a.length).length = a.length := by simp; omega
    have HMin := Aside0.mk hmin
    have heq : ∀ n, Calls Try.prog 26 #[.slice A a.length c, .slice A' a.length c'] (w.drewN n) (Ret (.bool (pre a b)) (w.drewN n)) := by
      intro n
      have e1 : Kd.C k50 (w.drewN n) A (a.take a.length).length (a.take a.length) := HC1.out
      have e2 : Kd.C k50 (w.drewN n) A' (b.take a.length).length (b.take a.length) := HC2.out
      have := equal_calls A A' c c' (a.take a.length) (b.take a.length) (w.drewN n) e1 e2 (by omega)
      rw [l1, l2] at this
      unfold pre
      rw [hmin]
      exact this
    have HEq := Aside0.mk heq
    clear heq hmin l1 l2
    go_enter Try.func15, Try.ntmps15
    go_wp2_with fail
    go_quiet ((go_at_call 26; exact Calls.quiet_of (HEq.out _)))
    go_wp2_with fail
    go_ret
    exact ⟨rfl, _, rfl⟩

def fewL (l : List (List S52)) : Bool := l.all (fun x => decide (x.length ≤ 30)) && decide (l.length ≤ 6)
theorem few_calls (A : Option Addr) (c : Nat) (l : List (List S52)) (w : World) (hr : Kd.C (Kd.slice 52 k52) w A l.length l) (hl : l.length ≤ 9223372036854775807) :
    Calls Try.prog 21 #[.slice A l.length c] w (Ret (.bool (fewL l)) w) := by
  have HR := Aside0.mk hr
  clear hr
  go_enter Try.func21, Try.ntmps21
  go_wp2_with fail
  go_loopw [4, 7] (fun v4 v7 w' => ∃ (k : Nat), v7 = .int .i64 (k : Int) ∧ k ≤ l.length ∧ Aside0 ((l.take k).all (fun x => decide (x.length ≤ 30)) = true) ∧ ∃ n, w' = w.drewN n) (fun _ v7 _ => l.length - (intOf v7).toNat)
  case atStart => exact ⟨0, rfl, by omega, ⟨by simp⟩, 0, rfl⟩
  case round =>
    obtain ⟨k, rfl, hk, HT, n, rfl⟩ := hrel
    by_cases hlt : k < l.length
    · obtain ⟨ad, A0, c0, ea, h0, hle, hin⟩ := at_L6 HR.out (k : Int) (by omega) (by omega)
      cases ea
      simp only [Int.toNat_natCast] at h0
      have hX : rd_L6 l (k : Int) = l[k] := by simp [rd_L6, hlt]
      have HX := Aside0.mk hX
      clear hin hX
      generalize rd_L6 l (k : Int) = x at *
      by_cases h30 : 30 < x.length
      · go_wp2_with fail
        go_ret
        refine ⟨ret_bool ?_, _, rfl⟩
        unfold fewL
        symm
        rw [Bool.and_eq_false_iff]
        left
        rw [List.all_eq_false]
        exact ⟨x, by rw [HX.out]; exact List.getElem_mem _, by simp; omega⟩
      · go_wp2_with fail
        go_roundw
        case rel => exact ⟨k + 1, by go_num, by omega, ⟨by rw [← List.take_append_getElem hlt, List.all_append, HT.out, ← HX.out]; simp; omega⟩, _, rfl⟩
        case measure => simp [intOf]; omega
    · have hge : l.length ≤ k := by omega
      have HTt : Aside0 (l.all (fun x => decide (x.length ≤ 30)) = true) := ⟨by have := HT.out; rwa [List.take_of_length_le hge] at this⟩
      go_wp2_with fail
      all_goals go_ret
      all_goals exact ⟨ret_bool (by unfold fewL; rw [HTt.out]; simp; omega), _, rfl⟩

end Go.Proofs.Ythkofjlbnekgkaa.Trc
