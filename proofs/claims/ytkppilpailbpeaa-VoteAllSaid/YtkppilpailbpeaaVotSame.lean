/- Votes: the walks of Sound, ballots, Same. -/
import Derived.Test.YtkppilpailbpeaaVotConv
import Derived.BigQuiet
namespace Go.Proofs.Ytkppilpailbpeaa.Vot
open Go Go.RowKit Go.Proofs.YtkppilpailbpeaaW.PrintWords Go.Proofs.Ytkppilpailbpeaa.Cnt Go.Proofs.Ytkppilpailbpeaa.Opn
set_option linter.unusedVariables false
set_option linter.unusedSimpArgs false

theorem drewN_drewN' (w : World) (a b : Nat) : (w.drewN a).drewN b = w.drewN (a + b) := by simp
set_option maxHeartbeats 2000000 in
set_option maxRecDepth 100000 in
theorem sound_calls (A : Option Addr) (c : Nat) (l : List Bal) (w : World) (hr : kB.C w A l.length l) (hl : l.length ≤ 1000000) (hw : ∀ x ∈ l, x.who < 65536) :
    Calls Try.prog 13 #[.slice A l.length c] w (fun e w' => ∃ b m, e = .returned (.bool b) ∧ w' = w.drewN m) := by
  have HR := Aside0.mk hr
  have HWh := Aside0.mk hw
  clear hr hw
  go_enter Try.func13, Try.ntmps13
  go_wp2_with fail
  go_loopw [3] (fun v3 w' => ∃ (i : Nat) (m : Nat), v3 = .int .i64 (i : Int) ∧ i ≤ l.length ∧ w' = w.drewN m) (fun v3 _ => l.length - (intOf v3).toNat)
  case atStart => exact ⟨0, 0, rfl, by omega, rfl⟩
  case round =>
    obtain ⟨i, m, rfl, hi, rfl⟩ := hrel
    by_cases hlt : i < l.length
    · go_wp2_with fail
      go_loopw [4] (fun v4 w' => ∃ (j : Nat) (m : Nat), v4 = .int .i64 (j : Int) ∧ j ≤ i ∧ w' = w.drewN m) (fun v4 _ => i - (intOf v4).toNat)
      case atStart => exact ⟨0, m, rfl, by omega, rfl⟩
      case round =>
        obtain ⟨j, m, rfl, hj, rfl⟩ := hrel
        by_cases hji : j < i
        · obtain ⟨ad, ea, h0, h1⟩ := at_B HR.out i hlt
          cases ea
          obtain ⟨ad', ea', k0, k1⟩ := at_B HR.out j (by omega)
          cases ea'
          have hx := HWh.out l[i] (List.getElem_mem _)
          have hy := HWh.out l[j] (List.getElem_mem _)
          generalize l[i] = x at *
          generalize l[j] = y at *
          have hnn := u16_and_nat x.who y.who hx hy
          have q0 : 0 ≤ bits .and .u16 (x.who : Int) (y.who : Int) := by rw [hnn]; omega
          obtain ⟨q, hbq⟩ : ∃ q, (bits .and .u16 (x.who : Int) (y.who : Int) != 0) = q := ⟨_, rfl⟩
          clear hnn hx hy
          have g0 : 0 ≤ (i : Int) := by omega
          have g1 : (i : Int) < (l.length : Int) := by omega
          have g2 : 0 ≤ (j : Int) := by omega
          have g3 : (j : Int) < (l.length : Int) := by omega
          have g4 : (j : Int) < (i : Int) := by omega
          have HI := Aside0.mk hi
          cases hq : (x.body.toList == y.body.toList) with
          | true =>
            go_wp2_with fail
            go_quiet (fail)
            go_wp2_with fail
            go_ret
            exact ⟨_, _, rfl, drewN_drewN' _ _ _⟩
          | false =>
            cases q with
            | false =>
              go_wp2_with fail
              go_quiet (fail)
              go_wp2_with fail
              go_roundw
              case rel => exact ⟨j + 1, _, by go_num, by omega, rfl⟩
              case measure => simp [intOf]; omega
            | true =>
              go_wp2_with fail
              go_quiet (fail)
              go_wp2_with fail
              go_ret
              exact ⟨_, _, rfl, drewN_drewN' _ _ _⟩
        · go_wp2_with fail
          go_roundw
          case rel => exact ⟨i + 1, m, by go_num, by omega, rfl⟩
          case measure => simp [intOf]; omega
    · go_wp2_with fail
      go_ret
      exact ⟨_, _, rfl, rfl⟩

set_option maxHeartbeats 2000000 in
set_option maxRecDepth 100000 in
theorem ballots_calls (A : Option Addr) (c : Nat) (l : List Bal) (w : World) (A' : Option Addr) (c' : Nat) (hr : kB.C w A l.length l) (hl : l.length ≤ 1000000) (hr' : kB.C w A' l.length l) :
    Calls Try.prog 42 #[.slice A l.length c, .slice A' l.length c'] w (fun e w' => e = .returned (.bool true) ∧ ∃ m, w' = w.drewN m) := by
  have HR := Aside0.mk hr
  have HR' := Aside0.mk hr'
  clear hr hr'
  go_enter Try.func42, Try.ntmps42
  go_wp2_with fail
  go_loopw [5] (fun v5 w' => ∃ (i : Nat) (m : Nat), v5 = .int .i64 (i : Int) ∧ i ≤ l.length ∧ w' = w.drewN m) (fun v5 _ => l.length - (intOf v5).toNat)
  case atStart => exact ⟨0, 0, rfl, by omega, rfl⟩
  case round =>
    obtain ⟨i, m, rfl, hi, rfl⟩ := hrel
    by_cases hlt : i < l.length
    · obtain ⟨ad, ea, h0, h1⟩ := at_B HR.out i hlt
      cases ea
      obtain ⟨ad', ea', k0, k1⟩ := at_B HR'.out i hlt
      cases ea'
      generalize l[i] = x at *
      have hxx : (!(x.body.toList == x.body.toList && ((x.who : Int) == (x.who : Int)))) = false := by simp
      have g0 : 0 ≤ (i : Int) := by omega
      have g1 : (i : Int) < (l.length : Int) := by omega
      go_wp2_with fail
      go_quiet (fail)
      go_wp2_with fail
      go_roundw
      case rel => exact ⟨i + 1, _, by go_num, by omega, rfl⟩
      case measure => simp [intOf]; omega
    · go_wp2_with fail
      go_ret
      exact ⟨rfl, _, rfl⟩
end Go.Proofs.Ytkppilpailbpeaa.Vot
