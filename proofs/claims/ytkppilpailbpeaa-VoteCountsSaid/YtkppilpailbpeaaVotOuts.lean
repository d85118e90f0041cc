/- Votes: the walk of outs. -/
import Derived.Test.YtkppilpailbpeaaVotRef4
namespace Go.Proofs.Ytkppilpailbpeaa.Vot
open Go Go.RowKit Go.Proofs.YtkppilpailbpeaaW.PrintWords Go.Proofs.Ytkppilpailbpeaa.Cnt Go.Proofs.Ytkppilpailbpeaa.Opn Go.Proofs.Ytkppilpailbpeaa.Sep
set_option linter.unusedVariables false
set_option linter.unusedSimpArgs false

set_option maxHeartbeats 2000000 in
set_option maxRecDepth 100000 in
theorem outs_calls (A : Option Addr) (c : Nat) (l : List Out) (A' : Option Addr) (c' : Nat) (w : World) (hr : kO.C w A l.length l) (hr' : kO.C w A' l.length l) (hl : l.length ≤ 1000000) :
    Calls Try.prog 19 #[.slice A l.length c, .slice A' l.length c'] w (Kept (.bool true) w) := by
  have HR := Aside0.mk hr
  have HR' := Aside0.mk hr'
  clear hr hr'
  have HB := Aside0.mk (Below.refl w.heap.size w)
  have hnn : ((l.length : Int) != (l.length : Int)) = false := by simp
  go_enter Try.func19, Try.ntmps19
  go_wp2_with fail
  go_loopw [14] (fun v14 w' => ∃ (i : Nat), v14 = .int .i64 (i : Int) ∧ i ≤ l.length ∧ Aside0 (Below w.heap.size w w')) (fun v14 _ => l.length - (intOf v14).toNat)
  case atStart => exact ⟨0, rfl, by omega, HB⟩
  case round =>
    clear HB
    obtain ⟨i, rfl, hi, HB⟩ := hrel
    by_cases hlt : i < l.length
    · obtain ⟨ad, ea, h0, h1⟩ := at_O (Kd.C_below HR.out HB.out) i hlt
      cases ea
      obtain ⟨ad', ea', k0, k1⟩ := at_O (Kd.C_below HR'.out HB.out) i hlt
      cases ea'
      generalize l[i] = x at *
      have hxx : (!((x.kind == x.kind) && (x.body.toList == x.body.toList))) = false := by simp
      have g0 : 0 ≤ (i : Int) := by omega
      have g1 : (i : Int) < (l.length : Int) := by omega
      have hq0 := pw_cell_below (below_alloc (Below.refl wr.heap.size wr) (Obj.cells #[.int .i64 x.kind, .string x.body] 72)) k0
      have hq1 := pw_cell_below (below_alloc (Below.refl wr.heap.size wr) (Obj.cells #[.int .i64 x.kind, .string x.body] 72)) k1
      go_wp2_with fail
      go_quiet (fail)
      go_wp2_with fail
      go_roundw
      case rel => exact ⟨i + 1, by go_num, by omega, ⟨(by repeat (first | (with_reducible exact HB.out) | (with_reducible refine below_alloc ?_ _) | (with_reducible refine pw_below_drewN ?_ _) | (with_reducible refine below_drew ?_)))⟩⟩
      case measure => simp [intOf]; omega
    · go_wp2_with fail
      go_ret
      exact ⟨rfl, HB.out⟩
end Go.Proofs.Ytkppilpailbpeaa.Vot
