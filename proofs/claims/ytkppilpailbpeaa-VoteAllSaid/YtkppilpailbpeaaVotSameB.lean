/- Votes: the walk of Same. -/
import Derived.Test.YtkppilpailbpeaaVotSame
namespace Go.Proofs.Ytkppilpailbpeaa.Vot
open Go Go.RowKit Go.Proofs.YtkppilpailbpeaaW.PrintWords Go.Proofs.Ytkppilpailbpeaa.Cnt Go.Proofs.Ytkppilpailbpeaa.Opn
set_option linter.unusedVariables false
set_option linter.unusedSimpArgs false

set_option maxHeartbeats 2000000 in
set_option maxRecDepth 100000 in
theorem same_calls (ec rc dc : Bool) (E R : List Bal) (A1 : Option Addr) (c1 : Nat) (A2 : Option Addr) (c2 : Nat) (B1 : Option Addr) (d1 : Nat) (B2 : Option Addr) (d2 : Nat) (w : World) (hE : kB.C w A1 E.length E) (hR : kB.C w A2 R.length R) (hE' : kB.C w B1 E.length E) (hR' : kB.C w B2 R.length R) (hlE : E.length ≤ 1000000) (hlR : R.length ≤ 1000000) :
    Calls Try.prog 17 #[.agg #[.bool ec, .bool rc, .bool dc, .slice A1 E.length c1, .slice A2 R.length c2], .agg #[.bool ec, .bool rc, .bool dc, .slice B1 E.length d1, .slice B2 R.length d2]] w (Kept (.bool true) w) := by
  have HE := Aside0.mk hE
  have HR := Aside0.mk hR
  have HE' := Aside0.mk hE'
  have HR' := Aside0.mk hR'
  clear hE hR hE' hR'
  have HB := Aside0.mk (Below.refl w.heap.size w)
  have b1 : (ec == ec) = true := by simp
  have b2 : (rc == rc) = true := by simp
  have b3 : (dc == dc) = true := by simp
  go_enter Try.func17, Try.ntmps17
  go_wp2_with (first
    | (go_at_call 42; (with_reducible refine (ballots_calls A1 c1 E _ B1 d1 ?hb1 hlE ?hb2).mono ?_); (case hb1 => exact (by repeat (first | (with_reducible exact HE.out) | (with_reducible refine Kd.C_alloc ?_ _) | (with_reducible refine Kd.C_drewN ?_ _) | (with_reducible refine Kd.C_drew ?_)))); (case hb2 => exact (by repeat (first | (with_reducible exact HE'.out) | (with_reducible refine Kd.C_alloc ?_ _) | (with_reducible refine Kd.C_drewN ?_ _) | (with_reducible refine Kd.C_drew ?_)))); rintro e w1 ⟨rfl, m1, rfl⟩)
    | (go_at_call 42; (with_reducible refine (ballots_calls A2 c2 R _ B2 d2 ?hb1 hlR ?hb2).mono ?_); (case hb1 => exact (by repeat (first | (with_reducible exact HR.out) | (with_reducible refine Kd.C_alloc ?_ _) | (with_reducible refine Kd.C_drewN ?_ _) | (with_reducible refine Kd.C_drew ?_)))); (case hb2 => exact (by repeat (first | (with_reducible exact HR'.out) | (with_reducible refine Kd.C_alloc ?_ _) | (with_reducible refine Kd.C_drewN ?_ _) | (with_reducible refine Kd.C_drew ?_)))); rintro e w2 ⟨rfl, m2, rfl⟩)
    | fail)
  go_ret
  exact ⟨rfl, (by repeat (first | (with_reducible exact HB.out) | (with_reducible refine below_alloc ?_ _) | (with_reducible refine pw_below_drewN ?_ _) | (with_reducible refine below_drew ?_)))⟩
end Go.Proofs.Ytkppilpailbpeaa.Vot
