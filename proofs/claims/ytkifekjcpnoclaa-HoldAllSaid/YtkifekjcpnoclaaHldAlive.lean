/- alive. -/
import Derived.Test.YtkifekjcpnoclaaHldEq
namespace Go.Proofs.Ytkifekjcpnoclaa.Hld
open Go Go.RowKit Go.Proofs.YtkifekjcpnoclaaW.PrintWords Go.Proofs.Ytkifekjcpnoclaa.Sep Go.Proofs.Ytkifekjcpnoclaa.Obj
set_option linter.unusedVariables false
set_option linter.unusedSimpArgs false

def b41 : List Int := [1, 0, 0, 0, 0, 0, 0, 0, 0, 0, 0, 0, 0, 0, 0, 0]
theorem build_1 (w : World) : (Instr.build 41 #[(0, .int .i64 1)]).run Try.prog w = .ok (.agg (bodC 1 z16 ⟨#[]⟩)) w := by kernel_rfl
theorem build_2 (w : World) : (Instr.build 43 #[(2, .agg (bodC 1 z16 ⟨#[]⟩))]).run Try.prog w = .ok (.agg (itC aI)) w := by kernel_rfl
theorem build_3 (w : World) : (Instr.build 24 #[(0, .int .u16 1)]).run Try.prog w = .ok (.agg (vecC b41)) w := by kernel_rfl
theorem build_4 (w : World) : (Instr.build 41 #[(0, .int .i64 1), (1, .agg (vecC b41))]).run Try.prog w = .ok (.agg (bodC 1 b41 ⟨#[]⟩)) w := by kernel_rfl
theorem build_5 (w : World) : (Instr.build 43 #[(1, .int .i64 1), (2, .agg (bodC 1 b41 ⟨#[]⟩))]).run Try.prog w = .ok (.agg (itC bI)) w := by kernel_rfl
theorem build_6 (w : World) : (Instr.build 36 #[]).run Try.prog w = .ok (.agg (hoC z16 (.slice none 0 0))) w := by kernel_rfl
theorem nil_C (w : World) : kIt.C w none ([] : List It).length [] := OwnS.C (As := [Sep.row kIt 43 (.slice none 0 0) []]) (OwnS.of_own (Own.nil (Own.start w))) 0 rfl
theorem buildE {P : Program} {ops : Array Oper} {rest : List Oper} {op : Oper} {a : Act} {w : World} {Q : Exit → Act → World → Prop} (hgd : op.guard = none) {t : TypeId} {parts : Array (Nat × Operand)} {v : Value} (ho : op.op = .build t parts)
    (hr : (Instr.build t (parts.map fun p => (p.1, a.eval p.2))).run P w = .ok v w) (h : wpList P ops Q rest (a.put op.dst v) w) : wpList P ops Q (op :: rest) a w := by
  refine wpList_plain hgd fun K' hK' => ?_
  unfold Oper.wp
  simp only [execOp, ho, Sem.run_bind, hr, Result.andThen_ok, Sem.run_pure]
  exact hK' _ _ h
end Go.Proofs.Ytkifekjcpnoclaa.Hld
