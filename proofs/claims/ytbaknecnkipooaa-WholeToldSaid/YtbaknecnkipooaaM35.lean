/- More events. -/
import Derived.Test.YtbaknecnkipooaaM33
import Derived.Test.YtbaknecnkipooaaM31
namespace Go.Proofs.Ytbaknecnkipooaa.Hld
open Go Go.RowKit Go.Proofs.YtbaknecnkipooaaW.PrintWords Go.Proofs.Ytbaknecnkipooaa.Sep Go.Proofs.Ytbaknecnkipooaa.Obj
set_option linter.unusedVariables false
set_option linter.unusedSimpArgs false
instance decIt : DecidableEq It := fun x y => decidable_of_iff (eqI x y = true) (eqI_iff x y)
theorem litR1 {ops : Array Oper} {rest : List Oper} {op : Oper} {a : Act} {w : World} {Q : Exit → Act → World → Prop} (hgd : op.guard = none) (x : It) (hx : x.past.length = 16) {p : Operand} (ho : op.op = .buildSlice 25 1 #[(0, p)]) (hp : a.eval p = .agg (itC x))
    (h : wpList Try.prog ops Q rest (a.put op.dst (.slice (some ⟨w.heap.size, 0, none⟩) 1 1)) (w.alloc (.cells (itC x) 40))) : wpList Try.prog ops Q (op :: rest) a w := by
  refine wpList_plain hgd fun K' hK' => ?_
  unfold Oper.wp
  simp [execOp, ho, hp, litR_it x hx w, Result.andThen]
  exact hK' _ _ h
theorem build_take {P : Program} {o : Oper} {a : Act} {w : World} {t : TypeId} {parts : Array (Nat × Operand)} {v : Value} (ho : o.op = .build t parts) (hr : (Instr.build t (parts.map fun p => (p.1, a.eval p.2))).run P w = .ok v w) : (execOp a.eval o).run P w = .ok (.value v) w := by
  simp only [execOp, ho, Sem.run_bind, hr, Result.andThen_ok, Sem.run_pure]
end Go.Proofs.Ytbaknecnkipooaa.Hld
