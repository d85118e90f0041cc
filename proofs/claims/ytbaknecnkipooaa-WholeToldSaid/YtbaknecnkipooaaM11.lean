/- Events at a drawn region's step: whatever has come up, what follows is known by its name alone. -/
import Derived.Test.YtbaknecnkipooaaM10
namespace Go.Proofs.Ytbaknecnkipooaa.Obj
open Go Go.RowKit Go.Proofs.YtbaknecnkipooaaW.PrintWords Go.Proofs.Ytbaknecnkipooaa.Sep
set_option linter.unusedVariables false
set_option linter.unusedSimpArgs false
section
variable {P : Program} {ops : Array Oper} {o : Oper} {a : Act} {Q : Exit → Act → World → Prop} {Kc : Act → World → Prop} {S : Nat → Prop} {As : List Asr} {w0 W : World}
theorem step_run {E : Prop} (hw : Region.wanted o (yielded ops a.tmps) = true) {v : Value} {w' : World} (hr : (execOp a.eval o).run P W = .ok (.value v) w') (h : Kc (a.put o.dst v) w') : if Region.wanted o (yielded ops a.tmps) = true then Oper.wp P o a W Kc Q else E := by
  rw [if_pos hw]
  unfold Oper.wp
  simp only [hr]
  exact h
theorem evS_box_step {E : Prop} (HH : OwnS S As w0 W) (hw : Region.wanted o (yielded ops a.tmps) = true) {cs : Array Value} {T : TypeId}
    (hrun : (execOp a.eval o).run P W = .ok (.value (.pointer (some ⟨W.heap.size, 0, none⟩))) (W.alloc (.cells cs T (0, 0))))
    (h : ∀ g w', g = W.heap.size → OwnS S (As ++ [Sep.blk g cs T]) w0 w' → Kc (a.put o.dst (.pointer (some ⟨g, 0, none⟩))) w') : if Region.wanted o (yielded ops a.tmps) = true then Oper.wp P o a W Kc Q else E :=
  step_run hw hrun (h _ _ rfl (HH.new cs T))
theorem ev_cell_step {E : Prop} {w : World} {g j : Nat} {v : Value} (hc : w.cell? ⟨g, j, none⟩ = some v) (hw : Region.wanted o (yielded ops a.tmps) = true) {t : TypeId} {p : Operand} (ho : o.op = .load t p) (hp : a.eval p = .pointer (some ⟨g, j, none⟩)) {d : TypeDesc} (hu : P.underlying t = some d) (hd : d.isRow = false)
    (h : Kc (a.put o.dst v) w) : if Region.wanted o (yielded ops a.tmps) = true then Oper.wp P o a w Kc Q else E := by
  refine step_run hw (v := v) (w' := w) ?_ h
  unfold execOp
  simp only [ho, hp, Sem.run_bind, Sem.run_pure, Result.andThen_ok, run_one hc hu hd]
end
end Go.Proofs.Ytbaknecnkipooaa.Obj
