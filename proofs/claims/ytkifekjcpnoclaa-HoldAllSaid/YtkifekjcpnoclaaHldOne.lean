/- More events. -/
import Derived.Test.YtkifekjcpnoclaaHldAlive3
namespace Go.Proofs.Ytkifekjcpnoclaa.Hld
open Go Go.RowKit Go.Proofs.YtkifekjcpnoclaaW.PrintWords Go.Proofs.Ytkifekjcpnoclaa.Sep Go.Proofs.Ytkifekjcpnoclaa.Obj
set_option linter.unusedVariables false
set_option linter.unusedSimpArgs false
instance decIt : DecidableEq It := fun x y => decidable_of_iff (eqI x y = true) (eqI_iff x y)
theorem litR1 {ops : Array Oper} {rest : List Oper} {op : Oper} {a : Act} {w : World} {Q : Exit → Act → World → Prop} (hgd : op.guard = none) (x : It) (hx : x.past.length = 16) {p : Operand} (ho : op.op = .buildSlice 25 1 #[(0, p)]) (hp : a.eval p = .agg (itC x))
    (h : wpList Try.prog ops Q rest (a.put op.dst (.slice (some ⟨w.heap.size, 0, none⟩) 1 1)) (w.alloc (.cells (itC x) 31))) : wpList Try.prog ops Q (op :: rest) a w := by
  refine wpList_plain hgd fun K' hK' => ?_
  unfold Oper.wp
  simp [execOp, ho, hp, litR_it x hx w, Result.andThen]
  exact hK' _ _ h
theorem build_take {P : Program} {o : Oper} {a : Act} {w : World} {t : TypeId} {parts : Array (Nat × Operand)} {v : Value} (ho : o.op = .build t parts) (hr : (Instr.build t (parts.map fun p => (p.1, a.eval p.2))).run P w = .ok v w) : (execOp a.eval o).run P w = .ok (.value v) w := by
  simp only [execOp, ho, Sem.run_bind, hr, Result.andThen_ok, Sem.run_pure]
theorem buildR_h (v : List Int) (h : v.length = 16) (A : Option Addr) (n c : Nat) (w : World) : (Instr.build 27 #[(0, .agg (vecC v)), (1, .slice A n c)]).run Try.prog w = .ok (.agg (hoC v (.slice A n c))) w := by
  obtain ⟨a0, a1, a2, a3, a4, a5, a6, a7, a8, a9, a10, a11, a12, a13, a14, a15, rfl⟩ := list16 v h
  kernel_rfl
theorem row_at {w : World} {A : Option Addr} {g0 o0 : Nat} {l : List It} {x : It} (h : kIt.C w (some ⟨g0, o0, none⟩) l.length l) {i : Nat} (hi : i < l.length) (hx : l[i] = x) : ∀ {W : World}, Below w.heap.size w W → W.rangeAt g0 (o0 + i * 20) (itC x).toList := by
  intro W hb
  obtain ⟨g', o', ea, _, hr⟩ := at_It (Kd.C_below h hb) i hi
  cases ea
  rw [hx] at hr
  exact hr
end Go.Proofs.Ytkifekjcpnoclaa.Hld
