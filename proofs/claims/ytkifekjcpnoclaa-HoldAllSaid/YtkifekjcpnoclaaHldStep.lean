/- Events at a drawn region's step, of blocks with arrays in them. -/
import Derived.Test.YtkifekjcpnoclaaObjStep
import Derived.Test.YtkifekjcpnoclaaHldPut7
namespace Go.Proofs.Ytkifekjcpnoclaa.Hld
open Go Go.RowKit Go.Proofs.YtkifekjcpnoclaaW.PrintWords Go.Proofs.Ytkifekjcpnoclaa.Sep Go.Proofs.Ytkifekjcpnoclaa.Obj
set_option linter.unusedVariables false
set_option linter.unusedSimpArgs false
section
variable {P : Program} {ops : Array Oper} {o : Oper} {a : Act} {Q : Exit → Act → World → Prop} {Kc : Act → World → Prop} {S : Nat → Prop} {As : List Asr} {w0 W : World}
theorem evS_storeA_step {E : Prop} (HH : OwnS S As w0 W) (i : Nat) (hw : Region.wanted o (yielded ops a.tmps) = true) (hN : o.dst = none) {t : TypeId} {p x : Operand} (ho : o.op = .store t p x) {g j : Nat} {cs : Array Value} {T : TypeId} (hi : As[i]? = some (Sep.blk g cs T)) (hp : a.eval p = .pointer (some ⟨g, j, none⟩))
    (u : Value) (hx : a.eval x = u) (vs : Array Value) (hu : u.cells = vs) (n m : Nat) (hs : vs.size = n) (hc : cs.size = m) (ht : (P.info? t).map (·.size) = some n) (hj : j + n ≤ m) (h1 : ∀ q ∈ vs.toList, q.oneCell' = true) (cs' : Array Value) (hcs : (putL cs.toList j vs.toList).toArray = cs')
    (h : ∀ w', OwnS S (As.set i (Sep.blk g cs' T)) w0 w' → Kc a w') : if Region.wanted o (yielded ops a.tmps) = true then Oper.wp P o a W Kc Q else E := by
  subst hcs
  exact evS_store_step HH i hw hN ho hi hp u hx vs.toList (by rw [hu]) (by rw [ht]; simp [hs]) (by simp [hs, hc]; exact hj) h1 h
end
section
variable {ops : Array Oper} {o : Oper} {a : Act} {Q : Exit → Act → World → Prop} {Kc : Act → World → Prop} {W : World}
theorem lit1_step {E : Prop} (hw : Region.wanted o (yielded ops a.tmps) = true) (x : It) (hx : x.past.length = 16) {p : Operand} (ho : o.op = .buildSlice 34 1 #[(0, p)]) (hp : a.eval p = .agg (itC x))
    (h : Kc (a.put o.dst (.slice (some ⟨W.heap.size, 0, none⟩) 1 1)) (W.alloc (.cells (itC x) 43))) : if Region.wanted o (yielded ops a.tmps) = true then Oper.wp Try.prog o a W Kc Q else E := by
  refine step_run hw (v := .slice (some ⟨W.heap.size, 0, none⟩) 1 1) (w' := W.alloc (.cells (itC x) 43)) ?_ h
  simp [execOp, ho, hp, lit_it x hx W, Result.andThen]
theorem litR_step {E : Prop} (hw : Region.wanted o (yielded ops a.tmps) = true) (x : It) (hx : x.past.length = 16) {p : Operand} (ho : o.op = .buildSlice 25 1 #[(0, p)]) (hp : a.eval p = .agg (itC x))
    (h : Kc (a.put o.dst (.slice (some ⟨W.heap.size, 0, none⟩) 1 1)) (W.alloc (.cells (itC x) 31))) : if Region.wanted o (yielded ops a.tmps) = true then Oper.wp Try.prog o a W Kc Q else E := by
  refine step_run hw (v := .slice (some ⟨W.heap.size, 0, none⟩) 1 1) (w' := W.alloc (.cells (itC x) 31)) ?_ h
  simp [execOp, ho, hp, litR_it x hx W, Result.andThen]
end
end Go.Proofs.Ytkifekjcpnoclaa.Hld
