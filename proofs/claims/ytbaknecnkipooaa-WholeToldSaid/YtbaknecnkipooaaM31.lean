/- Events at a drawn region's step, of blocks with arrays in them. -/
import Derived.Test.YtbaknecnkipooaaM11
import Derived.Test.YtbaknecnkipooaaM25
namespace Go.Proofs.Ytbaknecnkipooaa.Hld
open Go Go.RowKit Go.Proofs.YtbaknecnkipooaaW.PrintWords Go.Proofs.Ytbaknecnkipooaa.Sep Go.Proofs.Ytbaknecnkipooaa.Obj
set_option linter.unusedVariables false
set_option linter.unusedSimpArgs false
section
variable {P : Program} {ops : Array Oper} {o : Oper} {a : Act} {Q : Exit → Act → World → Prop} {Kc : Act → World → Prop} {S : Nat → Prop} {As : List Asr} {w0 W : World}
theorem evS_storeA_step {E : Prop} (HH : OwnS S As w0 W) (i : Nat) (hw : Region.wanted o (yielded ops a.tmps) = true) (hN : o.dst = none) {t : TypeId} {p x : Operand} (ho : o.op = .store t p x) {g j : Nat} {cs : Array Value} {T : TypeId} (hi : As[i]? = some (Sep.blk g cs T)) (hp : a.eval p = .pointer (some ⟨g, j, none⟩))
    (u : Value) (hx : a.eval x = u) (vs : Array Value) (hu : u.cells = vs) (n m : Nat) (hs : vs.size = n) (hc : cs.size = m) (ht : (P.info? t).map (·.size) = some n) (hj : j + n ≤ m) (h1 : ∀ q ∈ vs.toList, q.oneCell' = true) (cs' : Array Value) (hcs : (putL cs.toList j vs.toList).toArray = cs')
    (h : ∀ w', OwnS S (As.set i (Sep.blk g cs' T)) w0 w' → Kc a w') : if Region.wanted o (yielded ops a.tmps) = true then Oper.wp P o a W Kc Q else E := by
  subst hcs
  exact evS_store_step HH i hw hN ho hi hp u hx vs.toList (by rw [hu]) (by rw [ht]; simp [hs]) (by simp [hs, hc]; exact hj) h1 h
end
end Go.Proofs.Ytbaknecnkipooaa.Hld
