/- What the reference's tell leaves, as plain data; events of its rows. -/
import Derived.Test.YtkifekjcpnoclaaHldRef
namespace Go.Proofs.Ytkifekjcpnoclaa.Hld
open Go Go.RowKit Go.Proofs.YtkifekjcpnoclaaW.PrintWords Go.Proofs.Ytkifekjcpnoclaa.Sep Go.Proofs.Ytkifekjcpnoclaa.Obj
set_option linter.unusedVariables false
set_option linter.unusedSimpArgs false
def notI (x y : It) : Bool := !eqI y x
theorem same_eq {x y : It} (h : same x y = false) : eqI x y = false := by
  cases e : eqI x y with
  | false => rfl
  | true =>
    have := (eqI_iff x y).1 e
    subst this
    rw [same_iff.2 ⟨rfl, rfl⟩] at h
    cases h
theorem eqI_self (x : It) : eqI x x = true := (eqI_iff x x).2 rfl
theorem filter_no {l : List It} {x : It} (h : isIn l x = false) : l.filter (notI x) = l := by
  rw [List.filter_eq_self]
  intro y hy
  unfold notI
  rw [same_eq (isIn_no.1 h y hy)]
  rfl
theorem filter_at : ∀ {l : List It} (_ : Apart l) (i : Nat) (hi : i < l.length), l.filter (notI l[i]) = l.eraseIdx i
  | a :: r, h, 0, hi => by
    have h2 := List.pairwise_cons.1 h
    simp only [List.getElem_cons_zero, List.eraseIdx_cons_zero]
    rw [List.filter_cons_of_neg (by unfold notI; rw [eqI_self]; simp)]
    rw [List.filter_eq_self]
    intro y hy
    unfold notI
    rw [same_eq (by rw [same_comm]; exact h2.1 y hy)]
    rfl
  | a :: r, h, i + 1, hi => by
    have h2 := List.pairwise_cons.1 h
    have hi' : i < r.length := by simpa using hi
    simp only [List.getElem_cons_succ, List.eraseIdx_cons_succ]
    rw [List.filter_cons_of_pos (by unfold notI; rw [same_eq (h2.1 _ (List.getElem_mem hi'))]; rfl), filter_at h2.2 i hi']
theorem filter_take (p : It → Bool) {l : List It} {i : Nat} (hi : i < l.length) : (l.take (i + 1)).filter p = (l.take i).filter p ++ (if p l[i] then [l[i]] else []) := by
  rw [← List.take_append_getElem hi, List.filter_append]
  congr 1
  by_cases h : p l[i] = true
  · rw [if_pos h, List.filter_cons_of_pos h]; rfl
  · rw [if_neg h, List.filter_cons_of_neg h]; rfl
section
variable {ops : Array Oper} {rest : List Oper} {op : Oper} {a : Act} {W w0 : World} {Q : Exit → Act → World → Prop} {S : Nat → Prop} {As : List Asr}
theorem evS_litR (HH : OwnS S As w0 W) (hgd : op.guard = none) (x : It) (hx : okI x) {p : Operand} (ho : op.op = .buildSlice 25 1 #[(0, p)]) (hp : a.eval p = .agg (itC x))
    (h : ∀ g w', OwnS S (As ++ [Sep.row kIt 31 (.slice (some ⟨g, 0, none⟩) 1 1) [x]]) w0 w' → wpList Try.prog ops Q rest (a.put op.dst (.slice (some ⟨g, 0, none⟩) 1 1)) w') : wpList Try.prog ops Q (op :: rest) a W :=
  litR1 hgd x hx.1.1 ho hp (h _ _ (HH.add (below_alloc (Below.refl _ _) _) (row_lit kIt 31 (xs := [x]) (inner := itL x) (fun W' T => Reps.snoc (ps := []) (cs := []) (Reps.none _ _) (show kIt.M W' 0 T x (itL x) from kIt_M hx) (itC_size x hx.1.1)) 1 rfl (by simp))))
theorem evS_lit0 (HH : OwnS S As w0 W) (hgd : op.guard = none) (ho : op.op = .buildSlice 25 0 #[])
    (h : ∀ g w', OwnS S (As ++ [Sep.row kIt 31 (.slice (some ⟨g, 0, none⟩) 0 0) []]) w0 w' → wpList Try.prog ops Q rest (a.put op.dst (.slice (some ⟨g, 0, none⟩) 0 0)) w') : wpList Try.prog ops Q (op :: rest) a W := by
  refine wpList_plain hgd fun K' hK' => ?_
  have hr : (Instr.buildSlice 25 0 #[]).run Try.prog W = .ok (.slice (some ⟨W.heap.size, 0, none⟩) 0 0) (W.alloc (.cells #[] 31)) := by kernel_rfl
  unfold Oper.wp
  simp only [execOp, ho, Sem.run_bind, List.map_toArray, List.map_nil, hr, Result.andThen_ok, Sem.run_pure]
  exact hK' _ _ (h _ _ (HH.add (below_alloc (Below.refl _ _) _) (row_lit kIt 31 (xs := []) (inner := []) (fun W' T => Reps.none _ _) 0 rfl (by simp))))
end
theorem rowr_n {α : Type} {d : Kd α} {e : Nat} {A : Option Addr} {n c : Nat} {xs : List α} {w0 w : World} (h : Own [Sep.row d e (.slice A n c) xs] w0 w) (A0 : Option Addr) (c0 : Nat) (xs0 : List α) : Own [Sep.rdr A0 c0 xs0 d e A c xs] w0 w := by
  have hn := h.len 0 rfl
  subst hn
  exact h.rowr A0 c0 xs0 0 rfl
theorem OwnS.rd {α : Type} {S : Nat → Prop} {As : List Asr} {b w0 w : World} {A0 : Option Addr} {c0 : Nat} {xs0 : List α} (h : OwnS S As w0 w) {d : Kd α} (hC : d.C b A0 xs0.length xs0) (hb : Below b.heap.size b w) (i : Nat) {e : Nat} {A : Option Addr} {c : Nat} {xs : List α} (hi : As[i]? = some (Sep.rdr A0 c0 xs0 d e A c xs)) : d.C w A xs.length xs := by
  rcases h.get i hi with ⟨rfl, rfl, rfl⟩ | h1
  · exact Kd.C_below hC hb
  · exact (Kd.R_reads' h1).2.2
end Go.Proofs.Ytkifekjcpnoclaa.Hld
