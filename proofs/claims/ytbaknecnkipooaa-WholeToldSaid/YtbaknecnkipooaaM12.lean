/- A call that is given some parts; kinds of plain cells; elements of rows; events. -/
import Derived.Test.YtbaknecnkipooaaM10
import Derived.Test.YtbaknecnkipooaaM11
namespace Go.Proofs.Ytbaknecnkipooaa.Tld
open Go Go.RowKit Go.Proofs.YtbaknecnkipooaaW.PrintWords Go.Proofs.Ytbaknecnkipooaa.Sep Go.Proofs.Ytbaknecnkipooaa.Obj
set_option linter.unusedVariables false
set_option linter.unusedSimpArgs false
def flat {α : Type} (sz : Nat) (f : α → List Value) (hl : ∀ x, (f x).length = sz) (h1 : ∀ x, ∀ u ∈ f x, u.oneCell' = true) : Kd α where
  sz := sz
  E := []
  K := fun _ x cs => cs = f x
  M := fun _ _ _ x cs => cs = f x
  K_len := fun h => by rw [h]; exact hl _
  K_one := fun h u hu => h1 _ u (by rw [← h]; exact hu)
  K_below := fun _ h => h
  K_of_M := fun h => h
  M_mono := fun _ h => h
  M_bound := fun h => h
  M_move := fun _ h => h
  M_lower := fun _ h => h
theorem ownS_part {S : Nat → Prop} {As Cs : List Asr} {w0 w : World} (h : OwnS S (As ++ Cs) w0 w) :
    ∃ S' : Nat → Prop, OwnS S' As w w ∧ ∀ Bs w', OwnS S' Bs w w' → OwnS S (Bs ++ Cs) w0 w' := by
  obtain ⟨h0, F, hF⟩ := h
  refine ⟨fun k => Uni S w0 w k ∧ F k < As.length, ⟨Frm.refl _ _, F, fun i A hi => ?_⟩, fun Bs w' ⟨h1, F', hF'⟩ => ⟨Frm.le h0 (Frm.mono h1 (fun k _ hs => hs.1.1)), fun k => if k < w.heap.size ∧ As.length ≤ F k then F k - As.length + Bs.length else F' k, fun i B hi => ?_⟩⟩
  · have hl := (List.getElem?_eq_some_iff.1 hi).1
    refine A.mono (fun k hk => ?_) (hF i A (by rw [List.getElem?_append_left hl]; exact hi))
    exact ⟨⟨.inl ⟨hk.1, by rw [hk.2]; exact hl⟩, hk.1.2⟩, hk.2⟩
  · rcases Nat.lt_or_ge i Bs.length with hl | hl
    · rw [List.getElem?_append_left hl] at hi
      refine B.mono (fun k hk => ?_) (hF' i B hi)
      obtain ⟨⟨hk1, hk2⟩, hk3⟩ := hk
      refine ⟨⟨?_, hk2⟩, ?_⟩
      · rcases hk1 with hk1 | hk1
        · exact hk1.1.1
        · exact .inr (Nat.le_trans h0.size hk1)
      · refine (if_neg ?_).trans hk3
        rcases hk1 with hk1 | hk1
        · have := hk1.2; omega
        · omega
    · rw [List.getElem?_append_right hl] at hi
      refine B.mono (fun k hk => ?_) (B.move (fun k hk hlt => h1.block k hlt (fun hs => by have := hs.2; have := hk.2; omega)) (hF (As.length + (i - Bs.length)) B (by rw [List.getElem?_append_right (by omega)]; rw [Nat.add_sub_cancel_left]; exact hi)))
      refine ⟨⟨hk.1.1, Nat.lt_of_lt_of_le hk.1.2 h1.size⟩, ?_⟩
      exact (if_pos ⟨hk.1.2, by rw [hk.2]; omega⟩).trans (by rw [hk.2]; omega)
theorem ev_loadR {P : Program} {ops : Array Oper} {rest : List Oper} {o : Oper} {a : Act} {Q : Exit → Act → World → Prop} {w : World} {b p0 n : Nat} {vs : List Value} (hr : w.rangeAt b p0 vs) (hgd : o.guard = none) {t : TypeId} {p : Operand} (ho : o.op = .load t p) (hp : a.eval p = .pointer (some ⟨b, p0, none⟩)) {d : TypeDesc} (hu : P.underlying t = some d) (hd : d.isRow = true) (hs : vs.length = n) (hn : (P.info? t).map (·.size) = some n)
    (h : wpList P ops Q rest (a.put o.dst (.agg vs.toArray)) w) : wpList P ops Q (o :: rest) a w :=
  wpList_load_mid hgd t p ho b p0 hp _ d hr hu hd (by rw [hn, hs]) h
theorem ev_loadR_step {P : Program} {ops : Array Oper} {o : Oper} {a : Act} {Q : Exit → Act → World → Prop} {Kc : Act → World → Prop} {E : Prop} {w : World} {b p0 n : Nat} {vs : List Value} (hr : w.rangeAt b p0 vs) (hw : Region.wanted o (yielded ops a.tmps) = true) {t : TypeId} {p : Operand} (ho : o.op = .load t p) (hp : a.eval p = .pointer (some ⟨b, p0, none⟩)) {d : TypeDesc} (hu : P.underlying t = some d) (hd : d.isRow = true) (hs : vs.length = n) (hn : (P.info? t).map (·.size) = some n)
    (h : Kc (a.put o.dst (.agg vs.toArray)) w) : if Region.wanted o (yielded ops a.tmps) = true then Oper.wp P o a w Kc Q else E := by
  rw [if_pos hw]
  exact wp_load_mid t p ho b p0 hp vs d hr hu hd (by rw [hn, hs]) h
theorem tk {P : Program} {md : Region.Mode} {ops : Array Oper} {Q : Exit → Act → World → Prop} {S : World → Prop} {i : Nat} {oi : Oper} {v : Value} {fuel : Nat} {listed : Array Bool} {a : Act} {w : World}
    (hi : ops[i]? = some oi := by simp only [List.getElem?_toArray, List.getElem?_cons_succ, List.getElem?_cons_zero]; rfl)
    (hs : Region.noSelect ops = true := by kernel_rfl) (hf : Region.free md ops listed i = true := by kernel_rfl) (hr : (Region.ready md ops listed).contains i = true := by kernel_rfl)
    (hQ : ∀ c a w, Q (.panic c) (a.put oi.dst v) w → Q (.panic c) a w := by exact fun _ _ _ h => h) (hy : YieldsIf P ops S oi v a) (hS : S w := by assumption)
    (h : wpAnyH P md ops Q S fuel (listed.setIfInBounds i true) (a.put oi.dst v) w) : wpAnyH P md ops Q S (fuel + 1) listed a w := wpAnyH_take hi hs hf hr hQ hy hS h
section
variable {P : Program} {ops : Array Oper} {rest : List Oper} {o : Oper} {a : Act} {Q : Exit → Act → World → Prop} {Kc : Act → World → Prop} {α : Type} {S : Nat → Prop} {As : List Asr} {w0 W : World}
theorem elem_run (d : Kd α) (HH : OwnS S As w0 W) (i : Nat) {g n c e : Nat} {xs : List α} (hi : As[i]? = some (Sep.row d e (.slice (some ⟨g, 0, none⟩) n c) xs)) (k : Nat) (hk : k < n) (y : α) (cy : List Value) (hM : ∀ w T, d.M w 0 T y cy) (hcy : cy.length = d.sz) {t : TypeId} {u : Value} (hu : u.cells.toList = cy) (ht : (P.info? t).map (·.size) = some d.sz) (h1 : ∀ q ∈ cy, q.oneCell' = true) :
    (Instr.storeAt t (.pointer (some ⟨g, k * d.sz, none⟩)) u).run P W = .ok () (W.setCells g (k * d.sz) cy) ∧ OwnS S (As.set i (Sep.row d e (.slice (some ⟨g, 0, none⟩) n c) (xs.set k y))) w0 (W.setCells g (k * d.sz) cy) := by
  obtain ⟨h0, F, hF⟩ := HH
  have HO : d.R e W 0 (Fp S w0 W F i) (.slice (some ⟨g, 0, none⟩) n c) xs := hF i _ hi
  have hn := (Kd.R_reads' HO).1
  have hk' : k < xs.length := by omega
  obtain ⟨ad, cc, ea, hcl, _, hcc⟩ := Kd.C_get (Kd.R_reads' HO).2.2 xs[k] (k : Int) (by omega) (by omega)
  cases ea
  have hM' : d.M W 0 (fun _ => False) y (cc.take 0 ++ cy ++ cc.drop (0 + cy.length)) := by
    rw [List.drop_of_length_le (by rw [hcl, hcy]; omega)]
    simpa using hM W _
  obtain ⟨hrow, hg⟩ := Kd.R_seg HO (i := (k : Int)) (j := 0) (seg := cy) (okp := fun _ => False) (by omega) (by omega) hcl (fun j u hj => by have := hcc j u hj; rw [Addr.add_mid] at this; simpa using this) (by omega) hM' (fun _ hk => hk.elim)
  obtain ⟨_, inner, hown, hr⟩ := HO
  refine ⟨?_, ?_⟩
  · rcases hown.2 with ⟨hv, _⟩ | ⟨g', cap', cur, hv, hb, hh, hnc, hcm, hcs, _⟩
    · cases hv
    injection hv with ha _ hc
    injection ha with ha
    injection ha with hg'
    subst hg'; subst hc
    refine run_store_run t u cy hh hu (by rw [ht, hcy]) ?_ h1
    rw [hcy, hcs, ← Nat.succ_mul]
    exact Nat.mul_le_mul_right _ (by omega)
  · have hrow' : d.R e (W.setCells g (k * d.sz) cy) 0 (Fp S w0 W F i) (.slice (some ⟨g, 0, none⟩) n c) (xs.set k y) := hrow
    have hg' : W.grownBy (W.setCells g (k * d.sz) cy) (some g) := hg
    exact ownS_modF h0 hF i hi _ (Frm.grown hg' (fun q hq => by cases hq; exact (hF i _ hi).1 g (by simp [Value.ownBlock]))) (Kd.R_mono hrow' (fun _ hq => .inl hq))
theorem evS_elem_step {E : Prop} (d : Kd α) (HH : OwnS S As w0 W) (i : Nat) (hw : Region.wanted o (yielded ops a.tmps) = true) (hN : o.dst = none) {t : TypeId} {p x : Operand} (ho : o.op = .store t p x)
    {g n c e : Nat} {xs : List α} (hi : As[i]? = some (Sep.row d e (.slice (some ⟨g, 0, none⟩) n c) xs)) (k : Nat) (hk : k < n) {off : Nat} (hp : a.eval p = .pointer (some ⟨g, off, none⟩)) (hoff : off = k * d.sz) (y : α) (cy : List Value) (hM : ∀ w T, d.M w 0 T y cy) (hcy : cy.length = d.sz) (u : Value) (hx : a.eval x = u) (hu : u.cells.toList = cy) (ht : (P.info? t).map (·.size) = some d.sz) (h1 : ∀ q ∈ cy, q.oneCell' = true)
    (h : ∀ w', OwnS S (As.set i (Sep.row d e (.slice (some ⟨g, 0, none⟩) n c) (xs.set k y))) w0 w' → Kc a w') : if Region.wanted o (yielded ops a.tmps) = true then Oper.wp P o a W Kc Q else E := by
  rw [if_pos hw]
  subst hoff
  obtain ⟨hrun, key⟩ := elem_run (P := P) d HH i hi k hk y cy hM hcy hu ht h1
  unfold Oper.wp execOp
  simp only [ho, hp, hx, Sem.run_bind, Sem.run_pure, Result.andThen_ok, hrun]
  show Kc (a.put o.dst undef) _
  rw [hN]
  exact h _ key
end
end Go.Proofs.Ytbaknecnkipooaa.Tld
