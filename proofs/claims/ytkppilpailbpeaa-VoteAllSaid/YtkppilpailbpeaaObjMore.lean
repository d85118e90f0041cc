/- Literals and append of a read row, over an object's heap. -/
import Derived.Test.YtkppilpailbpeaaObjRow
namespace Go.Proofs.Ytkppilpailbpeaa.Obj
open Go Go.RowKit Go.Proofs.YtkppilpailbpeaaW.PrintWords Go.Proofs.Ytkppilpailbpeaa.Sep
set_option linter.unusedVariables false
set_option linter.unusedSimpArgs false

section
variable {P : Program} {ops : Array Oper} {rest : List Oper} {o : Oper} {a : Act} {Q : Exit → Act → World → Prop} {Kc : Act → World → Prop} {α : Type} {S : Nat → Prop} {As : List Asr} {w0 W : World}
/-- a literal: n elements, of which B is true -/
theorem evS_rows (HH : OwnS S As w0 W) (hgd : o.guard = none) (B : Nat → Asr) {cs : Array Value} {T : TypeId} {n : Nat}
    (hrun : (execOp a.eval o).run P W = .ok (.value (.slice (some ⟨W.heap.size, 0, none⟩) n n)) (W.alloc (.cells cs T (0, 0))))
    (hB : (B W.heap.size).P (W.alloc (.cells cs T (0, 0))) (fun k => W.heap.size ≤ k ∧ k < (W.alloc (.cells cs T (0, 0))).heap.size))
    (h : ∀ g w', g = W.heap.size → OwnS S (As ++ [B g]) w0 w' → wpList P ops Q rest (a.put o.dst (.slice (some ⟨g, 0, none⟩) n n)) w') : wpList P ops Q (o :: rest) a W :=
  Kd.event_run hgd hrun (h _ _ rfl (HH.add (below_alloc (Below.refl _ _) _) hB))
theorem row_lit (d : Kd α) (e : Nat) {W : World} {xs : List α} {inner : List Value} (hr : ∀ W' T, Reps (d.M W' 0 T) d.sz xs inner) (n : Nat) (hn : n = xs.length) (hm : xs.length ≤ 9223372036854775807) :
    (Sep.row d e (.slice (some ⟨W.heap.size, 0, none⟩) n n) xs).P (W.alloc (.cells inner.toArray e)) (fun k => W.heap.size ≤ k ∧ k < (W.alloc (.cells inner.toArray e)).heap.size) := by
  subst hn
  refine ⟨fun k hk => ?_, inner, ?_, hr _ _⟩
  · have : W.heap.size = k := by simpa [Value.ownBlock] using hk
    subst this
    exact ⟨Nat.le_refl _, by simp⟩
  · have := World.ownsRow_lit (base := 0) (e := e) (size := d.sz) W inner.toArray xs.length (Nat.zero_le _) (by simpa [maxLen] using hm) (by simpa using (hr W (fun _ => True)).1)
    simpa using this
/-- append(row i, l...), what is read having no rows of its own -/
theorem evS_append_rows (d : Kd α) {Rr : α → List Value → Prop} (HH : OwnS S As w0 W) (i : Nat) (hgd : o.guard = none) (s x : Operand) (t e : TypeId) (z : Value) (bytes : Nat)
    (ho : o.op = .call { callee := .builtin .append, args := #[s, x], argTypes := #[t, t] })
    (ht : P.underlying t = some (.slice e)) (hinfo : (P.info? e).map (fun i => (i.zero, i.size, i.bytes)) = some (some z, d.sz, bytes)) (hz : z.cells.size = d.sz) (hs0 : 0 < d.sz) (hb0 : 0 < bytes)
    (v : Value) (xs ys : List α) (A : Option Addr) (m c : Nat) (hi : As[i]? = some (Sep.row d e v xs)) (hs : a.eval s = v) (hx : a.eval x = .slice A m c) (HR : ReadsRow Rr d.sz W A m ys) (hKM : ∀ S x cs, Rr x cs → d.M W 0 S x cs) (hl : (xs.length + m) * bytes ≤ 140737488355328)
    (h : ∀ A c w1, OwnS S (As.set i (Sep.row d e (.slice A (xs ++ ys).length c) (xs ++ ys))) w0 w1 → wpList P ops Q rest (a.put o.dst (.slice A (xs ++ ys).length c)) w1) : wpList P ops Q (o :: rest) a W := by
  obtain ⟨h0, F, hF⟩ := HH
  have hQ : d.R e W 0 (Fp S w0 W F i) v xs := hF i _ hi
  refine Kd.R_append_rows d (w0 := W) 0 hgd s x t e z bytes ho ht hinfo hz hs0 hb0 v xs ys A m c (fun k => Fp S w0 W F i k ∨ W.heap.size ≤ k) (fun _ => False) hs hx (Kd.R_mono hQ (fun _ hk => .inl hk)) HR (fun x cs hr => hKM _ x cs hr) (fun _ hk => hk.elim) (fun k hk => .inr hk) (Below.refl 0 W) (Nat.zero_le _) hl ?_
  intro v1 w1 hr hb hg hat
  obtain ⟨A, c, rfl⟩ := Kd.R_slice hr
  exact h A c w1 (ownS_modF h0 hF i hi _ (Frm.grown hg (fun k hk => hQ.1 k hk)) (bound_new hr))
/-- as evS_append_rows, in a region that draws -/
theorem evS_append_rows_step (d : Kd α) {Rr : α → List Value → Prop} (HH : OwnS S As w0 W) (i : Nat) (hw : Region.wanted o (yielded ops a.tmps) = true) (s x : Operand) (t e : TypeId) (z : Value) (bytes : Nat)
    (ho : o.op = .call { callee := .builtin .append, args := #[s, x], argTypes := #[t, t] })
    (ht : P.underlying t = some (.slice e)) (hinfo : (P.info? e).map (fun i => (i.zero, i.size, i.bytes)) = some (some z, d.sz, bytes)) (hz : z.cells.size = d.sz) (hs0 : 0 < d.sz) (hb0 : 0 < bytes)
    (v : Value) (xs ys : List α) (A : Option Addr) (m c : Nat) (hi : As[i]? = some (Sep.row d e v xs)) (hs : a.eval s = v) (hx : a.eval x = .slice A m c) (HR : ReadsRow Rr d.sz W A m ys) (hKM : ∀ S x cs, Rr x cs → d.M W 0 S x cs) (hl : (xs.length + m) * bytes ≤ 140737488355328)
    {E : Prop} (h : ∀ A c w1, OwnS S (As.set i (Sep.row d e (.slice A (xs ++ ys).length c) (xs ++ ys))) w0 w1 → Kc (a.put o.dst (.slice A (xs ++ ys).length c)) w1) :
    if Region.wanted o (yielded ops a.tmps) = true then Oper.wp P o a W Kc Q else Kc (a.put o.dst undef) W := by
  obtain ⟨h0, F, hF⟩ := HH
  have hQ : d.R e W 0 (Fp S w0 W F i) v xs := hF i _ hi
  refine Kd.R_append_rows_step d (w0 := W) 0 hw s x t e z bytes ho ht hinfo hz hs0 hb0 v xs ys A m c (fun k => Fp S w0 W F i k ∨ W.heap.size ≤ k) (fun _ => False) hs hx (Kd.R_mono hQ (fun _ hk => .inl hk)) HR (fun x cs hr => hKM _ x cs hr) (fun _ hk => hk.elim) (fun k hk => .inr hk) (Below.refl 0 W) (Nat.zero_le _) hl ?_
  intro v1 w1 hr hb hg hat
  obtain ⟨A, c, rfl⟩ := Kd.R_slice hr
  exact h A c w1 (ownS_modF h0 hF i hi _ (Frm.grown hg (fun k hk => hQ.1 k hk)) (bound_new hr))
end
/-- two parts as an object of their own -/
theorem ownS_meth2 {P : Program} {S : Nat → Prop} {As : List Asr} {w0 W : World} {f : FuncId} {args : Array Value} {R : Ending → World → Prop} (h : OwnS S As w0 W) (i j : Nat) (hij : i ≠ j) {A B : Asr} (hi : As[i]? = some A) (hj : As[j]? = some B)
    (k : ∀ T : Nat → Prop, OwnS T [A, B] W W → (∀ q, T q → Uni S w0 W q) → (∀ A' B' w', OwnS T [A', B'] W w' → OwnS S ((As.set i A').set j B') w0 w') → Calls P f args W R) : Calls P f args W R := by
  obtain ⟨h0, F, hF⟩ := h
  have hli := (List.getElem?_eq_some_iff.1 hi).1
  have hlj := (List.getElem?_eq_some_iff.1 hj).1
  refine k (fun q => Fp S w0 W F i q ∨ Fp S w0 W F j q) ⟨Frm.refl _ _, fun q => if F q = i then 0 else 1, fun q C hq => ?_⟩ (fun q hq => hq.elim (fun e => e.1) (fun e => e.1)) ?_
  · match q, hq with
    | 0, hq =>
      obtain rfl := Option.some.inj hq
      exact A.mono (fun q hq => ⟨⟨.inl (.inl hq), hq.1.2⟩, if_pos hq.2⟩) (hF i A hi)
    | 1, hq =>
      obtain rfl := Option.some.inj hq
      exact B.mono (fun q hq => ⟨⟨.inl (.inr hq), hq.1.2⟩, if_neg (by rw [hq.2]; exact fun e => hij e.symm)⟩) (hF j B hj)
  · rintro A' B' w' ⟨h1, G, hG⟩
    refine ⟨Frm.le h0 (Frm.mono h1 (fun q _ hq => hq.elim (fun e => e.1.1) (fun e => e.1.1))), fun q => if q < W.heap.size ∧ F q ≠ i ∧ F q ≠ j then F q else (if G q = 0 then i else if G q = 1 then j else As.length), fun q C hq => ?_⟩
    have key : ∀ q, Uni (fun q => Fp S w0 W F i q ∨ Fp S w0 W F j q) W w' q → Uni S w0 w' q ∧ ¬ (q < W.heap.size ∧ F q ≠ i ∧ F q ≠ j) := fun q hq => by
      refine ⟨⟨?_, hq.2⟩, fun hh => ?_⟩
      · rcases hq.1 with h2 | h2
        · exact h2.elim (fun e => e.1.1) (fun e => e.1.1)
        · exact .inr (Nat.le_trans h0.size h2)
      · rcases hq.1 with h2 | h2
        · exact h2.elim (fun e => hh.2.1 e.2) (fun e => hh.2.2 e.2)
        · omega
    by_cases ej : q = j
    · subst ej
      rw [List.getElem?_set_self (by simpa using hlj)] at hq
      obtain rfl := Option.some.inj hq
      exact B'.mono (fun q hq => ⟨(key q hq.1).1, (if_neg (key q hq.1).2).trans ((if_neg (by rw [hq.2]; decide)).trans (if_pos hq.2))⟩) (hG 1 B' rfl)
    · rw [List.getElem?_set_ne (fun e' => ej e'.symm)] at hq
      by_cases e : q = i
      · subst e
        rw [List.getElem?_set_self hli] at hq
        obtain rfl := Option.some.inj hq
        exact A'.mono (fun q hq => ⟨(key q hq.1).1, (if_neg (key q hq.1).2).trans (if_pos hq.2)⟩) (hG 0 A' rfl)
      · rw [List.getElem?_set_ne (fun e' => e e'.symm)] at hq
        refine C.mono (fun k hk => ?_) (C.move (fun k hk hl => h1.block k hl (fun hk' => hk'.elim (fun h2 => e (hk.2.symm.trans h2.2)) (fun h2 => ej (hk.2.symm.trans h2.2)))) (hF q C hq))
        exact ⟨⟨hk.1.1, Nat.lt_of_lt_of_le hk.1.2 h1.size⟩, (if_pos ⟨hk.1.2, by rw [hk.2]; exact e, by rw [hk.2]; exact ej⟩).trans hk.2⟩
/-- cells of blocks that are owned -/
def factsA (l : List (Addr × Value)) : Asr where
  P := fun w S => ∀ q ∈ l, S q.1.block ∧ q.1.block < w.heap.size ∧ w.cell? q.1 = some q.2
  mono := fun h a q hq => ⟨h _ (a q hq).1, (a q hq).2⟩
  move := fun {w w' S} h a q hq => by
    obtain ⟨h1, h2, h3⟩ := a q hq
    have hb := h _ h1 h2
    exact ⟨h1, (Array.getElem?_eq_some_iff.1 (hb.trans (Array.getElem?_eq_getElem h2))).1, (World.cell?_of_block (w := w) hb).trans h3⟩
theorem OwnS.facts {S : Nat → Prop} {As : List Asr} {w0 w : World} (h : OwnS S As w0 w) (i : Nat) {A : Asr} {l : List (Addr × Value)} (hi : As[i]? = some (both A (factsA l))) (q : Addr × Value) (hq : q ∈ l) : w.cell? q.1 = some q.2 := ((h.get i hi).2 q hq).2.2
theorem OwnS.withFacts {α : Type} {S : Nat → Prop} {As : List Asr} {w0 w : World} (h : OwnS S As w0 w) (i : Nat) {d : Kd α} {e : Nat} {ad : Addr} {n c : Nat} {xs : List α} (hi : As[i]? = some (Sep.row d e (.slice (some ad) n c) xs)) (l : List (Addr × Value)) (hb : ∀ q ∈ l, q.1.block = ad.block ∧ w.cell? q.1 = some q.2) :
    OwnS S (As.set i (both (Sep.row d e (.slice (some ad) n c) xs) (factsA l))) w0 w :=
  h.weak i hi (fun T hp => ⟨hp, fun q hq => by
    obtain ⟨h1, h2⟩ := hb q hq
    refine ⟨hp.1 _ ?_, World.block_lt_of_cell? w _ h2, h2⟩
    rw [h1]; rfl⟩)
theorem OwnS.fst {S : Nat → Prop} {As : List Asr} {w0 w : World} (h : OwnS S As w0 w) (i : Nat) {A B : Asr} (hi : As[i]? = some (both A B)) : OwnS S (As.set i A) w0 w := h.weak i hi (fun _ hp => hp.1)
end Go.Proofs.Ytkppilpailbpeaa.Obj
