/- Rows that begin at the front of their block, in a heap of assertions over an object: append, delete, clear. Literals and append of a read row, over an object's heap. -/
import Derived.Test.YtbaknecnkipooaaM09
import Derived.Lib.SliceRun
namespace Go.Proofs.Ytbaknecnkipooaa.Obj
open Go Go.RowKit Go.Proofs.YtbaknecnkipooaaW.PrintWords Go.Proofs.Ytbaknecnkipooaa.Sep
set_option linter.unusedVariables false
set_option linter.unusedSimpArgs false
section
variable {P : Program} {α : Type}
theorem zeroCells_len (z : Array Value) (n : Nat) : (Builtin.zeroCells z n).toList.length = n * z.size := by simp [Builtin.zeroCells]
theorem zeroCells_mem (z : Array Value) (n : Nat) (h : ∀ u ∈ z.toList, u.oneCell' = true) : ∀ u ∈ (Builtin.zeroCells z n).toList, u.oneCell' = true := by
  intro u hu
  rcases Nat.eq_zero_or_pos z.size with h0 | h0
  · have := zeroCells_len z n
    rw [h0, Nat.mul_zero] at this
    rw [List.eq_nil_of_length_eq_zero this] at hu
    simp at hu
  · simp only [Builtin.zeroCells, Array.toList_map, List.mem_map] at hu
    obtain ⟨i, _, rfl⟩ := hu
    have hm : i % z.size < z.size := Nat.mod_lt _ h0
    rw [getElem!_pos z _ hm]
    exact h _ (by simp)
theorem R_clear_run (d : Kd α) {W : World} (t ty e : TypeId) (z : Value) (ht : P.underlying t = some (.slice e)) (hv : ∀ w, (zeroValue e).run P w = .ok z w) (hz : z.cells.size = d.sz) (hz1 : ∀ u ∈ z.cells.toList, u.oneCell' = true)
    {g n c q c2 : Nat} {xs : List α} {ok : Nat → Prop} (HO : d.R e W 0 ok (.slice (some ⟨g, 0, none⟩) n c) xs) (hq : n + q ≤ c) (hq0 : 0 < q) :
    ∃ w1, (Builtin.clear_ #[t] ty #[.slice (some ⟨g, n * d.sz, none⟩) q c2]).run P W = .ok (.tuple #[]) w1 ∧ d.R e w1 0 ok (.slice (some ⟨g, 0, none⟩) n c) xs ∧ W.grownBy w1 (some g) := by
  obtain ⟨hn, hnc, _⟩ := Kd.R_reads' HO
  obtain ⟨hok, inner, hown, hr⟩ := HO
  have hin : inner.length = n * d.sz := by rw [hr.1, hn]
  rcases hown.2 with ⟨hv', _⟩ | ⟨g', cap', cur, hv', hb, hh, _, hcm, hcs, htake⟩
  · cases hv'
  injection hv' with ha _ hc
  injection ha with ha
  injection ha with hg
  subst hg; subst hc
  rw [← hn] at htake
  obtain ⟨news, hnews⟩ : ∃ news, news = (Builtin.zeroCells z.cells q).toList := ⟨_, rfl⟩
  have hnl : news.length = q * d.sz := by rw [hnews, zeroCells_len, hz]
  have hone : ∀ u ∈ news, u.oneCell' = true := by rw [hnews]; exact zeroCells_mem _ _ hz1
  have hfit : n * d.sz + news.length ≤ cur.size := by
    rw [hnl, hcs, ← Nat.add_mul]
    exact Nat.mul_le_mul_right _ hq
  have hst := run_storeCells_cells (P := P) g (n * d.sz) news 0 W (fun j hj => by rw [Nat.add_zero, cell_of_row W g _ cur e (0, 0) hh]; simp; omega) (fun j _ => blk_frozen hh _) hone
  simp only [Nat.add_zero] at hst
  obtain ⟨cur', h3, h4, h5⟩ := setCells_row news (n * d.sz) W cur hh hfit
  obtain ⟨s1, s2, s3, s4⟩ := setCells_same g news (n * d.sz) W
  have hfar : ∀ k', k' ≠ g → (W.setCells g (n * d.sz) news).heap[k']? = W.heap[k']? := fun k' hk' => setCells_far news _ k' hk'
  have hgo : some g = (Value.slice (some ⟨g, 0, none⟩) n c).ownBlock := by simp [Value.ownBlock]
  refine ⟨_, ?_, ⟨hok, inner, ⟨by rw [hin, hn], .inr ⟨g, c, cur', by rw [hn], hb, h3, by omega, hcm, by rw [h4, hcs], ?_⟩⟩, hr.imp_ (fun p cs hp => d.M_move (fun k' hk' => hfar k' (fun he => hk'.2 (by rw [← hgo, he]))) hp)⟩, ⟨s1, s2, s3, by rw [s4]; exact Nat.le_refl _, fun k' _ hk' => hfar k' (fun he => hk' (by rw [he]))⟩⟩
  · obtain ⟨m, rfl⟩ : ∃ m, q = m + 1 := ⟨q - 1, by omega⟩
    simp [Builtin.clear_, run_underlying ht, hv, ← hnews, hst]
  · rw [← hn, h5, ← htake, List.take_append_of_le_length (by rw [List.length_append, List.length_take, Array.length_toList]; omega), List.take_append_of_le_length (by rw [List.length_take, Array.length_toList]; omega), List.take_take, Nat.min_self]
end
theorem OwnS.setC {S : Nat → Prop} {As : List Asr} {w0 w : World} (h : OwnS S As w0 w) (i : Nat) {g : Nat} {cs : Array Value} {T : TypeId} (hi : As[i]? = some (Sep.blk g cs T)) (j : Nat) (v : Value) : OwnS S (As.set i (Sep.blk g (cs.setIfInBounds j v) T)) w0 (w.setCell ⟨g, j, none⟩ v) :=
  h.put i hi _ (blk_set (h.blk i hi) j v) (Frm.set w g j v)
section
variable {P : Program} {ops : Array Oper} {rest : List Oper} {o : Oper} {a : Act} {Q : Exit → Act → World → Prop} {Kc : Act → World → Prop} {α : Type} {S : Nat → Prop} {As : List Asr} {w0 W : World}
theorem evS_delete_step (d : Kd α) (HH : OwnS S As w0 W) (i : Nat) (hw : Region.wanted o (yielded ops a.tmps) = true) (s x : Operand) (t e : TypeId) (ho : o.op = .call { callee := .builtin .append, args := #[s, x], argTypes := #[t, t] })
    (ht : P.underlying t = some (.slice e)) (hinfo : (P.info? e).map (·.size) = some d.sz) {g n c k m c2 : Nat} {A : Option Addr} {xs : List α} (hi : As[i]? = some (Sep.row d e (.slice (some ⟨g, 0, none⟩) n c) xs))
    (hs : a.eval s = .slice (some ⟨g, 0, none⟩) k c) (hx : a.eval x = .slice A m c2) (hA : A = if c = k + 1 then some ⟨g, 0, none⟩ else (some (⟨g, 0, none⟩ : Addr)).map (·.add ((k + 1) * d.sz))) (hm : m = n - (k + 1)) (hk : k < n)
    (h : ∀ w1, OwnS S (As.set i (Sep.row d e (.slice (some ⟨g, 0, none⟩) (n - 1) c) (xs.eraseIdx k))) w0 w1 → Kc (a.put o.dst (.slice (some ⟨g, 0, none⟩) (n - 1) c)) w1) :
    if Region.wanted o (yielded ops a.tmps) = true then Oper.wp P o a W Kc Q else Kc (a.put o.dst undef) W := by
  obtain ⟨h0, F, hF⟩ := HH
  have hR : d.R e W 0 (Fp S w0 W F i) (.slice (some ⟨g, 0, none⟩) n c) xs := hF i _ hi
  refine Kd.R_delete_step d (w0 := W) 0 hw s x t e ho ht hinfo hs hx hA hm hR hk (Below.refl 0 W) (Nat.zero_le _) ?_
  intro w1 hr hb hg
  exact h w1 (ownS_modF h0 hF i hi _ (Frm.grown hg (fun k hk => by injection hk with hk; subst hk; exact hR.1 g (by simp [Value.ownBlock]))) (Kd.R_mono hr (fun _ hk => .inl hk)))
theorem evS_clear (d : Kd α) (HH : OwnS S As w0 W) (i : Nat) (hgd : o.guard = none) (hN : o.dst = none) (s : Operand) (t e : TypeId) (ho : o.op = .call { callee := .builtin .clear, args := #[s], argTypes := #[t] }) (z : Value)
    (ht : P.underlying t = some (.slice e)) (hv : ∀ w, (zeroValue e).run P w = .ok z w) (hz : z.cells.size = d.sz) (hz1 : ∀ u ∈ z.cells.toList, u.oneCell' = true)
    {g n c q c2 : Nat} {xs : List α} (hi : As[i]? = some (Sep.row d e (.slice (some ⟨g, 0, none⟩) n c) xs)) (hs : a.eval s = .slice (some ⟨g, n * d.sz, none⟩) q c2) (hq : n + q ≤ c) (hq0 : 0 < q)
    (h : ∀ w1, OwnS S (As.set i (Sep.row d e (.slice (some ⟨g, 0, none⟩) n c) xs)) w0 w1 → wpList P ops Q rest a w1) : wpList P ops Q (o :: rest) a W := by
  obtain ⟨h0, F, hF⟩ := HH
  have hR : d.R e W 0 (Fp S w0 W F i) (.slice (some ⟨g, 0, none⟩) n c) xs := hF i _ hi
  obtain ⟨w1, hr, h1, hg⟩ := R_clear_run (P := P) d t o.type e z ht hv hz hz1 (c2 := c2) hR hq hq0
  have key : OwnS S (As.set i (Sep.row d e (.slice (some ⟨g, 0, none⟩) n c) xs)) w0 w1 := ownS_modF h0 hF i hi _ (Frm.grown hg (fun k hk => by injection hk with hk; subst hk; exact hR.1 g (by simp [Value.ownBlock]))) (Kd.R_mono h1 (fun _ hk => .inl hk))
  refine wpList_plain hgd fun K hK => ?_
  unfold Oper.wp
  simp only [execOp, ho, resolve, invoke, builtin, Sem.run_bind, Sem.run_pure, Result.andThen_ok, List.map_toArray, List.map_cons, List.map_nil, hs, hr]
  have e : a.put o.dst (Value.tuple #[]) = a := by rw [hN]; rfl
  exact hK _ _ (by rw [e]; exact h w1 key)
theorem evS_store_step {E : Prop} (HH : OwnS S As w0 W) (i : Nat) (hw : Region.wanted o (yielded ops a.tmps) = true) (hN : o.dst = none) {t : TypeId} {p x : Operand} (ho : o.op = .store t p x) {g j : Nat} {cs : Array Value} {T : TypeId} (hi : As[i]? = some (Sep.blk g cs T)) (hp : a.eval p = .pointer (some ⟨g, j, none⟩))
    (u : Value) (hx : a.eval x = u) (vs : List Value) (hu : u.cells.toList = vs) (ht : (P.info? t).map (·.size) = some vs.length) (hj : j + vs.length ≤ cs.size) (h1 : ∀ q ∈ vs, q.oneCell' = true)
    (h : ∀ w', OwnS S (As.set i (Sep.blk g (putL cs.toList j vs).toArray T)) w0 w' → Kc a w') : if Region.wanted o (yielded ops a.tmps) = true then Oper.wp P o a W Kc Q else E := by
  rw [if_pos hw]
  have hrun : (Instr.storeAt t (.pointer (some ⟨g, j, none⟩)) u).run P W = .ok () (W.setCells g j vs) :=
    run_store_run t u vs (HH.blk i hi) hu ht hj h1
  unfold Oper.wp execOp
  simp only [ho, hp, hx, Sem.run_bind, Sem.run_pure, Result.andThen_ok, hrun]
  show Kc (a.put o.dst undef) _
  rw [hN]
  have := HH.puts i hi j vs
  rw [putA_eq vs cs j hj] at this
  exact h _ this
theorem evS_appendR (d : Kd α) (HH : OwnS S As w0 W) (i : Nat) (hgd : o.guard = none) (s x : Operand) (t e : TypeId) (z : Value) (bytes : Nat)
    (ho : o.op = .call { callee := .builtin .append, args := #[s, x], argTypes := #[t, t] })
    (ht : P.underlying t = some (.slice e)) (hinfo : (P.info? e).map (fun i => (i.zero, i.size, i.bytes)) = some (some z, d.sz, bytes)) (hz : z.cells.size = d.sz) (hs0 : 0 < d.sz) (hb0 : 0 < bytes)
    (v : Value) (xs : List α) (p : α) (cs : List Value) (hi : As[i]? = some (Sep.row d e v xs)) (hs : a.eval s = v) (hx : a.eval x = .slice (some ⟨W.heap.size, 0, none⟩) 1 1) (hp : ∀ T, d.M W 0 T p cs) (hl : (xs.length + 1) * bytes ≤ 140737488355328)
    (h : ∀ A c w1, OwnS S (As.set i (Sep.row d e (.slice A (xs.length + 1) c) (xs ++ [p]))) w0 w1 → wpList P ops Q rest (a.put o.dst (.slice A (xs.length + 1) c)) w1) : wpList P ops Q (o :: rest) a (W.alloc (.cells cs.toArray e)) := by
  obtain ⟨h0, F, hF⟩ := HH
  have hQ : d.R e W 0 (Fp S w0 W F i) v xs := hF i _ hi
  refine Kd.R_append d (w0 := W) 0 hgd s x t e z bytes ho ht hinfo hz hs0 hb0 v xs p cs (fun k => Fp S w0 W F i k ∨ W.heap.size ≤ k) (fun _ => False) hs hx (hp _) (fun _ hk => hk.elim) (fun k hk => .inr hk) (Kd.R_mono hQ (fun _ hk => .inl hk)) (Below.refl 0 W) (Nat.zero_le _) hl ?_
  intro v1 w1 hr hb hg hat
  obtain ⟨A, c, rfl⟩ := Kd.R_slice hr
  rw [List.length_append] at hr ⊢
  exact h A c w1 (ownS_modF h0 hF i hi _ (Frm.grown hg (fun k hk => hQ.1 k hk)) (bound_new hr))
theorem evS_appendR_step (d : Kd α) (HH : OwnS S As w0 W) (i : Nat) (hw : Region.wanted o (yielded ops a.tmps) = true) (s x : Operand) (t e : TypeId) (z : Value) (bytes : Nat)
    (ho : o.op = .call { callee := .builtin .append, args := #[s, x], argTypes := #[t, t] })
    (ht : P.underlying t = some (.slice e)) (hinfo : (P.info? e).map (fun i => (i.zero, i.size, i.bytes)) = some (some z, d.sz, bytes)) (hz : z.cells.size = d.sz) (hs0 : 0 < d.sz) (hb0 : 0 < bytes)
    (v : Value) (xs : List α) (p : α) (cs : List Value) (hi : As[i]? = some (Sep.row d e v xs)) (hs : a.eval s = v) (hx : a.eval x = .slice (some ⟨W.heap.size, 0, none⟩) 1 1) (hp : ∀ T, d.M W 0 T p cs) (hl : (xs.length + 1) * bytes ≤ 140737488355328)
    (h : ∀ A c w1, OwnS S (As.set i (Sep.row d e (.slice A (xs.length + 1) c) (xs ++ [p]))) w0 w1 → Kc (a.put o.dst (.slice A (xs.length + 1) c)) w1) :
    if Region.wanted o (yielded ops a.tmps) = true then Oper.wp P o a (W.alloc (.cells cs.toArray e)) Kc Q else Kc (a.put o.dst undef) (W.alloc (.cells cs.toArray e)) := by
  obtain ⟨h0, F, hF⟩ := HH
  have hQ : d.R e W 0 (Fp S w0 W F i) v xs := hF i _ hi
  refine Kd.R_append_step d (w0 := W) 0 hw s x t e z bytes ho ht hinfo hz hs0 hb0 v xs p cs (fun k => Fp S w0 W F i k ∨ W.heap.size ≤ k) (fun _ => False) hs hx (hp _) (fun _ hk => hk.elim) (fun k hk => .inr hk) (Kd.R_mono hQ (fun _ hk => .inl hk)) (Below.refl 0 W) (Nat.zero_le _) hl ?_
  intro v1 w1 hr hb hg hat
  obtain ⟨A, c, rfl⟩ := Kd.R_slice hr
  rw [List.length_append] at hr ⊢
  exact h A c w1 (ownS_modF h0 hF i hi _ (Frm.grown hg (fun k hk => hQ.1 k hk)) (bound_new hr))
end
end Go.Proofs.Ytbaknecnkipooaa.Obj
namespace Go.Proofs.Ytbaknecnkipooaa.Obj
open Go Go.RowKit Go.Proofs.YtbaknecnkipooaaW.PrintWords Go.Proofs.Ytbaknecnkipooaa.Sep
set_option linter.unusedVariables false
set_option linter.unusedSimpArgs false
section
variable {P : Program} {ops : Array Oper} {rest : List Oper} {o : Oper} {a : Act} {Q : Exit → Act → World → Prop} {Kc : Act → World → Prop} {α : Type} {S : Nat → Prop} {As : List Asr} {w0 W : World}
theorem evS_rows (HH : OwnS S As w0 W) (hgd : o.guard = none) (B : Nat → Asr) {cs : Array Value} {T : TypeId} {n : Nat}
    (hrun : (execOp a.eval o).run P W = .ok (.value (.slice (some ⟨W.heap.size, 0, none⟩) n n)) (W.alloc (.cells cs T (0, 0))))
    (hB : (B W.heap.size).P (W.alloc (.cells cs T (0, 0))) (fun k => W.heap.size ≤ k ∧ k < (W.alloc (.cells cs T (0, 0))).heap.size))
    (h : ∀ g w', g = W.heap.size → OwnS S (As ++ [B g]) w0 w' → wpList P ops Q rest (a.put o.dst (.slice (some ⟨g, 0, none⟩) n n)) w') : wpList P ops Q (o :: rest) a W :=
  Kd.event_run hgd hrun (h _ _ rfl (HH.add (below_alloc (Below.refl _ _) _) hB))
theorem row_lit (d : Kd α) (e : Nat) {W : World} {xs : List α} {inner : List Value} (hr : ∀ W' T, Reps (d.M W' 0 T) d.sz xs inner) (n : Nat) (hn : n = xs.length) (hm : xs.length ≤ 9223372036854775807) :
    (Sep.row d e (.slice (some ⟨W.heap.size, 0, none⟩) n n) xs).P (W.alloc (.cells inner.toArray e)) (fun k => W.heap.size ≤ k ∧ k < (W.alloc (.cells inner.toArray e)).heap.size) := by
  subst hn
  refine ⟨fun k hk => ?_, inner, ?_, hr _ _⟩
  · have : W.heap.size = k := by simpa [Value.ownBlock] using hk
    subst this
    exact ⟨Nat.le_refl _, by simp⟩
  · have := World.ownsRow_lit (base := 0) (e := e) (size := d.sz) W inner.toArray xs.length (Nat.zero_le _) (by simpa [maxLen] using hm) (by simpa using (hr W (fun _ => True)).1)
    simpa using this
theorem evS_append_rows (d : Kd α) {Rr : α → List Value → Prop} (HH : OwnS S As w0 W) (i : Nat) (hgd : o.guard = none) (s x : Operand) (t e : TypeId) (z : Value) (bytes : Nat)
    (ho : o.op = .call { callee := .builtin .append, args := #[s, x], argTypes := #[t, t] })
    (ht : P.underlying t = some (.slice e)) (hinfo : (P.info? e).map (fun i => (i.zero, i.size, i.bytes)) = some (some z, d.sz, bytes)) (hz : z.cells.size = d.sz) (hs0 : 0 < d.sz) (hb0 : 0 < bytes)
    (v : Value) (xs ys : List α) (A : Option Addr) (m c : Nat) (hi : As[i]? = some (Sep.row d e v xs)) (hs : a.eval s = v) (hx : a.eval x = .slice A m c) (HR : ReadsRow Rr d.sz W A m ys) (hKM : ∀ S x cs, Rr x cs → d.M W 0 S x cs) (hl : (xs.length + m) * bytes ≤ 140737488355328)
    (h : ∀ A c w1, OwnS S (As.set i (Sep.row d e (.slice A (xs ++ ys).length c) (xs ++ ys))) w0 w1 → wpList P ops Q rest (a.put o.dst (.slice A (xs ++ ys).length c)) w1) : wpList P ops Q (o :: rest) a W := by
  obtain ⟨h0, F, hF⟩ := HH
  have hQ : d.R e W 0 (Fp S w0 W F i) v xs := hF i _ hi
  refine Kd.R_append_rows d (w0 := W) 0 hgd s x t e z bytes ho ht hinfo hz hs0 hb0 v xs ys A m c (fun k => Fp S w0 W F i k ∨ W.heap.size ≤ k) (fun _ => False) hs hx (Kd.R_mono hQ (fun _ hk => .inl hk)) HR (fun x cs hr => hKM _ x cs hr) (fun _ hk => hk.elim) (fun k hk => .inr hk) (Below.refl 0 W) (Nat.zero_le _) hl ?_
  intro v1 w1 hr hb hg hat
  obtain ⟨A, c, rfl⟩ := Kd.R_slice hr
  exact h A c w1 (ownS_modF h0 hF i hi _ (Frm.grown hg (fun k hk => hQ.1 k hk)) (bound_new hr))
end
theorem ownS_meth2 {P : Program} {S : Nat → Prop} {As : List Asr} {w0 W : World} {f : FuncId} {args : Array Value} {R : Ending → World → Prop} (h : OwnS S As w0 W) (i j : Nat) (hij : i ≠ j) {A B : Asr} (hi : As[i]? = some A) (hj : As[j]? = some B)
    (k : ∀ T : Nat → Prop, OwnS T [A, B] W W → (∀ q, T q → Uni S w0 W q) → (∀ A' B' w', OwnS T [A', B'] W w' → OwnS S ((As.set i A').set j B') w0 w') → Calls P f args W R) : Calls P f args W R := by
  obtain ⟨h0, F, hF⟩ := h
  have hli := (List.getElem?_eq_some_iff.1 hi).1
  have hlj := (List.getElem?_eq_some_iff.1 hj).1
  refine k (fun q => Fp S w0 W F i q ∨ Fp S w0 W F j q) ⟨Frm.refl _ _, fun q => if F q = i then 0 else 1, fun q C hq => ?_⟩ (fun q hq => hq.elim (fun e => e.1) (fun e => e.1)) ?_
  · match q, hq with
    | 0, hq =>
      obtain rfl := Option.some.inj hq
      exact A.mono (fun q hq => ⟨⟨.inl (.inl hq), hq.1.2⟩, if_pos hq.2⟩) (hF i A hi)
    | 1, hq =>
      obtain rfl := Option.some.inj hq
      exact B.mono (fun q hq => ⟨⟨.inl (.inr hq), hq.1.2⟩, if_neg (by rw [hq.2]; exact fun e => hij e.symm)⟩) (hF j B hj)
  · rintro A' B' w' ⟨h1, G, hG⟩
    refine ⟨Frm.le h0 (Frm.mono h1 (fun q _ hq => hq.elim (fun e => e.1.1) (fun e => e.1.1))), fun q => if q < W.heap.size ∧ F q ≠ i ∧ F q ≠ j then F q else (if G q = 0 then i else if G q = 1 then j else As.length), fun q C hq => ?_⟩
    have key : ∀ q, Uni (fun q => Fp S w0 W F i q ∨ Fp S w0 W F j q) W w' q → Uni S w0 w' q ∧ ¬ (q < W.heap.size ∧ F q ≠ i ∧ F q ≠ j) := fun q hq => by
      refine ⟨⟨?_, hq.2⟩, fun hh => ?_⟩
      · rcases hq.1 with h2 | h2
        · exact h2.elim (fun e => e.1.1) (fun e => e.1.1)
        · exact .inr (Nat.le_trans h0.size h2)
      · rcases hq.1 with h2 | h2
        · exact h2.elim (fun e => hh.2.1 e.2) (fun e => hh.2.2 e.2)
        · omega
    by_cases ej : q = j
    · subst ej
      rw [List.getElem?_set_self (by simpa using hlj)] at hq
      obtain rfl := Option.some.inj hq
      exact B'.mono (fun q hq => ⟨(key q hq.1).1, (if_neg (key q hq.1).2).trans ((if_neg (by rw [hq.2]; decide)).trans (if_pos hq.2))⟩) (hG 1 B' rfl)
    · rw [List.getElem?_set_ne (fun e' => ej e'.symm)] at hq
      by_cases e : q = i
      · subst e
        rw [List.getElem?_set_self hli] at hq
        obtain rfl := Option.some.inj hq
        exact A'.mono (fun q hq => ⟨(key q hq.1).1, (if_neg (key q hq.1).2).trans (if_pos hq.2)⟩) (hG 0 A' rfl)
      · rw [List.getElem?_set_ne (fun e' => e e'.symm)] at hq
        refine C.mono (fun k hk => ?_) (C.move (fun k hk hl => h1.block k hl (fun hk' => hk'.elim (fun h2 => e (hk.2.symm.trans h2.2)) (fun h2 => ej (hk.2.symm.trans h2.2)))) (hF q C hq))
        exact ⟨⟨hk.1.1, Nat.lt_of_lt_of_le hk.1.2 h1.size⟩, (if_pos ⟨hk.1.2, by rw [hk.2]; exact e, by rw [hk.2]; exact ej⟩).trans hk.2⟩
end Go.Proofs.Ytbaknecnkipooaa.Obj
