/- Talk's events. -/
import Derived.Test.YtkppilpailbpeaaVotTlk
namespace Go.Proofs.Ytkppilpailbpeaa.Vot
open Go Go.RowKit Go.Proofs.YtkppilpailbpeaaW.PrintWords Go.Proofs.Ytkppilpailbpeaa.Cnt Go.Proofs.Ytkppilpailbpeaa.Opn Go.Proofs.Ytkppilpailbpeaa.Sep Go.Proofs.Ytkppilpailbpeaa.Obj
set_option linter.unusedVariables false
set_option linter.unusedSimpArgs false
theorem unsC_in {us : List Und} {j : Nat} {q : Value} (hj : (unsC us)[j]? = some q) : ∃ (i : Nat) (hi : i < us.length) (r : Nat), j = i * 4 + r ∧ (unC us[i])[r]? = some q := by
  have hlt := (List.getElem?_eq_some_iff.1 hj).1
  rw [unsC_len] at hlt
  refine ⟨j / 4, by omega, j % 4, by omega, ?_⟩
  rw [← unsC_at (show j / 4 < us.length by omega), List.getElem?_take, if_pos (by omega), List.getElem?_drop, show j / 4 * 4 + j % 4 = j by omega]
  exact hj
theorem way_cells {w : World} {S : Nat → Prop} {g off n c : Nat} {us : List Und} (h : (wayA (.slice (some ⟨g, off * 4, none⟩) n c) us).P w S) {j : Nat} {q : Value} (hj : (unsC us)[j]? = some q) : w.cell? ⟨g, off * 4 + j, none⟩ = some q := by
  obtain ⟨i, hi, r, rfl, hr⟩ := unsC_in hj
  rw [← Nat.add_assoc]
  exact way_at h hi r q hr
theorem ev_loadR {P : Program} {ops : Array Oper} {rest : List Oper} {o : Oper} {a : Act} {Q : Exit → Act → World → Prop} {w : World} {b p0 n : Nat} {vs : List Value} (hr : w.rangeAt b p0 vs) (hgd : o.guard = none) {t : TypeId} {p : Operand} (ho : o.op = .load t p) (hp : a.eval p = .pointer (some ⟨b, p0, none⟩)) {d : TypeDesc} (hu : P.underlying t = some d) (hd : d.isRow = true) (hs : vs.length = n) (hn : (P.info? t).map (·.size) = some n)
    (h : wpList P ops Q rest (a.put o.dst (.agg vs.toArray)) w) : wpList P ops Q (o :: rest) a w :=
  wpList_load_mid hgd t p ho b p0 hp _ d hr hu hd (by rw [hn, hs]) h
theorem ev_loadR_step {P : Program} {ops : Array Oper} {o : Oper} {a : Act} {Q : Exit → Act → World → Prop} {Kc : Act → World → Prop} {E : Prop} {w : World} {b p0 n : Nat} {vs : List Value} (hr : w.rangeAt b p0 vs) (hw : Region.wanted o (yielded ops a.tmps) = true) {t : TypeId} {p : Operand} (ho : o.op = .load t p) (hp : a.eval p = .pointer (some ⟨b, p0, none⟩)) {d : TypeDesc} (hu : P.underlying t = some d) (hd : d.isRow = true) (hs : vs.length = n) (hn : (P.info? t).map (·.size) = some n)
    (h : Kc (a.put o.dst (.agg vs.toArray)) w) : if Region.wanted o (yielded ops a.tmps) = true then Oper.wp P o a w Kc Q else E := by
  rw [if_pos hw]
  exact wp_load_mid t p ho b p0 hp vs d hr hu hd (by rw [hn, hs]) h
/-- an operation is taken first (wpAnyH_take, its conditions paid by themselves) -/
theorem tk {P : Program} {md : Region.Mode} {ops : Array Oper} {Q : Exit → Act → World → Prop} {S : World → Prop} {i : Nat} {oi : Oper} {v : Value} {fuel : Nat} {listed : Array Bool} {a : Act} {w : World}
    (hi : ops[i]? = some oi := by simp only [List.getElem?_toArray, List.getElem?_cons_succ, List.getElem?_cons_zero]; rfl)
    (hs : Region.noSelect ops = true := by kernel_rfl) (hf : Region.free md ops listed i = true := by kernel_rfl) (hr : (Region.ready md ops listed).contains i = true := by kernel_rfl)
    (hQ : ∀ c a w, Q (.panic c) (a.put oi.dst v) w → Q (.panic c) a w := by exact fun _ _ _ h => h) (hy : YieldsIf P ops S oi v a) (hS : S w := by assumption)
    (h : wpAnyH P md ops Q S fuel (listed.setIfInBounds i true) (a.put oi.dst v) w) : wpAnyH P md ops Q S (fuel + 1) listed a w := wpAnyH_take hi hs hf hr hQ hy hS h
section
variable {P : Program} {ops : Array Oper} {rest : List Oper} {o : Oper} {a : Act} {Q : Exit → Act → World → Prop} {Kc : Act → World → Prop} {α : Type} {S : Nat → Prop} {As : List Asr} {w0 W : World}
theorem elem_run (d : Kd α) (HH : OwnS S As w0 W) (i : Nat) {g n c e : Nat} {xs : List α} (hi : As[i]? = some (Sep.row d e (.slice (some ⟨g, 0, none⟩) n c) xs)) (k : Nat) (hk : k < n) (y : α) (cy : List Value) (hM : ∀ w T, d.M w 0 T y cy) (hcy : cy.length = d.sz) {t : TypeId} {u : Value} (hu : u.cells.toList = cy) (ht : (P.info? t).map (·.size) = some d.sz) (h1 : ∀ q ∈ cy, q.oneCell' = true) :
    (Instr.storeAt t (.pointer (some ⟨g, k * d.sz, none⟩)) u).run P W = .ok () (W.setCells g (k * d.sz) cy) ∧ OwnS S (As.set i (Sep.row d e (.slice (some ⟨g, 0, none⟩) n c) (xs.set k y))) w0 (W.setCells g (k * d.sz) cy) := by
  obtain ⟨h0, F, hF⟩ := HH
  have HO : d.R e W 0 (Fp S w0 W F i) (.slice (some ⟨g, 0, none⟩) n c) xs := hF i _ hi
  have hn := (Kd.R_reads' HO).1
  have hk' : k < xs.length := by omega
  obtain ⟨ad, cc, ea, hcl, _, hcc⟩ := Kd.C_get (Kd.R_reads' HO).2.2 xs[k] (k : Int) (by omega) (by omega)
  cases ea
  have hM' : d.M W 0 (fun _ => False) y (cc.take 0 ++ cy ++ cc.drop (0 + cy.length)) := by
    rw [List.drop_of_length_le (by rw [hcl, hcy]; omega)]
    simpa using hM W _
  obtain ⟨hrow, hg⟩ := Kd.R_seg HO (i := (k : Int)) (j := 0) (seg := cy) (okp := fun _ => False) (by omega) (by omega) hcl (fun j u hj => by have := hcc j u hj; rw [Addr.add_mid] at this; simpa using this) (by omega) hM' (fun _ hk => hk.elim)
  obtain ⟨_, inner, hown, hr⟩ := HO
  refine ⟨?_, ?_⟩
  · rcases hown.2 with ⟨hv, _⟩ | ⟨g', cap', cur, hv, hb, hh, hnc, hcm, hcs, _⟩
    · cases hv
    injection hv with ha _ hc
    injection ha with ha
    injection ha with hg'
    subst hg'; subst hc
    refine run_store_run t u cy hh hu (by rw [ht, hcy]) ?_ h1
    rw [hcy, hcs, ← Nat.succ_mul]
    exact Nat.mul_le_mul_right _ (by omega)
  · have hrow' : d.R e (W.setCells g (k * d.sz) cy) 0 (Fp S w0 W F i) (.slice (some ⟨g, 0, none⟩) n c) (xs.set k y) := hrow
    have hg' : W.grownBy (W.setCells g (k * d.sz) cy) (some g) := hg
    exact ownS_modF h0 hF i hi _ (Frm.grown hg' (fun q hq => by cases hq; exact (hF i _ hi).1 g (by simp [Value.ownBlock]))) (Kd.R_mono hrow' (fun _ hq => .inl hq))
theorem evS_elem_step {E : Prop} (d : Kd α) (HH : OwnS S As w0 W) (i : Nat) (hw : Region.wanted o (yielded ops a.tmps) = true) (hN : o.dst = none) {t : TypeId} {p x : Operand} (ho : o.op = .store t p x)
    {g n c e : Nat} {xs : List α} (hi : As[i]? = some (Sep.row d e (.slice (some ⟨g, 0, none⟩) n c) xs)) (k : Nat) (hk : k < n) {off : Nat} (hp : a.eval p = .pointer (some ⟨g, off, none⟩)) (hoff : off = k * d.sz) (y : α) (cy : List Value) (hM : ∀ w T, d.M w 0 T y cy) (hcy : cy.length = d.sz) (u : Value) (hx : a.eval x = u) (hu : u.cells.toList = cy) (ht : (P.info? t).map (·.size) = some d.sz) (h1 : ∀ q ∈ cy, q.oneCell' = true)
    (h : ∀ w', OwnS S (As.set i (Sep.row d e (.slice (some ⟨g, 0, none⟩) n c) (xs.set k y))) w0 w' → Kc a w') : if Region.wanted o (yielded ops a.tmps) = true then Oper.wp P o a W Kc Q else E := by
  rw [if_pos hw]
  subst hoff
  obtain ⟨hrun, key⟩ := elem_run (P := P) d HH i hi k hk y cy hM hcy hu ht h1
  unfold Oper.wp execOp
  simp only [ho, hp, hx, Sem.run_bind, Sem.run_pure, Result.andThen_ok, hrun]
  show Kc (a.put o.dst undef) _
  rw [hN]
  exact h _ key
theorem evW_append (HH : OwnS S As w0 W) (i : Nat) (hgd : o.guard = none) (s x : Operand) (t : TypeId) (z : Value) (bytes : Nat)
    (ho : o.op = .call { callee := .builtin .append, args := #[s, x], argTypes := #[t, t] }) (ht : P.underlying t = some (.slice TU)) (hinfo : (P.info? TU).map (fun i => (i.zero, i.size, i.bytes)) = some (some z, 4, bytes)) (hz : z.cells.size = 4)
    (v : Value) (us : List Und) (u : Und) (cs : List Value) (hcs : cs = unC u) (hi : As[i]? = some (wayA v us)) (hs : a.eval s = v) (hx : a.eval x = .slice (some ⟨W.heap.size, 0, none⟩) 1 1) (hl : (us.length + 1) * bytes ≤ 140737488355328) (hl2 : us.length + 1 ≤ maxLen)
    (h : ∀ A c w1, OwnS S (As.set i (wayA (.slice A (us.length + 1) c) (us ++ [u]))) w0 w1 → wpList P ops Q rest (a.put o.dst (.slice A (us.length + 1) c)) w1) : wpList P ops Q (o :: rest) a (W.alloc (.cells cs.toArray TU)) := by
  subst hcs
  have hb := blk_new W (.cells (unC u).toArray TU)
  obtain ⟨h0, F, hF⟩ := HH.alloc (.cells (unC u).toArray TU)
  obtain ⟨i0, hi0, hzz⟩ := Option.map_eq_some_iff.1 hinfo
  simp only [Prod.mk.injEq] at hzz
  obtain ⟨hz0, hz1, hz2⟩ := hzz
  obtain ⟨A, c', w', hr, hW, hf⟩ := way_append (P := P) (W.alloc (.cells (unC u).toArray TU)) t o.type i0 z bytes ht hi0 hz0 hz1 hz2 hz (hF i _ hi) (vs := [u]) ⟨W.heap.size, 0, none⟩ 1 (fun j q hj => by
    rw [Addr.add_mid, Nat.zero_add, cell_of_row _ _ _ _ _ _ hb, ← Array.getElem?_toList]
    simpa [unsC] using hj) (by simp) (by simpa using hl2) (by simpa using hl)
  refine Kd.event_run hgd (v := .slice A (us.length + 1) c') (w1 := w') ?_ (h A c' w' (ownS_modF h0 hF i hi _ hf hW))
  simp only [List.length_singleton] at hr
  simp only [execOp, ho, resolve, invoke, builtin, Sem.run_bind, Sem.run_pure, Result.andThen_ok, List.map_toArray, List.map_cons, List.map_nil, hs, hx, hr]
theorem evW_delete_step {E : Prop} (HH : OwnS S As w0 W) (i : Nat) (hw : Region.wanted o (yielded ops a.tmps) = true) (s x : Operand) (t : TypeId) (z : Value) (bytes : Nat)
    (ho : o.op = .call { callee := .builtin .append, args := #[s, x], argTypes := #[t, t] }) (ht : P.underlying t = some (.slice TU)) (hinfo : (P.info? TU).map (fun i => (i.zero, i.size, i.bytes)) = some (some z, 4, bytes)) (hz : z.cells.size = 4)
    {g off n c k m c2 : Nat} {A : Option Addr} {us : List Und} (hi : As[i]? = some (wayA (.slice (some ⟨g, off * 4, none⟩) n c) us)) (hs : a.eval s = .slice (some ⟨g, off * 4, none⟩) k k) (hx : a.eval x = .slice A m c2) (hA : A = if c = k + 1 then some ⟨g, off * 4, none⟩ else (some (⟨g, off * 4, none⟩ : Addr)).map (·.add ((k + 1) * 4))) (hm : m = n - (k + 1)) (hk : k < n) (hl : n * bytes ≤ 140737488355328) (hl2 : n ≤ maxLen)
    (h : ∀ A c w1, OwnS S (As.set i (wayA (.slice A (n - 1) c) (us.eraseIdx k))) w0 w1 → Kc (a.put o.dst (.slice A (n - 1) c)) w1) : if Region.wanted o (yielded ops a.tmps) = true then Oper.wp P o a W Kc Q else E := by
  rw [if_pos hw]
  obtain ⟨h0, F, hF⟩ := HH
  have hW : (wayA (.slice (some ⟨g, off * 4, none⟩) n c) us).P W (Fp S w0 W F i) := hF i _ hi
  obtain ⟨hn, hnc⟩ := way_len hW
  obtain ⟨i0, hi0, hzz⟩ := Option.map_eq_some_iff.1 hinfo
  simp only [Prod.mk.injEq] at hzz
  obtain ⟨hz0, hz1, hz2⟩ := hzz
  have hcut := way_cut hW (k := k) (by omega)
  have hdr := way_drop hW (k := k + 1) (by omega)
  rw [List.eraseIdx_eq_take_drop_succ] at h
  unfold Oper.wp execOp
  simp only [ho, resolve, invoke, builtin, Sem.run_bind, Sem.run_pure, Result.andThen_ok, List.map_toArray, List.map_cons, List.map_nil, hs, hx]
  by_cases hm0 : m = 0
  · obtain ⟨ad, rfl⟩ : ∃ ad, A = some ad := by rw [hA]; split <;> exact ⟨_, rfl⟩
    have hr := run_append_room_cells (P := P) (w := W) t o.type TU i0 ht hi0 g (off * 4) k k ad m c2 [] (by rw [hm0]; simp) (fun j u hj => by simp at hj) (fun u hu => by simp at hu) (by omega) (fun j hj => by simp at hj) (fun j hj => by simp at hj)
    have e : W.setCells g (off * 4 + k * i0.size) [] = W := rfl
    rw [e, hm0, Nat.add_zero] at hr
    rw [hm0, hr]
    have hd : us.drop (k + 1) = [] := List.drop_of_length_le (by omega)
    rw [hd, List.append_nil, show n - 1 = k by omega] at h
    exact h _ _ W (ownS_modF h0 hF i hi _ (Frm.refl _ _) ((wayA _ _).mono (fun q hq => .inl hq) hcut))
  · have hc : ¬ c = k + 1 := by omega
    rw [if_neg hc] at hA hdr
    rw [Option.map_some, Addr.add_mid] at hA hdr
    rw [show off * 4 + (k + 1) * 4 = (off + (k + 1)) * 4 by omega] at hA hdr
    have hvl : (us.drop (k + 1)).length = m := by rw [List.length_drop]; omega
    have htl : (us.take k).length = k := by rw [List.length_take]; omega
    obtain ⟨A', c', w', hr, hW', hf⟩ := way_append (P := P) W t o.type i0 z bytes ht hi0 hz0 hz1 hz2 hz hcut (vs := us.drop (k + 1)) ⟨g, (off + (k + 1)) * 4, none⟩ c2 (fun j q hj => by rw [Addr.add_mid]; exact way_cells hdr hj) (by omega) (by rw [hvl, htl]; omega) (by
      rw [hvl, htl]
      refine Nat.le_trans (Nat.mul_le_mul_right _ ?_) hl
      omega)
    rw [hvl, htl] at hr hW'
    rw [hA, hr]
    rw [show k + m = n - 1 by omega] at hW' ⊢
    exact h _ _ w' (ownS_modF h0 hF i hi _ hf hW')
/-- make([]T, n), all of them nought -/
theorem evS_make (d : Kd α) (HH : OwnS S As w0 W) (e : Nat) (hgd : o.guard = none) {N : Tmp} (hd : o.dst = some N) (t : TypeId) (x y : Operand) (ho : o.op = .makeSlice t x y) (n : Nat) (hx : a.eval x = .int .i64 (n : Int)) (hy : a.eval y = .int .i64 (n : Int)) (ht : P.underlying t = some (.slice e)) (z : Value) (bytes : Nat) (hinfo : (P.info? e).map (fun i => (i.zero, i.size, i.bytes)) = some (some z, d.sz, bytes)) (hz : z.cells.size = d.sz) (hs0 : 0 < d.sz) (hb0 : 0 < bytes)
    (z0 : α) (hzero : ∀ w b T, d.M w b T z0 z.cells.toList) (hl : n * bytes ≤ 281474976710656) (hn : 0 < n)
    (h : ∀ g c w1, OwnS S (As ++ [Sep.row d e (.slice (some ⟨g, 0, none⟩) n c) (List.replicate n z0)]) w0 w1 → wpList P ops Q rest (a.put o.dst (.slice (some ⟨g, 0, none⟩) n c)) w1) : wpList P ops Q (o :: rest) a W := by
  refine Kd.R_make (w0 := W) d W.heap.size e hgd hd t x y ho (n : Int) hx hy ht z bytes hinfo hz hs0 hb0 z0 (ok := fun k => W.heap.size ≤ k) (okp := fun _ => False) (hzero _ _ _) (fun _ hk => hk.elim) (Nat.le_refl _) (by omega) (by simpa using hl) (Below.refl _ _) (Nat.le_refl _) ?_
  intro v1 w1 hR hB hg hat
  simp only [Int.toNat_natCast] at hR
  obtain ⟨inner, ho'⟩ := Kd.R_own hR
  obtain ⟨g, c, rfl, _, _⟩ := ho'.form (by simpa using hn)
  rw [List.length_replicate] at hR ⊢
  exact h g c w1 (HH.add hB (B := Sep.row d e (.slice (some ⟨g, 0, none⟩) n c) (List.replicate n z0)) (Kd.R_mono (Kd.R_lower (Kd.R_bound hR) (Nat.zero_le _)) (fun k hk => ⟨hk.1, hk.2.2.1⟩)))
end
end Go.Proofs.Ytkppilpailbpeaa.Vot
