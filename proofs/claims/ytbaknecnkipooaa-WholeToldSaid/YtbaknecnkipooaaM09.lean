/- A heap, assertion by assertion: each owns blocks of its own, none another's. A heap of assertions over blocks that were there (S) and new ones: for what is called on an object. -/
import Derived.Test.YtbaknecnkipooaaWWords
import Derived.Laws.Rows
import Derived.Deep.MidRow
namespace Go.Proofs.Ytbaknecnkipooaa.Sep
open Go Go.RowKit Go.Proofs.YtbaknecnkipooaaW.PrintWords
set_option linter.unusedVariables false
set_option linter.unusedSimpArgs false
structure Asr where
  P : World → (Nat → Prop) → Prop
  mono : ∀ {w : World} {S S' : Nat → Prop}, (∀ k, S k → S' k) → P w S → P w S'
  move : ∀ {w w' : World} {S : Nat → Prop}, (∀ k, S k → k < w.heap.size → w'.heap[k]? = w.heap[k]?) → P w S → P w' S
def blk (g : Nat) (cs : Array Value) (T : TypeId) : Asr where
  P := fun w S => w.heap[g]? = some (.cells cs T (0, 0)) ∧ S g
  mono := fun h a => ⟨a.1, h _ a.2⟩
  move := fun h a => ⟨(h _ a.2 (blk_lt a.1)).trans a.1, a.2⟩
def row {α : Type} (d : Kd α) (e : Nat) (v : Value) (xs : List α) : Asr where
  P := fun w S => d.R e w 0 S v xs
  mono := fun h a => Kd.R_mono a h
  move := fun h a => Kd.R_step a h
def val {α : Type} (d : Kd α) (x : α) (cs : List Value) : Asr where
  P := fun w S => d.M w 0 S x cs
  mono := fun h a => d.M_mono h a
  move := fun h a => Kd.M_step a h
def emp : Asr where
  P := fun _ _ => True
  mono := fun _ a => a
  move := fun _ a => a
def Fp (w0 w : World) (F : Nat → Nat) (i k : Nat) : Prop := (w0.heap.size ≤ k ∧ k < w.heap.size) ∧ F k = i
def Own (As : List Asr) (w0 w : World) : Prop := Below w0.heap.size w0 w ∧ ∃ F : Nat → Nat, ∀ (i : Nat) (A : Asr), As[i]? = some A → A.P w (Fp w0 w F i)
structure Frm (S : Nat → Prop) (w w' : World) : Prop where
  os : w'.os = w.os
  tape : w'.tape = w.tape
  output : w'.output = w.output
  size : w.heap.size ≤ w'.heap.size
  block : ∀ k, k < w.heap.size → ¬ S k → w'.heap[k]? = w.heap[k]?
theorem Frm.below {S : Nat → Prop} {B : Nat} {w0 w w' : World} (h : Frm S w w') (hb : Below B w0 w) (hB : B ≤ w.heap.size) (hS : ∀ k, S k → B ≤ k) : Below B w0 w' :=
  ⟨h.os.trans hb.os, h.tape.trans hb.tape, h.output.trans hb.output, Nat.le_trans hb.size h.size, fun k hk => (h.block k (by omega) (fun hs => by have := hS k hs; omega)).trans (hb.block k hk)⟩
theorem Frm.grown {w w' : World} {r : Option Nat} (h : w.grownBy w' r) {S : Nat → Prop} (hS : ∀ k, r = some k → S k) : Frm S w w' :=
  ⟨h.os, h.tape, h.output, h.size, fun k hk hn => h.block k hk (fun e => hn (hS k e.symm))⟩
theorem Frm.set (w : World) (g j : Nat) (u : Value) : Frm (· = g) w (w.setCell ⟨g, j, none⟩ u) := by
  have hb := (Below.refl 0 w).setCell (p := ⟨g, j, none⟩) (Nat.zero_le _) u
  exact ⟨hb.os, hb.tape, hb.output, hb.size, fun k _ hk => Below.heap_setCell w ⟨g, j, none⟩ u k hk⟩
theorem Frm.trans {S : Nat → Prop} {a b c : World} (h : Frm S a b) (k : Frm S b c) : Frm S a c :=
  ⟨k.os.trans h.os, k.tape.trans h.tape, k.output.trans h.output, Nat.le_trans h.size k.size, fun i hi hn => (k.block i (by have := h.size; omega) hn).trans (h.block i hi hn)⟩
theorem Frm.refl (S : Nat → Prop) (w : World) : Frm S w w := ⟨rfl, rfl, rfl, Nat.le_refl _, fun _ _ _ => rfl⟩
theorem Own.start (w : World) : Own [] w w := ⟨Below.refl _ _, fun _ => 0, fun i A h => by simp at h⟩
theorem Own.get {As : List Asr} {w0 w : World} (h : Own As w0 w) (i : Nat) {A : Asr} (hi : As[i]? = some A) : A.P w (fun k => w0.heap.size ≤ k ∧ k < w.heap.size) := by
  obtain ⟨_, F, hF⟩ := h
  exact A.mono (fun k hk => hk.1) (hF i A hi)
theorem Own.row {α : Type} {As : List Asr} {w0 w : World} (h : Own As w0 w) (i : Nat) {d : Kd α} {e : Nat} {v : Value} {xs : List α} (hi : As[i]? = some (Sep.row d e v xs)) : d.R e w 0 (fun k => w0.heap.size ≤ k ∧ k < w.heap.size) v xs := h.get i hi
theorem Own.slice {α : Type} {As : List Asr} {w0 w : World} (h : Own As w0 w) (i : Nat) {d : Kd α} {e : Nat} {v : Value} {xs : List α} (hi : As[i]? = some (Sep.row d e v xs)) : ∃ A c, v = .slice A xs.length c := Kd.R_slice (h.row i hi)
theorem Own.add {As : List Asr} {w0 w w' : World} (h : Own As w0 w) (hb : Below w.heap.size w w') {B : Asr} (hB : B.P w' (fun k => w.heap.size ≤ k ∧ k < w'.heap.size)) : Own (As ++ [B]) w0 w' := by
  obtain ⟨h0, F, hF⟩ := h
  refine ⟨below_then h0 h0.size hb, fun k => if k < w.heap.size then F k else As.length, fun i A hi => ?_⟩
  rcases Nat.lt_or_ge i As.length with hlt | hge
  · rw [List.getElem?_append_left hlt] at hi
    refine A.mono (fun k hk => ?_) (A.move (fun k hk hlt => hb.block k hlt) (hF i A hi))
    exact ⟨⟨hk.1.1, Nat.lt_of_lt_of_le hk.1.2 hb.size⟩, (if_pos hk.1.2).trans hk.2⟩
  · rw [List.getElem?_append_right hge] at hi
    have hz : i - As.length = 0 := by
      have := (List.getElem?_eq_some_iff.1 hi).1
      simp at this
      omega
    rw [hz] at hi
    simp at hi
    subst hi
    refine B.mono (fun k hk => ?_) hB
    exact ⟨⟨Nat.le_trans h0.size hk.1, hk.2⟩, (if_neg (by omega)).trans (by omega)⟩
theorem Own.pick {As : List Asr} {w0 w : World} (h : Own As w0 w) (i : Nat) {B : Asr} (hi : As[i]? = some B) : Own [B] w0 w := by
  obtain ⟨h0, F, hF⟩ := h
  refine ⟨h0, fun k => if F k = i then 0 else 1, fun q A hq => ?_⟩
  have hz : q = 0 := by
    have := (List.getElem?_eq_some_iff.1 hq).1
    simp at this
    exact this
  subst hz
  simp at hq
  subst hq
  exact B.mono (fun k hk => ⟨hk.1, if_pos hk.2⟩) (hF i B hi)
def putA (cs : Array Value) (j : Nat) : List Value → Array Value
  | [] => cs
  | v :: r => putA (cs.setIfInBounds j v) (j + 1) r
theorem blk_sets {g : Nat} {T : TypeId} : ∀ (vs : List Value) (w : World) (cs : Array Value) (j : Nat), w.heap[g]? = some (.cells cs T (0, 0)) → (w.setCells g j vs).heap[g]? = some (.cells (putA cs j vs) T (0, 0)) ∧ Frm (· = g) w (w.setCells g j vs)
  | [], w, cs, j, h => ⟨h, Frm.refl _ _⟩
  | v :: r, w, cs, j, h => by
    have := blk_sets r (w.setCell ⟨g, j, none⟩ v) (cs.setIfInBounds j v) (j + 1) (blk_set h j v)
    exact ⟨this.1, (Frm.set w g j v).trans this.2⟩
def putL (l : List Value) (j : Nat) (vs : List Value) : List Value := l.take j ++ (vs ++ l.drop (j + vs.length))
theorem putA_eq : ∀ (vs : List Value) (cs : Array Value) (j : Nat), j + vs.length ≤ cs.size → putA cs j vs = (putL cs.toList j vs).toArray
  | [], cs, j, h => by simp [putA, putL]
  | v :: r, cs, j, h => by
    have hs : (cs.setIfInBounds j v).size = cs.size := Array.size_setIfInBounds ..
    have hj : j < cs.size := by simp at h; omega
    have ih := putA_eq r (cs.setIfInBounds j v) (j + 1) (by rw [hs]; simp at h; omega)
    rw [putA, ih]
    congr 1
    unfold putL
    rw [Array.toList_setIfInBounds]
    have hjl : j < cs.toList.length := by simpa using hj
    rw [List.take_set, List.take_succ_eq_append_getElem hjl, List.drop_set_of_lt (by omega)]
    have hlen : (cs.toList.take j).length = j := by simp; omega
    have e : (cs.toList.take j ++ [cs.toList[j]]).set j v = cs.toList.take j ++ [v] := by
      rw [List.set_append, if_neg (by omega), hlen, Nat.sub_self, List.set_cons_zero]
    rw [e]
    simp [Nat.add_assoc, Nat.add_comm 1]
section
variable {P : Program} {ops : Array Oper} {rest : List Oper} {o : Oper} {a : Act} {Q : Exit → Act → World → Prop} {As : List Asr} {w0 W : World}
theorem ev_load {w : World} {g : Nat} {cs : Array Value} {T : TypeId} (hg : w.heap[g]? = some (.cells cs T (0, 0))) (j n : Nat) (vs : List Value) (hvs : (cs.extract j (j + n)).toList = vs) (hgd : o.guard = none) {t : TypeId} {p : Operand} (ho : o.op = .load t p) (hp : a.eval p = .pointer (some ⟨g, j, none⟩)) {d : TypeDesc} (hu : P.underlying t = some d) (hd : d.isRow = true) (hn : (P.info? t).map (·.size) = some vs.length)
    (h : wpList P ops Q rest (a.put o.dst (.agg vs.toArray)) w) : wpList P ops Q (o :: rest) a w := by
  subst hvs
  exact wpList_load_mid hgd t p ho g j hp _ d (World.rangeAt_of_block hg j n) hu hd hn h
theorem run_one {w : World} {x : Addr} {t : TypeId} {v : Value} {d : TypeDesc} (hc : w.cell? x = some v) (hu : P.underlying t = some d) (hd : d.isRow = false) : (Instr.loadAt t (.pointer (some x))).run P w = .ok v w := by
  have hagg : (isAgg t).run P w = .ok false w := by
    unfold isAgg
    rw [Sem.run_bind, run_underlying hu w]
    cases d <;> simp_all
  have hl : (load x).run P w = .ok v w := by simp [load, Sem.run, hc]
  simp only [Instr.loadAt, Instr.sureAddr, loadVar, Sem.run_bind, Sem.run_pure, Result.andThen_ok, hagg]
  simpa using hl
theorem ev_cell {w : World} {g j : Nat} {v : Value} (hc : w.cell? ⟨g, j, none⟩ = some v) (hgd : o.guard = none) {t : TypeId} {p : Operand} (ho : o.op = .load t p) (hp : a.eval p = .pointer (some ⟨g, j, none⟩)) {d : TypeDesc} (hu : P.underlying t = some d) (hd : d.isRow = false)
    (h : wpList P ops Q rest (a.put o.dst v) w) : wpList P ops Q (o :: rest) a w := by
  refine wpList_plain hgd fun K hK => ?_
  unfold Oper.wp execOp
  simp only [ho, hp, Sem.run_bind, Sem.run_pure, Result.andThen_ok, run_one hc hu hd]
  exact hK _ _ h
end
section
variable {α : Type} {d : Kd α} {e : Nat} {w0 W : World} {v : Value} {xs ys : List α} {As : List Asr} {F : Nat → Nat}
theorem bound_new {w1 : World} {S : Nat → Prop} {v1 : Value} (h : d.R e w1 0 (fun k => S k ∨ W.heap.size ≤ k) v1 ys) : d.R e w1 0 (fun k => S k ∨ (W.heap.size ≤ k ∧ k < w1.heap.size)) v1 ys :=
  Kd.R_mono (Kd.R_bound h) (fun k hk => hk.1.elim .inl (fun h2 => .inr ⟨h2, hk.2.2.1⟩))
end
section
variable {P : Program} {ops : Array Oper} {rest : List Oper} {o : Oper} {a : Act} {Q : Exit → Act → World → Prop} {As : List Asr} {w0 W : World} {α : Type}
theorem Own.nil {d : Kd α} {e : Nat} (h : Own As w0 W) : Own (As ++ [Sep.row d e (.slice none 0 0) []]) w0 W :=
  h.add (Below.refl _ _) (Kd.R_nil _ _ _ _ _)
end
end Go.Proofs.Ytbaknecnkipooaa.Sep
namespace Go.Proofs.Ytbaknecnkipooaa.Obj
open Go Go.RowKit Go.Proofs.YtbaknecnkipooaaW.PrintWords Go.Proofs.Ytbaknecnkipooaa.Sep
set_option linter.unusedVariables false
set_option linter.unusedSimpArgs false
def Uni (S : Nat → Prop) (w0 w : World) (k : Nat) : Prop := (S k ∨ w0.heap.size ≤ k) ∧ k < w.heap.size
def Fp (S : Nat → Prop) (w0 w : World) (F : Nat → Nat) (i k : Nat) : Prop := Uni S w0 w k ∧ F k = i
def OwnS (S : Nat → Prop) (As : List Asr) (w0 w : World) : Prop := Frm S w0 w ∧ ∃ F : Nat → Nat, ∀ (i : Nat) (A : Asr), As[i]? = some A → A.P w (Fp S w0 w F i)
def Upd (S : Nat → Prop) (A : Asr) (w w' : World) : Prop := Frm S w w' ∧ A.P w' (fun k => S k ∨ (w.heap.size ≤ k ∧ k < w'.heap.size))
theorem Frm.le {S : Nat → Prop} {a b c : World} (h : Frm S a b) (k : Frm (fun x => S x ∨ a.heap.size ≤ x) b c) : Frm S a c :=
  ⟨k.os.trans h.os, k.tape.trans h.tape, k.output.trans h.output, Nat.le_trans h.size k.size, fun i hi hn => (k.block i (by have := h.size; omega) (fun e => e.elim hn (fun e => by omega))).trans (h.block i hi hn)⟩
theorem Frm.bel {S : Nat → Prop} {a b : World} (h : Below a.heap.size a b) : Frm S a b := ⟨h.os, h.tape, h.output, h.size, fun k hk _ => h.block k hk⟩
theorem Frm.mono {S T : Nat → Prop} {a b : World} (h : Frm S a b) (hS : ∀ k, k < a.heap.size → S k → T k) : Frm T a b := ⟨h.os, h.tape, h.output, h.size, fun k hk hn => h.block k hk (fun e => hn (hS k hk e))⟩
variable {S : Nat → Prop} {As Bs : List Asr} {w0 w w' W : World}
theorem OwnS.start {A : Asr} (h : A.P w S) (hlt : ∀ k, S k → k < w.heap.size) : OwnS S [A] w w :=
  ⟨Frm.refl _ _, fun _ => 0, fun i B hi => by
    have hz : i = 0 := by
      have := (List.getElem?_eq_some_iff.1 hi).1
      simp at this
      exact this
    subst hz
    simp at hi
    subst hi
    exact A.mono (fun k hk => ⟨⟨.inl hk, hlt k hk⟩, rfl⟩) h⟩
theorem OwnS.frm (h : OwnS S As w0 w) : Frm S w0 w := h.1
theorem OwnS.get (h : OwnS S As w0 w) (i : Nat) {A : Asr} (hi : As[i]? = some A) : A.P w (fun k => Uni S w0 w k) := by
  obtain ⟨_, F, hF⟩ := h
  exact A.mono (fun k hk => hk.1) (hF i A hi)
theorem OwnS.blk (h : OwnS S As w0 w) (i : Nat) {g : Nat} {cs : Array Value} {T : TypeId} (hi : As[i]? = some (Sep.blk g cs T)) : w.heap[g]? = some (.cells cs T (0, 0)) := (h.get i hi).1
theorem OwnS.row {α : Type} (h : OwnS S As w0 w) (i : Nat) {d : Kd α} {e : Nat} {v : Value} {xs : List α} (hi : As[i]? = some (Sep.row d e v xs)) : d.R e w 0 (fun k => Uni S w0 w k) v xs := h.get i hi
theorem OwnS.C {α : Type} (h : OwnS S As w0 w) (i : Nat) {d : Kd α} {e : Nat} {A : Option Addr} {n c : Nat} {xs : List α} (hi : As[i]? = some (Sep.row d e (.slice A n c) xs)) : d.C w A xs.length xs := (Kd.R_reads' (h.row i hi)).2.2
theorem OwnS.len {α : Type} (h : OwnS S As w0 w) (i : Nat) {d : Kd α} {e : Nat} {A : Option Addr} {n c : Nat} {xs : List α} (hi : As[i]? = some (Sep.row d e (.slice A n c) xs)) : n = xs.length ∧ n ≤ c := ⟨(Kd.R_reads' (h.row i hi)).1, (Kd.R_reads' (h.row i hi)).2.1⟩
theorem OwnS.step (h : OwnS S As w0 w) (hb : Below w.heap.size w w') : OwnS S As w0 w' := by
  obtain ⟨h0, F, hF⟩ := h
  refine ⟨Frm.le h0 (Frm.bel hb), F, fun i A hi => ?_⟩
  exact A.mono (fun k hk => ⟨⟨hk.1.1, Nat.lt_of_lt_of_le hk.1.2 hb.size⟩, hk.2⟩) (A.move (fun k hk hlt => hb.block k hlt) (hF i A hi))
theorem OwnS.drew (h : OwnS S As w0 w) : OwnS S As w0 w.drew := h.step (below_drew (Below.refl _ _))
theorem OwnS.drewN (h : OwnS S As w0 w) (n : Nat) : OwnS S As w0 (w.drewN n) := h.step (pw_below_drewN (Below.refl _ _) n)
theorem OwnS.alloc (h : OwnS S As w0 w) (o : Go.Obj) : OwnS S As w0 (w.alloc o) := h.step (below_alloc (Below.refl _ _) _)
theorem OwnS.add (h : OwnS S As w0 w) (hb : Below w.heap.size w w') {B : Asr} (hB : B.P w' (fun k => w.heap.size ≤ k ∧ k < w'.heap.size)) : OwnS S (As ++ [B]) w0 w' := by
  obtain ⟨h0, F, hF⟩ := h
  refine ⟨Frm.le h0 (Frm.bel hb), fun k => if k < w.heap.size then F k else As.length, fun i A hi => ?_⟩
  rcases Nat.lt_or_ge i As.length with hlt | hge
  · rw [List.getElem?_append_left hlt] at hi
    refine A.mono (fun k hk => ?_) (A.move (fun k hk hlt => hb.block k hlt) (hF i A hi))
    exact ⟨⟨hk.1.1, Nat.lt_of_lt_of_le hk.1.2 hb.size⟩, (if_pos hk.1.2).trans hk.2⟩
  · rw [List.getElem?_append_right hge] at hi
    have hz : i - As.length = 0 := by
      have := (List.getElem?_eq_some_iff.1 hi).1
      simp at this
      omega
    rw [hz] at hi
    simp at hi
    subst hi
    refine B.mono (fun k hk => ?_) hB
    exact ⟨⟨.inr (Nat.le_trans h0.size hk.1), hk.2⟩, (if_neg (by omega)).trans (by omega)⟩
theorem OwnS.new (h : OwnS S As w0 w) (cs : Array Value) (T : TypeId) : OwnS S (As ++ [Sep.blk w.heap.size cs T]) w0 (w.alloc (.cells cs T (0, 0))) :=
  h.add (below_alloc (Below.refl _ _) _) ⟨blk_new w _, Nat.le_refl _, by simp⟩
theorem ownS_modF {F : Nat → Nat} (h0 : Frm S w0 w) (hF : ∀ (i : Nat) (A : Asr), As[i]? = some A → A.P w (Fp S w0 w F i)) (i : Nat) {A : Asr} (hi : As[i]? = some A) (A' : Asr)
    (hf : Frm (Fp S w0 w F i) w w') (hp : A'.P w' (fun k => Fp S w0 w F i k ∨ (w.heap.size ≤ k ∧ k < w'.heap.size))) : OwnS S (As.set i A') w0 w' := by
  refine ⟨Frm.le h0 (Frm.mono hf (fun k _ hk => hk.1.1)), fun k => if k < w.heap.size then F k else i, fun j B hj => ?_⟩
  by_cases e : j = i
  · subst e
    have hlt := (List.getElem?_eq_some_iff.1 hi).1
    rw [List.getElem?_set_self hlt] at hj
    obtain rfl := Option.some.inj hj
    refine A'.mono (fun k hk => ?_) hp
    rcases hk with hk | hk
    · exact ⟨⟨hk.1.1, Nat.lt_of_lt_of_le hk.1.2 hf.size⟩, (if_pos hk.1.2).trans hk.2⟩
    · exact ⟨⟨.inr (Nat.le_trans h0.size hk.1), hk.2⟩, if_neg (by omega)⟩
  · rw [List.getElem?_set_ne (fun e' => e e'.symm)] at hj
    refine B.mono (fun k hk => ?_) (B.move (fun k hk hlt => hf.block k hlt (fun hk' => e (hk.2.symm.trans hk'.2))) (hF j B hj))
    exact ⟨⟨hk.1.1, Nat.lt_of_lt_of_le hk.1.2 hf.size⟩, (if_pos hk.1.2).trans hk.2⟩
theorem OwnS.mod (h : OwnS S As w0 w) (i : Nat) {A : Asr} (hi : As[i]? = some A) (A' : Asr) (hs : ∀ T : Nat → Prop, A.P w T → Upd T A' w w') : OwnS S (As.set i A') w0 w' := by
  obtain ⟨h0, F, hF⟩ := h
  obtain ⟨hf, hp⟩ := hs _ (hF i A hi)
  exact ownS_modF h0 hF i hi A' hf hp
theorem ownS_mod2F {F : Nat → Nat} (h0 : Frm S w0 w) (hF : ∀ (i : Nat) (A : Asr), As[i]? = some A → A.P w (Fp S w0 w F i)) (i j : Nat) (hij : i ≠ j) {A B : Asr} (hi : As[i]? = some A) (hj : As[j]? = some B) (A' : Asr)
    (hf : Frm (fun k => Fp S w0 w F i k ∨ Fp S w0 w F j k) w w') (hp : A'.P w' (fun k => (Fp S w0 w F i k ∨ Fp S w0 w F j k) ∨ (w.heap.size ≤ k ∧ k < w'.heap.size))) : OwnS S ((As.set i A').set j emp) w0 w' := by
  refine ⟨Frm.le h0 (Frm.mono hf (fun k _ hk => hk.elim (fun h => h.1.1) (fun h => h.1.1))), fun k => if k < w.heap.size then (if F k = j then i else F k) else i, fun q C hq => ?_⟩
  have hli := (List.getElem?_eq_some_iff.1 hi).1
  have hlj := (List.getElem?_eq_some_iff.1 hj).1
  by_cases ej : q = j
  · subst ej
    rw [List.getElem?_set_self (by simpa using hlj)] at hq
    obtain rfl := Option.some.inj hq
    trivial
  · rw [List.getElem?_set_ne (fun e' => ej e'.symm)] at hq
    by_cases e : q = i
    · subst e
      rw [List.getElem?_set_self hli] at hq
      obtain rfl := Option.some.inj hq
      refine A'.mono (fun k hk => ?_) hp
      rcases hk with (hk | hk) | hk
      · exact ⟨⟨hk.1.1, Nat.lt_of_lt_of_le hk.1.2 hf.size⟩, (if_pos hk.1.2).trans ((if_neg (by rw [hk.2]; exact hij)).trans hk.2)⟩
      · exact ⟨⟨hk.1.1, Nat.lt_of_lt_of_le hk.1.2 hf.size⟩, (if_pos hk.1.2).trans (if_pos hk.2)⟩
      · exact ⟨⟨.inr (Nat.le_trans h0.size hk.1), hk.2⟩, if_neg (by omega)⟩
    · rw [List.getElem?_set_ne (fun e' => e e'.symm)] at hq
      refine C.mono (fun k hk => ?_) (C.move (fun k hk hlt => hf.block k hlt (fun hk' => hk'.elim (fun h => e (hk.2.symm.trans h.2)) (fun h => ej (hk.2.symm.trans h.2)))) (hF q C hq))
      refine ⟨⟨hk.1.1, Nat.lt_of_lt_of_le hk.1.2 hf.size⟩, ?_⟩
      exact (if_pos hk.1.2).trans ((if_neg (by rw [hk.2]; exact ej)).trans hk.2)
theorem OwnS.sub {Bs : List Asr} (h : OwnS S As w0 w) (hsub : ∀ (j : Nat) (B : Asr), Bs[j]? = some B → As[j]? = some B) : OwnS S Bs w0 w := by
  obtain ⟨h0, F, hF⟩ := h
  exact ⟨h0, F, fun i A hi => hF i A (hsub i A hi)⟩
theorem OwnS.picks (h : OwnS S As w0 w) (js : List Nat) (hnd : js.Nodup) : OwnS S (js.map (fun j => As.getD j emp)) w0 w := by
  obtain ⟨h0, F, hF⟩ := h
  refine ⟨h0, fun k => js.idxOf (F k), fun i A hi => ?_⟩
  rw [List.getElem?_map] at hi
  obtain ⟨j, hj, rfl⟩ := Option.map_eq_some_iff.1 hi
  obtain ⟨hlt, hji⟩ := List.getElem?_eq_some_iff.1 hj
  rcases Nat.lt_or_ge j As.length with hl | hl
  · have e : As[j]? = some (As.getD j emp) := by rw [List.getD_eq_getElem?_getD, List.getElem?_eq_getElem hl]; rfl
    refine Asr.mono _ (fun k hk => ⟨hk.1, ?_⟩) (hF j _ e)
    show js.idxOf (F k) = i
    rw [hk.2, ← hji]
    exact hnd.idxOf_getElem i hlt
  · have e : As.getD j emp = emp := by rw [List.getD_eq_getElem?_getD, List.getElem?_eq_none hl]; rfl
    rw [e]
    trivial
theorem OwnS.take (h : OwnS S As w0 w) (n : Nat) : OwnS S (As.take n) w0 w := h.sub (fun j B hj => by
  rw [List.getElem?_take] at hj
  split at hj
  · exact hj
  · cases hj)
theorem ownS_use {F : Nat → Nat} (h0 : Frm S w0 w) (hF : ∀ (i : Nat) (A : Asr), As[i]? = some A → A.P w (Fp S w0 w F i)) (i : Nat) (hlt : i < As.length) {A' : Asr} (h' : OwnS (Fp S w0 w F i) (A' :: Bs) w w') : OwnS S (As.set i A' ++ Bs) w0 w' := by
  obtain ⟨h1, G, hG⟩ := h'
  refine ⟨Frm.le h0 (Frm.mono h1 (fun k _ hk => hk.1.1)), fun k => if k < w.heap.size ∧ F k ≠ i then (if F k < As.length then F k else As.length + Bs.length) else (if G k = 0 then i else As.length + (G k - 1)), fun q C hq => ?_⟩
  have key : ∀ k, Uni (Fp S w0 w F i) w w' k → Uni S w0 w' k ∧ ¬ (k < w.heap.size ∧ F k ≠ i) := fun k hk => by
    refine ⟨⟨?_, hk.2⟩, fun hh => ?_⟩
    · rcases hk.1 with h2 | h2
      · exact h2.1.1
      · exact .inr (Nat.le_trans h0.size h2)
    · rcases hk.1 with h2 | h2
      · exact hh.2 h2.2
      · omega
  rcases Nat.lt_or_ge q As.length with hql | hge
  · rw [List.getElem?_append_left (by simpa using hql)] at hq
    by_cases e : q = i
    · subst e
      rw [List.getElem?_set_self hlt] at hq
      obtain rfl := Option.some.inj hq
      exact A'.mono (fun k hk => ⟨(key k hk.1).1, (if_neg (key k hk.1).2).trans (if_pos hk.2)⟩) (hG 0 A' rfl)
    · rw [List.getElem?_set_ne (fun e' => e e'.symm)] at hq
      refine C.mono (fun k hk => ?_) (C.move (fun k hk hl => h1.block k hl (fun hk' => e (hk.2.symm.trans hk'.2))) (hF q C hq))
      exact ⟨⟨hk.1.1, Nat.lt_of_lt_of_le hk.1.2 h1.size⟩, (if_pos ⟨hk.1.2, by rw [hk.2]; exact e⟩).trans ((if_pos (by rw [hk.2]; exact hql)).trans hk.2)⟩
  · rw [List.getElem?_append_right (by simpa using hge)] at hq
    simp only [List.length_set] at hq
    refine C.mono (fun k hk => ⟨(key k hk.1).1, (if_neg (key k hk.1).2).trans ((if_neg (by rw [hk.2]; omega)).trans (by rw [hk.2]; omega))⟩) (hG (q - As.length + 1) C (by simpa using hq))
theorem OwnS.joinL (h : OwnS S As w0 w) (h' : Own Bs w w') : OwnS S (As ++ Bs) w0 w' := by
  obtain ⟨h0, F, hF⟩ := h
  obtain ⟨h1, G, hG⟩ := h'
  refine ⟨Frm.le h0 (Frm.bel h1), fun k => if k < w.heap.size then (if F k < As.length then F k else As.length + Bs.length) else As.length + G k, fun i A hi => ?_⟩
  rcases Nat.lt_or_ge i As.length with hlt | hge
  · rw [List.getElem?_append_left hlt] at hi
    refine A.mono (fun k hk => ?_) (A.move (fun k hk hlt => h1.block k hlt) (hF i A hi))
    exact ⟨⟨hk.1.1, Nat.lt_of_lt_of_le hk.1.2 h1.size⟩, (if_pos hk.1.2).trans ((if_pos (by rw [hk.2]; exact hlt)).trans hk.2)⟩
  · rw [List.getElem?_append_right hge] at hi
    refine A.mono (fun k hk => ?_) (hG _ A hi)
    exact ⟨⟨.inr (Nat.le_trans h0.size hk.1.1), hk.1.2⟩, (if_neg (by have := hk.1.1; omega)).trans (by rw [hk.2]; omega)⟩
theorem OwnS.of_own (h : Own As w0 w) : OwnS (fun _ => False) As w0 w := by
  obtain ⟨h0, F, hF⟩ := h
  exact ⟨Frm.bel h0, F, fun i A hi => A.mono (fun k hk => ⟨⟨.inr hk.1.1, hk.1.2⟩, hk.2⟩) (hF i A hi)⟩
theorem OwnS.own (h : OwnS (fun _ => False) As w0 w) : Own As w0 w := by
  obtain ⟨h0, F, hF⟩ := h
  exact ⟨⟨h0.os, h0.tape, h0.output, h0.size, fun k hk => h0.block k hk (fun e => e)⟩, F, fun i A hi => A.mono (fun k hk => ⟨⟨hk.1.1.elim False.elim id, hk.1.2⟩, hk.2⟩) (hF i A hi)⟩
theorem OwnS.put {g : Nat} {cs : Array Value} {T : TypeId} (h : OwnS S As w0 w) (i : Nat) (hi : As[i]? = some (Sep.blk g cs T)) (cs' : Array Value) (hg : w'.heap[g]? = some (.cells cs' T (0, 0))) (hf : Frm (· = g) w w') : OwnS S (As.set i (Sep.blk g cs' T)) w0 w' :=
  h.mod i hi _ (fun T' hp => ⟨⟨hf.os, hf.tape, hf.output, hf.size, fun k hk hn => hf.block k hk (fun e => hn (e ▸ hp.2))⟩, hg, .inl hp.2⟩)
theorem OwnS.puts {g : Nat} {cs : Array Value} {T : TypeId} (h : OwnS S As w0 w) (i : Nat) (hi : As[i]? = some (Sep.blk g cs T)) (j : Nat) (vs : List Value) : OwnS S (As.set i (Sep.blk g (putA cs j vs) T)) w0 (w.setCells g j vs) :=
  h.put i hi _ (blk_sets vs w cs j (h.blk i hi)).1 (blk_sets vs w cs j (h.blk i hi)).2
section
variable {P : Program} {ops : Array Oper} {rest : List Oper} {o : Oper} {a : Act} {Q : Exit → Act → World → Prop}
theorem evS_store (HH : OwnS S As w0 W) (i : Nat) (hgd : o.guard = none) (hN : o.dst = none) {t : TypeId} {p x : Operand} (ho : o.op = .store t p x) {g j : Nat} {cs : Array Value} {T : TypeId} (hi : As[i]? = some (Sep.blk g cs T)) (hp : a.eval p = .pointer (some ⟨g, j, none⟩))
    (u : Value) (hx : a.eval x = u) (vs : List Value) (hu : u.cells.toList = vs) (ht : (P.info? t).map (·.size) = some vs.length) (hj : j + vs.length ≤ cs.size) (h1 : ∀ q ∈ vs, q.oneCell' = true)
    (h : ∀ w', OwnS S (As.set i (Sep.blk g (putL cs.toList j vs).toArray T)) w0 w' → wpList P ops Q rest a w') : wpList P ops Q (o :: rest) a W := by
  refine wpList_plain hgd fun K hK => ?_
  have hrun : (Instr.storeAt t (.pointer (some ⟨g, j, none⟩)) u).run P W = .ok () (W.setCells g j vs) :=
    run_store_run t u vs (HH.blk i hi) hu ht hj h1
  unfold Oper.wp execOp
  simp only [ho, hp, hx, Sem.run_bind, Sem.run_pure, Result.andThen_ok, hrun]
  show K (a.put o.dst undef) _
  rw [hN]
  have := HH.puts i hi j vs
  rw [putA_eq vs cs j hj] at this
  exact hK a _ (h _ this)
theorem evS_box (HH : OwnS S As w0 W) (hgd : o.guard = none) {cs : Array Value} {T : TypeId}
    (hrun : (execOp a.eval o).run P W = .ok (.value (.pointer (some ⟨W.heap.size, 0, none⟩))) (W.alloc (.cells cs T (0, 0))))
    (h : ∀ g w', g = W.heap.size → OwnS S (As ++ [Sep.blk g cs T]) w0 w' → wpList P ops Q rest (a.put o.dst (.pointer (some ⟨g, 0, none⟩))) w') : wpList P ops Q (o :: rest) a W :=
  Kd.event_run hgd hrun (h _ _ rfl (HH.new cs T))
theorem ownS_call {f : FuncId} {args : Array Value} {R : Ending → World → Prop} (h : OwnS S As w0 W) (k : OwnS S As w0 W → Calls P f args W R) : Calls P f args W R := k h
theorem ownS_meth {f : FuncId} {args : Array Value} {R : Ending → World → Prop} (h : OwnS S As w0 W) (i : Nat) {A : Asr} (hi : As[i]? = some A)
    (k : ∀ T : Nat → Prop, OwnS T [A] W W → (∀ q, T q → Uni S w0 W q) → (∀ A' Bs w', OwnS T (A' :: Bs) W w' → OwnS S (As.set i A' ++ Bs) w0 w') → Calls P f args W R) : Calls P f args W R := by
  obtain ⟨h0, F, hF⟩ := h
  exact k _ (OwnS.start (hF i A hi) (fun q hq => hq.1.2)) (fun q hq => hq.1) (fun A' Bs w' hu => ownS_use h0 hF i (List.getElem?_eq_some_iff.1 hi).1 hu)
variable {α : Type}
end
theorem jjA {α : Type} (l : List α) (i : Nat) (a : α) : l.toArray.setIfInBounds i a = (l.set i a).toArray := List.setIfInBounds_toArray l i a
theorem jjZ {α : Type} {x : α} {xs : List α} {a : α} : (x :: xs).set 0 a = a :: xs := rfl
theorem jjS {α : Type} {x : α} {xs : List α} {i : Nat} {a : α} : (x :: xs).set (i + 1) a = x :: xs.set i a := rfl
theorem otk {P : Program} {md : Region.Mode} {ops : Array Oper} {Q : Exit → Act → World → Prop} {S : World → Prop} {i : Nat} {oi : Oper} {v : Value} {fuel : Nat} {listed : Array Bool} {a : Act} {w : World}
    (h : wpAnyH P md ops Q S fuel (listed.setIfInBounds i true) (a.put oi.dst v) w)
    (hi : ops[i]? = some oi := by simp only [List.getElem?_toArray, List.getElem?_cons_succ, List.getElem?_cons_zero]; rfl)
    (hs : Region.noSelect ops = true := by kernel_rfl) (hf : Region.free md ops listed i = true := by kernel_rfl) (hr : (Region.ready md ops listed).contains i = true := by kernel_rfl)
    (hQ : ∀ c a w, Q (.panic c) (a.put oi.dst v) w → Q (.panic c) a w := by exact fun _ _ _ h => h) (hg : Region.wanted oi (yielded ops a.tmps) = true := by rfl)
    (hy : ∀ w, S w → (execOp a.eval oi).run P w = .ok (.value v) w := by (intro w hSw; (try dsimp only at hSw); go_simp; try with_reducible rfl)) (hS : S w := by assumption) : wpAnyH P md ops Q S (fuel + 1) listed a w := wpAnyH_take hi hs hf hr hQ (Or.inl ⟨hg, hy⟩) hS h
theorem oh {S : Nat → Prop} {As : List Asr} {w0 W0 W : World} (h : Aside0 (OwnS S As w0 W0)) (hW : Below W0.heap.size W0 W := by first | with_reducible exact Below.refl _ _ | ((with_reducible repeat first | refine below_alloc ?_ _ | refine pw_below_drewN ?_ _ | refine below_drew ?_); with_reducible exact Below.refl _ _)) : OwnS S As w0 W := h.out.step hW
end Go.Proofs.Ytbaknecnkipooaa.Obj
