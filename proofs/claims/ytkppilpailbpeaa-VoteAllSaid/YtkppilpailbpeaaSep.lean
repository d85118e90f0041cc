/- A heap, assertion by assertion: each owns blocks of its own, none another's. -/
import Derived.Test.YtkppilpailbpeaaWWords
import Derived.Laws.Rows
import Derived.Deep.MidRow
namespace Go.Proofs.Ytkppilpailbpeaa.Sep
open Go Go.RowKit Go.Proofs.YtkppilpailbpeaaW.PrintWords
set_option linter.unusedVariables false
set_option linter.unusedSimpArgs false

/-- an assertion on a world and on the blocks that it owns -/
structure Asr where
  P : World → (Nat → Prop) → Prop
  mono : ∀ {w : World} {S S' : Nat → Prop}, (∀ k, S k → S' k) → P w S → P w S'
  move : ∀ {w w' : World} {S : Nat → Prop}, (∀ k, S k → k < w.heap.size → w'.heap[k]? = w.heap[k]?) → P w S → P w' S
/-- a block, known whole -/
def blk (g : Nat) (cs : Array Value) (T : TypeId) : Asr where
  P := fun w S => w.heap[g]? = some (.cells cs T (0, 0)) ∧ S g
  mono := fun h a => ⟨a.1, h _ a.2⟩
  move := fun h a => ⟨(h _ a.2 (blk_lt a.1)).trans a.1, a.2⟩
/-- a row of its own -/
def row {α : Type} (d : Kd α) (e : Nat) (v : Value) (xs : List α) : Asr where
  P := fun w S => d.R e w 0 S v xs
  mono := fun h a => Kd.R_mono a h
  move := fun h a => Kd.R_step a h
/-- a value whose rows are its own -/
def val {α : Type} (d : Kd α) (x : α) (cs : List Value) : Asr where
  P := fun w S => d.M w 0 S x cs
  mono := fun h a => d.M_mono h a
  move := fun h a => Kd.M_step a h
/-- a row that is read: one that came in (A0, c0, xs0), or one of its own -/
def rdr {α : Type} (A0 : Option Addr) (c0 : Nat) (xs0 : List α) (d : Kd α) (e : Nat) (A : Option Addr) (c : Nat) (xs : List α) : Asr where
  P := fun w S => (A = A0 ∧ c = c0 ∧ xs = xs0) ∨ d.R e w 0 S (.slice A xs.length c) xs
  mono := fun h a => a.elim .inl (fun a => .inr (Kd.R_mono a h))
  move := fun h a => a.elim .inl (fun a => .inr (Kd.R_step a h))
def emp : Asr where
  P := fun _ _ => True
  mono := fun _ a => a
  move := fun _ a => a
/-- two that share their blocks -/
def both (A B : Asr) : Asr where
  P := fun w S => A.P w S ∧ B.P w S
  mono := fun {w S S'} h (a : A.P w S ∧ B.P w S) => ⟨A.mono h a.1, B.mono h a.2⟩
  move := fun {w w' S} h (a : A.P w S ∧ B.P w S) => ⟨A.move h a.1, B.move h a.2⟩
def Fp (w0 w : World) (F : Nat → Nat) (i k : Nat) : Prop := (w0.heap.size ≤ k ∧ k < w.heap.size) ∧ F k = i
/-- what was made since w0: assertion by assertion, each with blocks of its own -/
def Own (As : List Asr) (w0 w : World) : Prop := Below w0.heap.size w0 w ∧ ∃ F : Nat → Nat, ∀ (i : Nat) (A : Asr), As[i]? = some A → A.P w (Fp w0 w F i)
/-- nothing but the blocks in S has been written -/
structure Frm (S : Nat → Prop) (w w' : World) : Prop where
  os : w'.os = w.os
  tape : w'.tape = w.tape
  output : w'.output = w.output
  size : w.heap.size ≤ w'.heap.size
  block : ∀ k, k < w.heap.size → ¬ S k → w'.heap[k]? = w.heap[k]?
theorem Frm.below {S : Nat → Prop} {B : Nat} {w0 w w' : World} (h : Frm S w w') (hb : Below B w0 w) (hB : B ≤ w.heap.size) (hS : ∀ k, S k → B ≤ k) : Below B w0 w' :=
  ⟨h.os.trans hb.os, h.tape.trans hb.tape, h.output.trans hb.output, Nat.le_trans hb.size h.size, fun k hk => (h.block k (by omega) (fun hs => by have := hS k hs; omega)).trans (hb.block k hk)⟩
theorem Frm.grown {w w' : World} {r : Option Nat} (h : w.grownBy w' r) {S : Nat → Prop} (hS : ∀ k, r = some k → S k) : Frm S w w' :=
  ⟨h.os, h.tape, h.output, h.size, fun k hk hn => h.block k hk (fun e => hn (hS k e.symm))⟩
theorem Frm.set (w : World) (g j : Nat) (u : Value) : Frm (· = g) w (w.setCell ⟨g, j, none⟩ u) := by
  have hb := (Below.refl 0 w).setCell (p := ⟨g, j, none⟩) (Nat.zero_le _) u
  exact ⟨hb.os, hb.tape, hb.output, hb.size, fun k _ hk => Below.heap_setCell w ⟨g, j, none⟩ u k hk⟩
theorem Frm.trans {S : Nat → Prop} {a b c : World} (h : Frm S a b) (k : Frm S b c) : Frm S a c :=
  ⟨k.os.trans h.os, k.tape.trans h.tape, k.output.trans h.output, Nat.le_trans h.size k.size, fun i hi hn => (k.block i (by have := h.size; omega) hn).trans (h.block i hi hn)⟩
theorem Frm.refl (S : Nat → Prop) (w : World) : Frm S w w := ⟨rfl, rfl, rfl, Nat.le_refl _, fun _ _ _ => rfl⟩
theorem Frm.alloc {S : Nat → Prop} {w w' : World} (h : Frm S w w') (o : Obj) : Frm S w (w'.alloc o) := by
  have hb := below_alloc (Below.refl w'.heap.size w') o
  exact ⟨hb.os.trans h.os, hb.tape.trans h.tape, hb.output.trans h.output, Nat.le_trans h.size hb.size, fun k hk hn => (hb.block k (by have := h.size; omega)).trans (h.block k hk hn)⟩

theorem Own.start (w : World) : Own [] w w := ⟨Below.refl _ _, fun _ => 0, fun i A h => by simp at h⟩
theorem Own.size {As : List Asr} {w0 w : World} (h : Own As w0 w) : w0.heap.size ≤ w.heap.size := h.1.size
theorem Own.bel {As : List Asr} {w0 w : World} (h : Own As w0 w) : Below w0.heap.size w0 w := h.1
theorem Own.get {As : List Asr} {w0 w : World} (h : Own As w0 w) (i : Nat) {A : Asr} (hi : As[i]? = some A) : A.P w (fun k => w0.heap.size ≤ k ∧ k < w.heap.size) := by
  obtain ⟨_, F, hF⟩ := h
  exact A.mono (fun k hk => hk.1) (hF i A hi)
theorem Own.blk {As : List Asr} {w0 w : World} (h : Own As w0 w) (i : Nat) {g : Nat} {cs : Array Value} {T : TypeId} (hi : As[i]? = some (blk g cs T)) : w.heap[g]? = some (.cells cs T (0, 0)) := (h.get i hi).1
theorem Own.ge {As : List Asr} {w0 w : World} (h : Own As w0 w) (i : Nat) {g : Nat} {cs : Array Value} {T : TypeId} (hi : As[i]? = some (Sep.blk g cs T)) : w0.heap.size ≤ g := (h.get i hi).2.1
theorem Own.ne {As : List Asr} {w0 w : World} (h : Own As w0 w) (i j : Nat) {g g' : Nat} {cs cs' : Array Value} {T T' : TypeId} (hij : i ≠ j) (hi : As[i]? = some (Sep.blk g cs T)) (hj : As[j]? = some (Sep.blk g' cs' T')) : g ≠ g' := by
  obtain ⟨_, F, hF⟩ := h
  rintro rfl
  exact hij ((hF i _ hi).2.2.symm.trans (hF j _ hj).2.2)
theorem Own.row {α : Type} {As : List Asr} {w0 w : World} (h : Own As w0 w) (i : Nat) {d : Kd α} {e : Nat} {v : Value} {xs : List α} (hi : As[i]? = some (Sep.row d e v xs)) : d.R e w 0 (fun k => w0.heap.size ≤ k ∧ k < w.heap.size) v xs := h.get i hi
theorem Own.C {α : Type} {As : List Asr} {w0 w : World} (h : Own As w0 w) (i : Nat) {d : Kd α} {e : Nat} {A : Option Addr} {n c : Nat} {xs : List α} (hi : As[i]? = some (Sep.row d e (.slice A n c) xs)) : d.C w A xs.length xs := (Kd.R_reads' (h.row i hi)).2.2
theorem Own.rd {α : Type} {As : List Asr} {b w0 w : World} {A0 : Option Addr} {c0 : Nat} {xs0 : List α} (h : Own As w0 w) {d : Kd α} (hC : d.C b A0 xs0.length xs0) (hb : Below b.heap.size b w) (i : Nat) {e : Nat} {A : Option Addr} {c : Nat} {xs : List α} (hi : As[i]? = some (rdr A0 c0 xs0 d e A c xs)) : d.C w A xs.length xs := by
  rcases h.get i hi with ⟨rfl, rfl, rfl⟩ | h1
  · exact Kd.C_below hC hb
  · exact (Kd.R_reads' h1).2.2
theorem Own.rdR {α : Type} {As : List Asr} {w0 w : World} {A0 : Option Addr} {c0 : Nat} {xs0 : List α} (h : Own As w0 w) {d : Kd α} {e : Nat} (hR : d.R e w0 0 (fun _ => True) (.slice A0 xs0.length c0) xs0) (i : Nat) {A : Option Addr} {c : Nat} {xs : List α} (hi : As[i]? = some (rdr A0 c0 xs0 d e A c xs)) : d.R e w 0 (fun _ => True) (.slice A xs.length c) xs := by
  rcases h.get i hi with ⟨rfl, rfl, rfl⟩ | h1
  · exact Kd.R_below hR h.bel
  · exact Kd.R_mono h1 (fun _ _ => trivial)
theorem Own.len {α : Type} {As : List Asr} {w0 w : World} (h : Own As w0 w) (i : Nat) {d : Kd α} {e : Nat} {A : Option Addr} {n c : Nat} {xs : List α} (hi : As[i]? = some (Sep.row d e (.slice A n c) xs)) : n = xs.length := (Kd.R_reads' (h.row i hi)).1
theorem Own.cap {α : Type} {As : List Asr} {w0 w : World} (h : Own As w0 w) (i : Nat) {d : Kd α} {e : Nat} {A : Option Addr} {n c : Nat} {xs : List α} (hi : As[i]? = some (Sep.row d e (.slice A n c) xs)) : n ≤ c := (Kd.R_reads' (h.row i hi)).2.1
theorem Own.slice {α : Type} {As : List Asr} {w0 w : World} (h : Own As w0 w) (i : Nat) {d : Kd α} {e : Nat} {v : Value} {xs : List α} (hi : As[i]? = some (Sep.row d e v xs)) : ∃ A c, v = .slice A xs.length c := Kd.R_slice (h.row i hi)

/-- what is there stays, whatever is made -/
theorem Own.step {As : List Asr} {w0 w w' : World} (h : Own As w0 w) (hb : Below w.heap.size w w') : Own As w0 w' := by
  obtain ⟨h0, F, hF⟩ := h
  refine ⟨below_then h0 h0.size hb, F, fun i A hi => ?_⟩
  refine A.mono (fun k hk => ⟨⟨hk.1.1, Nat.lt_of_lt_of_le hk.1.2 hb.size⟩, hk.2⟩) (A.move (fun k hk hlt => hb.block k hlt) (hF i A hi))
theorem Own.drew {As : List Asr} {w0 w : World} (h : Own As w0 w) : Own As w0 w.drew := h.step (below_drew (Below.refl _ _))
theorem Own.drewN {As : List Asr} {w0 w : World} (h : Own As w0 w) (n : Nat) : Own As w0 (w.drewN n) := h.step (pw_below_drewN (Below.refl _ _) n)
theorem Own.alloc {As : List Asr} {w0 w : World} (h : Own As w0 w) (o : Obj) : Own As w0 (w.alloc o) := h.step (below_alloc (Below.refl _ _) o)
/-- one more, made since -/
theorem Own.add {As : List Asr} {w0 w w' : World} (h : Own As w0 w) (hb : Below w.heap.size w w') {B : Asr} (hB : B.P w' (fun k => w.heap.size ≤ k ∧ k < w'.heap.size)) : Own (As ++ [B]) w0 w' := by
  obtain ⟨h0, F, hF⟩ := h
  refine ⟨below_then h0 h0.size hb, fun k => if k < w.heap.size then F k else As.length, fun i A hi => ?_⟩
  rcases Nat.lt_or_ge i As.length with hlt | hge
  · rw [List.getElem?_append_left hlt] at hi
    refine A.mono (fun k hk => ?_) (A.move (fun k hk hlt => hb.block k hlt) (hF i A hi))
    exact ⟨⟨hk.1.1, Nat.lt_of_lt_of_le hk.1.2 hb.size⟩, (if_pos hk.1.2).trans hk.2⟩
  · rw [List.getElem?_append_right hge] at hi
    have hz : i - As.length = 0 := by
      have := (List.getElem?_eq_some_iff.1 hi).1
      simp at this
      omega
    rw [hz] at hi
    simp at hi
    subst hi
    refine B.mono (fun k hk => ?_) hB
    exact ⟨⟨Nat.le_trans h0.size hk.1, hk.2⟩, (if_neg (by omega)).trans (by omega)⟩
theorem Own.new {As : List Asr} {w0 w : World} (h : Own As w0 w) (cs : Array Value) (T : TypeId) : Own (As ++ [Sep.blk w.heap.size cs T]) w0 (w.alloc (.cells cs T (0, 0))) :=
  h.add (below_alloc (Below.refl _ _) _) ⟨blk_new w _, Nat.le_refl _, by simp⟩
/-- one is changed, within its own blocks and new ones -/
theorem own_modF {As : List Asr} {w0 w w' : World} {F : Nat → Nat} (h0 : Below w0.heap.size w0 w) (hF : ∀ (i : Nat) (A : Asr), As[i]? = some A → A.P w (Fp w0 w F i)) (i : Nat) {A : Asr} (hi : As[i]? = some A) (A' : Asr)
    (hf : Frm (Fp w0 w F i) w w') (hp : A'.P w' (fun k => Fp w0 w F i k ∨ (w.heap.size ≤ k ∧ k < w'.heap.size))) : Own (As.set i A') w0 w' := by
  refine ⟨hf.below h0 h0.size (fun k hk => hk.1.1), fun k => if k < w.heap.size then F k else i, fun j B hj => ?_⟩
  by_cases e : j = i
  · subst e
    have hlt := (List.getElem?_eq_some_iff.1 hi).1
    rw [List.getElem?_set_self hlt] at hj
    obtain rfl := Option.some.inj hj
    refine A'.mono (fun k hk => ?_) hp
    rcases hk with hk | hk
    · exact ⟨⟨hk.1.1, Nat.lt_of_lt_of_le hk.1.2 hf.size⟩, (if_pos hk.1.2).trans hk.2⟩
    · exact ⟨⟨Nat.le_trans h0.size hk.1, hk.2⟩, if_neg (by omega)⟩
  · rw [List.getElem?_set_ne (fun e' => e e'.symm)] at hj
    refine B.mono (fun k hk => ?_) (B.move (fun k hk hlt => hf.block k hlt (fun hk' => e (hk.2.symm.trans hk'.2))) (hF j B hj))
    exact ⟨⟨hk.1.1, Nat.lt_of_lt_of_le hk.1.2 hf.size⟩, (if_pos hk.1.2).trans hk.2⟩
theorem Own.mod {As : List Asr} {w0 w w' : World} (h : Own As w0 w) (i : Nat) {A : Asr} (hi : As[i]? = some A) (A' : Asr)
    (hs : ∀ S : Nat → Prop, A.P w S → Frm S w w' ∧ A'.P w' (fun k => S k ∨ (w.heap.size ≤ k ∧ k < w'.heap.size))) : Own (As.set i A') w0 w' := by
  obtain ⟨h0, F, hF⟩ := h
  obtain ⟨hf, hp⟩ := hs _ (hF i A hi)
  exact own_modF h0 hF i hi A' hf hp
/-- two become one, within their own blocks and new ones -/
theorem own_mod2F {As : List Asr} {w0 w w' : World} {F : Nat → Nat} (h0 : Below w0.heap.size w0 w) (hF : ∀ (i : Nat) (A : Asr), As[i]? = some A → A.P w (Fp w0 w F i)) (i j : Nat) (hij : i ≠ j) {A B : Asr} (hi : As[i]? = some A) (hj : As[j]? = some B) (A' : Asr)
    (hf : Frm (fun k => Fp w0 w F i k ∨ Fp w0 w F j k) w w') (hp : A'.P w' (fun k => (Fp w0 w F i k ∨ Fp w0 w F j k) ∨ (w.heap.size ≤ k ∧ k < w'.heap.size))) : Own ((As.set i A').set j emp) w0 w' := by
  refine ⟨hf.below h0 h0.size (fun k hk => hk.elim (fun h => h.1.1) (fun h => h.1.1)), fun k => if k < w.heap.size then (if F k = j then i else F k) else i, fun q C hq => ?_⟩
  have hli := (List.getElem?_eq_some_iff.1 hi).1
  have hlj := (List.getElem?_eq_some_iff.1 hj).1
  by_cases ej : q = j
  · subst ej
    rw [List.getElem?_set_self (by simpa using hlj)] at hq
    obtain rfl := Option.some.inj hq
    trivial
  · rw [List.getElem?_set_ne (fun e' => ej e'.symm)] at hq
    by_cases e : q = i
    · subst e
      rw [List.getElem?_set_self hli] at hq
      obtain rfl := Option.some.inj hq
      refine A'.mono (fun k hk => ?_) hp
      rcases hk with (hk | hk) | hk
      · exact ⟨⟨hk.1.1, Nat.lt_of_lt_of_le hk.1.2 hf.size⟩, (if_pos hk.1.2).trans ((if_neg (by rw [hk.2]; exact hij)).trans hk.2)⟩
      · exact ⟨⟨hk.1.1, Nat.lt_of_lt_of_le hk.1.2 hf.size⟩, (if_pos hk.1.2).trans (if_pos hk.2)⟩
      · exact ⟨⟨Nat.le_trans h0.size hk.1, hk.2⟩, if_neg (by omega)⟩
    · rw [List.getElem?_set_ne (fun e' => e e'.symm)] at hq
      refine C.mono (fun k hk => ?_) (C.move (fun k hk hlt => hf.block k hlt (fun hk' => hk'.elim (fun h => e (hk.2.symm.trans h.2)) (fun h => ej (hk.2.symm.trans h.2)))) (hF q C hq))
      refine ⟨⟨hk.1.1, Nat.lt_of_lt_of_le hk.1.2 hf.size⟩, ?_⟩
      exact (if_pos hk.1.2).trans ((if_neg (by rw [hk.2]; exact ej)).trans hk.2)
theorem fp_apart {w0 w : World} {F : Nat → Nat} {i j : Nat} (hij : i ≠ j) {k : Nat} (hi : Fp w0 w F i k) (hj : Fp w0 w F j k) : False := hij (hi.2.symm.trans hj.2)
theorem Own.drop {As : List Asr} {w0 w : World} (h : Own As w0 w) (i : Nat) {A : Asr} (hi : As[i]? = some A) : Own (As.set i emp) w0 w :=
  h.mod i hi emp (fun S _ => ⟨Frm.refl _ _, trivial⟩)
theorem Own.weak {As : List Asr} {w0 w : World} (h : Own As w0 w) (i : Nat) {A A' : Asr} (hi : As[i]? = some A) (hA : ∀ S, A.P w S → A'.P w S) : Own (As.set i A') w0 w :=
  h.mod i hi A' (fun S hp => ⟨Frm.refl _ _, A'.mono (fun k hk => .inl hk) (hA S hp)⟩)
theorem Own.addE {α : Type} {As : List Asr} {w0 w : World} (h : Own As w0 w) (d : Kd α) (A0 : Option Addr) (c0 : Nat) (xs0 : List α) (e : Nat) : Own (As ++ [rdr A0 c0 xs0 d e A0 c0 xs0]) w0 w := h.add (Below.refl _ _) (.inl ⟨rfl, rfl, rfl⟩)
theorem Own.rowr {α : Type} {As : List Asr} {w0 w : World} (h : Own As w0 w) (A0 : Option Addr) (c0 : Nat) (xs0 : List α) (i : Nat) {d : Kd α} {e : Nat} {A : Option Addr} {c : Nat} {xs : List α} (hi : As[i]? = some (Sep.row d e (.slice A xs.length c) xs)) : Own (As.set i (rdr A0 c0 xs0 d e A c xs)) w0 w := h.weak i hi (fun S hp => .inr hp)
theorem Own.pick {As : List Asr} {w0 w : World} (h : Own As w0 w) (i : Nat) {B : Asr} (hi : As[i]? = some B) : Own [B] w0 w := by
  obtain ⟨h0, F, hF⟩ := h
  refine ⟨h0, fun k => if F k = i then 0 else 1, fun q A hq => ?_⟩
  have hz : q = 0 := by
    have := (List.getElem?_eq_some_iff.1 hq).1
    simp at this
    exact this
  subst hz
  simp at hq
  subst hq
  exact B.mono (fun k hk => ⟨hk.1, if_pos hk.2⟩) (hF i B hi)
/-- one more, out of a call -/
theorem Own.join {As : List Asr} {w0 w w' : World} {B : Asr} (h : Own As w0 w) (h' : Own [B] w w') : Own (As ++ [B]) w0 w' := h.add h'.bel (h'.get 0 rfl)
theorem Own.pick3 {As : List Asr} {w0 w : World} (h : Own As w0 w) (i j k : Nat) (hij : i ≠ j) (hik : i ≠ k) (hjk : j ≠ k) {A B C : Asr} (hi : As[i]? = some A) (hj : As[j]? = some B) (hk : As[k]? = some C) : Own [A, B, C] w0 w := by
  obtain ⟨h0, F, hF⟩ := h
  refine ⟨h0, fun x => if F x = i then 0 else if F x = j then 1 else if F x = k then 2 else 3, fun q D hq => ?_⟩
  match q, hq with
  | 0, hq =>
    obtain rfl : A = D := by simpa using hq
    exact A.mono (fun x hx => ⟨hx.1, if_pos hx.2⟩) (hF i A hi)
  | 1, hq =>
    obtain rfl : B = D := by simpa using hq
    exact B.mono (fun x hx => ⟨hx.1, (if_neg (by rw [hx.2]; exact fun e => hij e.symm)).trans (if_pos hx.2)⟩) (hF j B hj)
  | 2, hq =>
    obtain rfl : C = D := by simpa using hq
    exact C.mono (fun x hx => ⟨hx.1, (if_neg (by rw [hx.2]; exact fun e => hik e.symm)).trans ((if_neg (by rw [hx.2]; exact fun e => hjk e.symm)).trans (if_pos hx.2))⟩) (hF k C hk)
  | q + 3, hq => simp at hq
/-- what a call leaves of its own, to what is there -/
theorem Own.joinL {As Bs : List Asr} {w0 w w' : World} (h : Own As w0 w) (h' : Own Bs w w') : Own (As ++ Bs) w0 w' := by
  obtain ⟨h0, F, hF⟩ := h
  obtain ⟨h1, G, hG⟩ := h'
  refine ⟨below_then h0 h0.size h1, fun k => if k < w.heap.size then (if F k < As.length then F k else As.length + Bs.length) else As.length + G k, fun i A hi => ?_⟩
  rcases Nat.lt_or_ge i As.length with hlt | hge
  · rw [List.getElem?_append_left hlt] at hi
    refine A.mono (fun k hk => ?_) (A.move (fun k hk hlt => h1.block k hlt) (hF i A hi))
    exact ⟨⟨hk.1.1, Nat.lt_of_lt_of_le hk.1.2 h1.size⟩, (if_pos hk.1.2).trans ((if_pos (by rw [hk.2]; exact hlt)).trans hk.2)⟩
  · rw [List.getElem?_append_right hge] at hi
    refine A.mono (fun k hk => ?_) (hG _ A hi)
    exact ⟨⟨Nat.le_trans h0.size hk.1.1, hk.1.2⟩, (if_neg (by have := hk.1.1; omega)).trans (by rw [hk.2]; omega)⟩
theorem Own.take {As : List Asr} {w0 w : World} (n : Nat) (h : Own As w0 w) : Own (As.take n) w0 w := by
  obtain ⟨h0, F, hF⟩ := h
  refine ⟨h0, F, fun i A hi => hF i A ?_⟩
  rw [List.getElem?_take] at hi
  split at hi
  · exact hi
  · cases hi

/-! ### cells -/
def putA (cs : Array Value) (j : Nat) : List Value → Array Value
  | [] => cs
  | v :: r => putA (cs.setIfInBounds j v) (j + 1) r
theorem blk_sets {g : Nat} {T : TypeId} : ∀ (vs : List Value) (w : World) (cs : Array Value) (j : Nat), w.heap[g]? = some (.cells cs T (0, 0)) → (w.setCells g j vs).heap[g]? = some (.cells (putA cs j vs) T (0, 0)) ∧ Frm (· = g) w (w.setCells g j vs)
  | [], w, cs, j, h => ⟨h, Frm.refl _ _⟩
  | v :: r, w, cs, j, h => by
    have := blk_sets r (w.setCell ⟨g, j, none⟩ v) (cs.setIfInBounds j v) (j + 1) (blk_set h j v)
    exact ⟨this.1, (Frm.set w g j v).trans this.2⟩
theorem Own.put {As : List Asr} {w0 w w' : World} (h : Own As w0 w) (i : Nat) {g : Nat} {cs : Array Value} {T : TypeId} (hi : As[i]? = some (Sep.blk g cs T)) (cs' : Array Value) (hg : w'.heap[g]? = some (.cells cs' T (0, 0))) (hf : Frm (· = g) w w') : Own (As.set i (Sep.blk g cs' T)) w0 w' :=
  h.mod i hi _ (fun S hp => ⟨⟨hf.os, hf.tape, hf.output, hf.size, fun k hk hn => hf.block k hk (fun e => hn (e ▸ hp.2))⟩, hg, .inl hp.2⟩)
theorem Own.puts {As : List Asr} {w0 w : World} (h : Own As w0 w) (i : Nat) {g : Nat} {cs : Array Value} {T : TypeId} (hi : As[i]? = some (Sep.blk g cs T)) (j : Nat) (vs : List Value) : Own (As.set i (Sep.blk g (putA cs j vs) T)) w0 (w.setCells g j vs) :=
  h.put i hi _ (blk_sets vs w cs j (h.blk i hi)).1 (blk_sets vs w cs j (h.blk i hi)).2
def putL (l : List Value) (j : Nat) (vs : List Value) : List Value := l.take j ++ (vs ++ l.drop (j + vs.length))
theorem putA_eq : ∀ (vs : List Value) (cs : Array Value) (j : Nat), j + vs.length ≤ cs.size → putA cs j vs = (putL cs.toList j vs).toArray
  | [], cs, j, h => by simp [putA, putL]
  | v :: r, cs, j, h => by
    have hs : (cs.setIfInBounds j v).size = cs.size := Array.size_setIfInBounds ..
    have hj : j < cs.size := by simp at h; omega
    have ih := putA_eq r (cs.setIfInBounds j v) (j + 1) (by rw [hs]; simp at h; omega)
    rw [putA, ih]
    congr 1
    unfold putL
    rw [Array.toList_setIfInBounds]
    have hjl : j < cs.toList.length := by simpa using hj
    rw [List.take_set, List.take_succ_eq_append_getElem hjl, List.drop_set_of_lt (by omega)]
    have hlen : (cs.toList.take j).length = j := by simp; omega
    have e : (cs.toList.take j ++ [cs.toList[j]]).set j v = cs.toList.take j ++ [v] := by
      rw [List.set_append, if_neg (by omega), hlen, Nat.sub_self, List.set_cons_zero]
    rw [e]
    simp [Nat.add_assoc, Nat.add_comm 1]
section
variable {P : Program} {ops : Array Oper} {rest : List Oper} {o : Oper} {a : Act} {Q : Exit → Act → World → Prop} {As : List Asr} {w0 W : World}
/-- a store into a block of its own: the world behind it a letter -/
theorem ev_store (HH : Own As w0 W) (i : Nat) (hgd : o.guard = none) (hN : o.dst = none) {t : TypeId} {p x : Operand} (ho : o.op = .store t p x) {g j : Nat} {cs : Array Value} {T : TypeId} (hi : As[i]? = some (blk g cs T)) (hp : a.eval p = .pointer (some ⟨g, j, none⟩))
    (u : Value) (hx : a.eval x = u) (vs : List Value) (hu : u.cells.toList = vs) (ht : (P.info? t).map (·.size) = some vs.length) (hj : j + vs.length ≤ cs.size) (h1 : ∀ q ∈ vs, q.oneCell' = true)
    (h : ∀ w', Own (As.set i (blk g (putL cs.toList j vs).toArray T)) w0 w' → wpList P ops Q rest a w') : wpList P ops Q (o :: rest) a W := by
  refine wpList_plain hgd fun K hK => ?_
  have hrun : (Instr.storeAt t (.pointer (some ⟨g, j, none⟩)) u).run P W = .ok () (W.setCells g j vs) :=
    run_store_run t u vs (HH.blk i hi) hu ht hj h1
  unfold Oper.wp execOp
  simp only [ho, hp, hx, Sem.run_bind, Sem.run_pure, Result.andThen_ok, hrun]
  show K (a.put o.dst undef) _
  rw [hN]
  have := HH.puts i hi j vs
  rw [putA_eq vs cs j hj] at this
  exact hK a _ (h _ this)
/-- a block is made: its number and the world behind it as letters -/
theorem ev_box (HH : Own As w0 W) (hgd : o.guard = none) {cs : Array Value} {T : TypeId}
    (hrun : (execOp a.eval o).run P W = .ok (.value (.pointer (some ⟨W.heap.size, 0, none⟩))) (W.alloc (.cells cs T (0, 0))))
    (h : ∀ g w', g = W.heap.size → Own (As ++ [blk g cs T]) w0 w' → wpList P ops Q rest (a.put o.dst (.pointer (some ⟨g, 0, none⟩))) w') : wpList P ops Q (o :: rest) a W :=
  Kd.event_run hgd hrun (h _ _ rfl (HH.new cs T))
theorem ev_lit (HH : Own As w0 W) (hgd : o.guard = none) {cs : Array Value} {T : TypeId} {n : Nat}
    (hrun : (execOp a.eval o).run P W = .ok (.value (.slice (some ⟨W.heap.size, 0, none⟩) n n)) (W.alloc (.cells cs T (0, 0))))
    (h : ∀ g w', g = W.heap.size → Own (As ++ [blk g cs T]) w0 w' → wpList P ops Q rest (a.put o.dst (.slice (some ⟨g, 0, none⟩) n n)) w') : wpList P ops Q (o :: rest) a W :=
  Kd.event_run hgd hrun (h _ _ rfl (HH.new cs T))
/-- the heap ahead of a call, by its text -/
theorem own_call {f : FuncId} {args : Array Value} {R : Ending → World → Prop} (h : Own As w0 W) (k : Own As w0 W → Calls P f args W R) : Calls P f args W R := k h
/-- a struct is read out of a block -/
theorem ev_load {w : World} {g : Nat} {cs : Array Value} {T : TypeId} (hg : w.heap[g]? = some (.cells cs T (0, 0))) (j n : Nat) (vs : List Value) (hvs : (cs.extract j (j + n)).toList = vs) (hgd : o.guard = none) {t : TypeId} {p : Operand} (ho : o.op = .load t p) (hp : a.eval p = .pointer (some ⟨g, j, none⟩)) {d : TypeDesc} (hu : P.underlying t = some d) (hd : d.isRow = true) (hn : (P.info? t).map (·.size) = some vs.length)
    (h : wpList P ops Q rest (a.put o.dst (.agg vs.toArray)) w) : wpList P ops Q (o :: rest) a w := by
  subst hvs
  exact wpList_load_mid hgd t p ho g j hp _ d (World.rangeAt_of_block hg j n) hu hd hn h
/-- a cell is read out of a block -/
theorem run_one {w : World} {x : Addr} {t : TypeId} {v : Value} {d : TypeDesc} (hc : w.cell? x = some v) (hu : P.underlying t = some d) (hd : d.isRow = false) : (Instr.loadAt t (.pointer (some x))).run P w = .ok v w := by
  have hagg : (isAgg t).run P w = .ok false w := by
    unfold isAgg
    rw [Sem.run_bind, run_underlying hu w]
    cases d <;> simp_all
  have hl : (load x).run P w = .ok v w := by simp [load, Sem.run, hc]
  simp only [Instr.loadAt, Instr.sureAddr, loadVar, Sem.run_bind, Sem.run_pure, Result.andThen_ok, hagg]
  simpa using hl
theorem ev_cell {w : World} {g j : Nat} {v : Value} (hc : w.cell? ⟨g, j, none⟩ = some v) (hgd : o.guard = none) {t : TypeId} {p : Operand} (ho : o.op = .load t p) (hp : a.eval p = .pointer (some ⟨g, j, none⟩)) {d : TypeDesc} (hu : P.underlying t = some d) (hd : d.isRow = false)
    (h : wpList P ops Q rest (a.put o.dst v) w) : wpList P ops Q (o :: rest) a w := by
  refine wpList_plain hgd fun K hK => ?_
  unfold Oper.wp execOp
  simp only [ho, hp, Sem.run_bind, Sem.run_pure, Result.andThen_ok, run_one hc hu hd]
  exact hK _ _ h
end

/-! ### rows -/
section
variable {α : Type} {d : Kd α} {e : Nat} {w0 W : World} {v : Value} {xs ys : List α} {As : List Asr} {F : Nat → Nat}
theorem bound_new {w1 : World} {S : Nat → Prop} {v1 : Value} (h : d.R e w1 0 (fun k => S k ∨ W.heap.size ≤ k) v1 ys) : d.R e w1 0 (fun k => S k ∨ (W.heap.size ≤ k ∧ k < w1.heap.size)) v1 ys :=
  Kd.R_mono (Kd.R_bound h) (fun k hk => hk.1.elim .inl (fun h2 => .inr ⟨h2, hk.2.2.1⟩))
theorem grow_one {w1 : World} {v1 : Value} (h0 : Below w0.heap.size w0 W) (hF : ∀ (i : Nat) (A : Asr), As[i]? = some A → A.P W (Fp w0 W F i)) (i : Nat) (hi : As[i]? = some (Sep.row d e v xs)) (hg : W.grownBy w1 v.ownBlock) (hr : d.R e w1 0 (fun k => Fp w0 W F i k ∨ W.heap.size ≤ k) v1 ys) : Own (As.set i (Sep.row d e v1 ys)) w0 w1 :=
  own_modF h0 hF i hi _ (Frm.grown hg (fun k hk => (hF i _ hi : d.R e W 0 _ v xs).1 k hk)) (bound_new hr)
theorem grow_two {w1 : World} {v1 : Value} {B : Asr} (h0 : Below w0.heap.size w0 W) (hF : ∀ (i : Nat) (A : Asr), As[i]? = some A → A.P W (Fp w0 W F i)) (i j : Nat) (hij : i ≠ j) (hi : As[i]? = some (Sep.row d e v xs)) (hj : As[j]? = some B) (hg : W.grownBy w1 v.ownBlock) (hr : d.R e w1 0 (fun k => (Fp w0 W F i k ∨ Fp w0 W F j k) ∨ W.heap.size ≤ k) v1 ys) : Own ((As.set i (Sep.row d e v1 ys)).set j emp) w0 w1 :=
  own_mod2F h0 hF i j hij hi hj _ (Frm.grown hg (fun k hk => .inl ((hF i _ hi : d.R e W 0 _ v xs).1 k hk))) (bound_new hr)
end
section
variable {P : Program} {ops : Array Oper} {rest : List Oper} {o : Oper} {a : Act} {Q : Exit → Act → World → Prop} {As : List Asr} {w0 W : World} {α : Type}
/-- append(row i, x), x without rows of its own -/
theorem ev_append (d : Kd α) (HH : Own As w0 W) (i : Nat) (hgd : o.guard = none) (s x : Operand) (t e : TypeId) (z : Value) (bytes : Nat)
    (ho : o.op = .call { callee := .builtin .append, args := #[s, x], argTypes := #[t, t] })
    (ht : P.underlying t = some (.slice e)) (hinfo : (P.info? e).map (fun i => (i.zero, i.size, i.bytes)) = some (some z, d.sz, bytes)) (hz : z.cells.size = d.sz) (hs0 : 0 < d.sz) (hb0 : 0 < bytes)
    (v : Value) (xs : List α) (p : α) (cs : List Value) (hi : As[i]? = some (Sep.row d e v xs)) (hs : a.eval s = v) (hx : a.eval x = .slice (some ⟨W.heap.size, 0, none⟩) 1 1) (hp : ∀ S, d.M W 0 S p cs) (hl : (xs.length + 1) * bytes ≤ 140737488355328)
    (h : ∀ A c w1, Own (As.set i (Sep.row d e (.slice A (xs.length + 1) c) (xs ++ [p]))) w0 w1 → wpList P ops Q rest (a.put o.dst (.slice A (xs.length + 1) c)) w1) : wpList P ops Q (o :: rest) a (W.alloc (.cells cs.toArray e)) := by
  obtain ⟨h0, F, hF⟩ := HH
  refine Kd.R_append d (w0 := W) 0 hgd s x t e z bytes ho ht hinfo hz hs0 hb0 v xs p cs (fun k => Fp w0 W F i k ∨ W.heap.size ≤ k) (fun _ => False) hs hx (hp _) (fun _ hk => hk.elim) (fun k hk => .inr hk) (Kd.R_mono (hF i _ hi : d.R e W 0 _ v xs) (fun _ hk => .inl hk)) (Below.refl 0 W) (Nat.zero_le _) hl ?_
  intro v1 w1 hr hb hg hat
  obtain ⟨A, c, rfl⟩ := Kd.R_slice hr
  rw [List.length_append] at hr ⊢
  exact h A c w1 (grow_one h0 hF i hi hg hr)
theorem ev_append_step {Kc : Act → World → Prop} (d : Kd α) (HH : Own As w0 W) (i : Nat) (hw : Region.wanted o (yielded ops a.tmps) = true) (s x : Operand) (t e : TypeId) (z : Value) (bytes : Nat)
    (ho : o.op = .call { callee := .builtin .append, args := #[s, x], argTypes := #[t, t] })
    (ht : P.underlying t = some (.slice e)) (hinfo : (P.info? e).map (fun i => (i.zero, i.size, i.bytes)) = some (some z, d.sz, bytes)) (hz : z.cells.size = d.sz) (hs0 : 0 < d.sz) (hb0 : 0 < bytes)
    (v : Value) (xs : List α) (p : α) (cs : List Value) (hi : As[i]? = some (Sep.row d e v xs)) (hs : a.eval s = v) (hx : a.eval x = .slice (some ⟨W.heap.size, 0, none⟩) 1 1) (hp : ∀ S, d.M W 0 S p cs) (hl : (xs.length + 1) * bytes ≤ 140737488355328)
    (h : ∀ A c w1, Own (As.set i (Sep.row d e (.slice A (xs.length + 1) c) (xs ++ [p]))) w0 w1 → Kc (a.put o.dst (.slice A (xs.length + 1) c)) w1) :
    if Region.wanted o (yielded ops a.tmps) = true then Oper.wp P o a (W.alloc (.cells cs.toArray e)) Kc Q else Kc (a.put o.dst undef) (W.alloc (.cells cs.toArray e)) := by
  obtain ⟨h0, F, hF⟩ := HH
  refine Kd.R_append_step d (w0 := W) 0 hw s x t e z bytes ho ht hinfo hz hs0 hb0 v xs p cs (fun k => Fp w0 W F i k ∨ W.heap.size ≤ k) (fun _ => False) hs hx (hp _) (fun _ hk => hk.elim) (fun k hk => .inr hk) (Kd.R_mono (hF i _ hi : d.R e W 0 _ v xs) (fun _ hk => .inl hk)) (Below.refl 0 W) (Nat.zero_le _) hl ?_
  intro v1 w1 hr hb hg hat
  obtain ⟨A, c, rfl⟩ := Kd.R_slice hr
  rw [List.length_append] at hr ⊢
  exact h A c w1 (grow_one h0 hF i hi hg hr)
/-- append(row i, x), x a value of its own (j) -/
theorem ev_append_val (d : Kd α) (HH : Own As w0 W) (i j : Nat) (hij : i ≠ j) (hgd : o.guard = none) (s x : Operand) (t e : TypeId) (z : Value) (bytes : Nat)
    (ho : o.op = .call { callee := .builtin .append, args := #[s, x], argTypes := #[t, t] })
    (ht : P.underlying t = some (.slice e)) (hinfo : (P.info? e).map (fun i => (i.zero, i.size, i.bytes)) = some (some z, d.sz, bytes)) (hz : z.cells.size = d.sz) (hs0 : 0 < d.sz) (hb0 : 0 < bytes)
    (v : Value) (xs : List α) (p : α) (cs : List Value) (hi : As[i]? = some (Sep.row d e v xs)) (hj : As[j]? = some (Sep.val d p cs)) (hs : a.eval s = v) (hx : a.eval x = .slice (some ⟨W.heap.size, 0, none⟩) 1 1) (hl : (xs.length + 1) * bytes ≤ 140737488355328)
    (h : ∀ A c w1, Own ((As.set i (Sep.row d e (.slice A (xs.length + 1) c) (xs ++ [p]))).set j emp) w0 w1 → wpList P ops Q rest (a.put o.dst (.slice A (xs.length + 1) c)) w1) : wpList P ops Q (o :: rest) a (W.alloc (.cells cs.toArray e)) := by
  obtain ⟨h0, F, hF⟩ := HH
  have hR : d.R e W 0 (Fp w0 W F i) v xs := hF i _ hi
  have hM : d.M W 0 (Fp w0 W F j) p cs := hF j _ hj
  refine Kd.R_append d (w0 := W) 0 hgd s x t e z bytes ho ht hinfo hz hs0 hb0 v xs p cs (fun k => (Fp w0 W F i k ∨ Fp w0 W F j k) ∨ W.heap.size ≤ k) (Fp w0 W F j) hs hx hM (fun k hk => ⟨.inl (.inr hk), fun e => fp_apart hij (hR.1 k e.symm) hk⟩) (fun k hk => .inr hk) (Kd.R_mono hR (fun _ hk => .inl (.inl hk))) (Below.refl 0 W) (Nat.zero_le _) hl ?_
  intro v1 w1 hr hb hg hat
  obtain ⟨A, c, rfl⟩ := Kd.R_slice hr
  rw [List.length_append] at hr ⊢
  exact h A c w1 (grow_two h0 hF i j hij hi hj hg hr)
theorem ev_append_val_step {Kc : Act → World → Prop} (d : Kd α) (HH : Own As w0 W) (i j : Nat) (hij : i ≠ j) (hw : Region.wanted o (yielded ops a.tmps) = true) (s x : Operand) (t e : TypeId) (z : Value) (bytes : Nat)
    (ho : o.op = .call { callee := .builtin .append, args := #[s, x], argTypes := #[t, t] })
    (ht : P.underlying t = some (.slice e)) (hinfo : (P.info? e).map (fun i => (i.zero, i.size, i.bytes)) = some (some z, d.sz, bytes)) (hz : z.cells.size = d.sz) (hs0 : 0 < d.sz) (hb0 : 0 < bytes)
    (v : Value) (xs : List α) (p : α) (cs : List Value) (hi : As[i]? = some (Sep.row d e v xs)) (hj : As[j]? = some (Sep.val d p cs)) (hs : a.eval s = v) (hx : a.eval x = .slice (some ⟨W.heap.size, 0, none⟩) 1 1) (hl : (xs.length + 1) * bytes ≤ 140737488355328)
    (h : ∀ A c w1, Own ((As.set i (Sep.row d e (.slice A (xs.length + 1) c) (xs ++ [p]))).set j emp) w0 w1 → Kc (a.put o.dst (.slice A (xs.length + 1) c)) w1) :
    if Region.wanted o (yielded ops a.tmps) = true then Oper.wp P o a (W.alloc (.cells cs.toArray e)) Kc Q else Kc (a.put o.dst undef) (W.alloc (.cells cs.toArray e)) := by
  obtain ⟨h0, F, hF⟩ := HH
  have hR : d.R e W 0 (Fp w0 W F i) v xs := hF i _ hi
  have hM : d.M W 0 (Fp w0 W F j) p cs := hF j _ hj
  refine Kd.R_append_step d (w0 := W) 0 hw s x t e z bytes ho ht hinfo hz hs0 hb0 v xs p cs (fun k => (Fp w0 W F i k ∨ Fp w0 W F j k) ∨ W.heap.size ≤ k) (Fp w0 W F j) hs hx hM (fun k hk => ⟨.inl (.inr hk), fun e => fp_apart hij (hR.1 k e.symm) hk⟩) (fun k hk => .inr hk) (Kd.R_mono hR (fun _ hk => .inl (.inl hk))) (Below.refl 0 W) (Nat.zero_le _) hl ?_
  intro v1 w1 hr hb hg hat
  obtain ⟨A, c, rfl⟩ := Kd.R_slice hr
  rw [List.length_append] at hr ⊢
  exact h A c w1 (grow_two h0 hF i j hij hi hj hg hr)
/-- a literal of one element -/
theorem Own.lit (d : Kd α) (e : Nat) {x : α} {cs : List Value} (h : Own As w0 W) (hm : ∀ W' S, d.M W' 0 S x cs) : Own (As ++ [Sep.row d e (.slice (some ⟨W.heap.size, 0, none⟩) 1 1) [x]]) w0 (W.alloc (.cells cs.toArray e)) :=
  h.add (below_alloc (Below.refl _ _) _) ⟨fun k hk => by
    have : W.heap.size = k := by simpa [Value.ownBlock] using hk
    subst this
    exact ⟨Nat.le_refl _, by simp⟩, cs, by
      have := World.ownsRow_lit (base := 0) (e := e) (size := d.sz) W cs.toArray 1 (Nat.zero_le _) (by simp [maxLen]) (by have := d.K_len (d.K_of_M (hm W (fun _ => True))); simp [this])
      simpa using this, Reps.snoc (ps := []) (cs := []) (Reps.none _ _) (hm _ _) (d.K_len (d.K_of_M (hm W (fun _ => True))))⟩
theorem ev_row1 (d : Kd α) (HH : Own As w0 W) (hgd : o.guard = none) {e : TypeId} {x : α} {cs : List Value} (hm : ∀ W' S, d.M W' 0 S x cs)
    (hrun : (execOp a.eval o).run P W = .ok (.value (.slice (some ⟨W.heap.size, 0, none⟩) 1 1)) (W.alloc (.cells cs.toArray e)))
    (h : ∀ g w', g = W.heap.size → Own (As ++ [Sep.row d e (.slice (some ⟨g, 0, none⟩) 1 1) [x]]) w0 w' → wpList P ops Q rest (a.put o.dst (.slice (some ⟨g, 0, none⟩) 1 1)) w') : wpList P ops Q (o :: rest) a W :=
  Kd.event_run hgd hrun (h _ _ rfl (HH.lit d e hm))
/-- append(row i, l...), what is read having no rows of its own -/
theorem ev_append_rows (d : Kd α) {Rr : α → List Value → Prop} (HH : Own As w0 W) (i : Nat) (hgd : o.guard = none) (s x : Operand) (t e : TypeId) (z : Value) (bytes : Nat)
    (ho : o.op = .call { callee := .builtin .append, args := #[s, x], argTypes := #[t, t] })
    (ht : P.underlying t = some (.slice e)) (hinfo : (P.info? e).map (fun i => (i.zero, i.size, i.bytes)) = some (some z, d.sz, bytes)) (hz : z.cells.size = d.sz) (hs0 : 0 < d.sz) (hb0 : 0 < bytes)
    (v : Value) (xs ys : List α) (A : Option Addr) (m c : Nat) (hi : As[i]? = some (Sep.row d e v xs)) (hs : a.eval s = v) (hx : a.eval x = .slice A m c) (HR : ReadsRow Rr d.sz W A m ys) (hKM : ∀ S x cs, Rr x cs → d.M W 0 S x cs) (hl : (xs.length + m) * bytes ≤ 140737488355328)
    (h : ∀ A c w1, Own (As.set i (Sep.row d e (.slice A (xs ++ ys).length c) (xs ++ ys))) w0 w1 → wpList P ops Q rest (a.put o.dst (.slice A (xs ++ ys).length c)) w1) : wpList P ops Q (o :: rest) a W := by
  obtain ⟨h0, F, hF⟩ := HH
  refine Kd.R_append_rows d (w0 := W) 0 hgd s x t e z bytes ho ht hinfo hz hs0 hb0 v xs ys A m c (fun k => Fp w0 W F i k ∨ W.heap.size ≤ k) (fun _ => False) hs hx (Kd.R_mono (hF i _ hi : d.R e W 0 _ v xs) (fun _ hk => .inl hk)) HR (fun x cs hr => hKM _ x cs hr) (fun _ hk => hk.elim) (fun k hk => .inr hk) (Below.refl 0 W) (Nat.zero_le _) hl ?_
  intro v1 w1 hr hb hg hat
  obtain ⟨A, c, rfl⟩ := Kd.R_slice hr
  exact h A c w1 (grow_one h0 hF i hi hg hr)
/-- an empty row is made -/
theorem Own.nil {d : Kd α} {e : Nat} (h : Own As w0 W) : Own (As ++ [Sep.row d e (.slice none 0 0) []]) w0 W :=
  h.add (Below.refl _ _) (Kd.R_nil _ _ _ _ _)
theorem Own.zero (d : Kd α) (e : Nat) (h : Own As w0 W) : Own (As ++ [Sep.row d e (.slice (some ⟨W.heap.size, 0, none⟩) 0 0) []]) w0 (W.alloc (.cells #[] e)) :=
  h.add (below_alloc (Below.refl _ _) _) ⟨fun k hk => by
    have : W.heap.size = k := by simpa [Value.ownBlock] using hk
    subst this
    exact ⟨Nat.le_refl _, by simp⟩, [], by simpa using World.ownsRow_lit (base := 0) (e := e) (size := d.sz) W #[] 0 (Nat.zero_le _) (by simp [maxLen]) (by simp), Reps.none _ _⟩
end
end Go.Proofs.Ytkppilpailbpeaa.Sep
