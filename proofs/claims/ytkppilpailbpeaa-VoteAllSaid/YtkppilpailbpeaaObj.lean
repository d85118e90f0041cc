/- A heap of assertions over blocks that were there (S) and new ones: for what is called on an object. -/
import Derived.Test.YtkppilpailbpeaaSep
namespace Go.Proofs.Ytkppilpailbpeaa.Obj
open Go Go.RowKit Go.Proofs.YtkppilpailbpeaaW.PrintWords Go.Proofs.Ytkppilpailbpeaa.Sep
set_option linter.unusedVariables false
set_option linter.unusedSimpArgs false

/-- a row that may begin inside its block -/
def qrow {α : Type} (d : Kd α) (e : Nat) (v : Value) (xs : List α) : Asr where
  P := fun w S => d.Q e w 0 S v xs
  mono := fun h a => Kd.Q_mono a h
  move := fun h a => Kd.Q_step a h
/-- two side by side -/
def star (A B : Asr) : Asr where
  P := fun w S => ∃ T : Nat → Prop, A.P w (fun k => S k ∧ T k) ∧ B.P w (fun k => S k ∧ ¬ T k)
  mono := fun {w S S'} h ⟨T, a, b⟩ => ⟨T, A.mono (fun k hk => ⟨h k hk.1, hk.2⟩) a, B.mono (fun k hk => ⟨h k hk.1, hk.2⟩) b⟩
  move := fun {w w' S} h ⟨T, a, b⟩ => ⟨T, A.move (fun k hk hlt => h k hk.1 hlt) a, B.move (fun k hk hlt => h k hk.1 hlt) b⟩
def exA {β : Type} (f : β → Asr) : Asr where
  P := fun w S => ∃ x, (f x).P w S
  mono := fun {w S S'} h ⟨x, a⟩ => ⟨x, (f x).mono h a⟩
  move := fun {w w' S} h ⟨x, a⟩ => ⟨x, (f x).move h a⟩
def Uni (S : Nat → Prop) (w0 w : World) (k : Nat) : Prop := (S k ∨ w0.heap.size ≤ k) ∧ k < w.heap.size
def Fp (S : Nat → Prop) (w0 w : World) (F : Nat → Nat) (i k : Nat) : Prop := Uni S w0 w k ∧ F k = i
/-- blocks S of w0, and what was made since: assertion by assertion, each with blocks of its own -/
def OwnS (S : Nat → Prop) (As : List Asr) (w0 w : World) : Prop := Frm S w0 w ∧ ∃ F : Nat → Nat, ∀ (i : Nat) (A : Asr), As[i]? = some A → A.P w (Fp S w0 w F i)
/-- what a call did to blocks S, of which A now holds -/
def Upd (S : Nat → Prop) (A : Asr) (w w' : World) : Prop := Frm S w w' ∧ A.P w' (fun k => S k ∨ (w.heap.size ≤ k ∧ k < w'.heap.size))
theorem Frm.le {S : Nat → Prop} {a b c : World} (h : Frm S a b) (k : Frm (fun x => S x ∨ a.heap.size ≤ x) b c) : Frm S a c :=
  ⟨k.os.trans h.os, k.tape.trans h.tape, k.output.trans h.output, Nat.le_trans h.size k.size, fun i hi hn => (k.block i (by have := h.size; omega) (fun e => e.elim hn (fun e => by omega))).trans (h.block i hi hn)⟩
theorem Frm.bel {S : Nat → Prop} {a b : World} (h : Below a.heap.size a b) : Frm S a b := ⟨h.os, h.tape, h.output, h.size, fun k hk _ => h.block k hk⟩
theorem Frm.mono {S T : Nat → Prop} {a b : World} (h : Frm S a b) (hS : ∀ k, k < a.heap.size → S k → T k) : Frm T a b := ⟨h.os, h.tape, h.output, h.size, fun k hk hn => h.block k hk (fun e => hn (hS k hk e))⟩
/-- what lies below b stays -/
theorem Frm.base {S : Nat → Prop} {b w w' : World} (h : Frm S w w') (hb : Below b.heap.size b w) (hS : ∀ k, S k → b.heap.size ≤ k) : Below b.heap.size b w' := Frm.below h hb hb.size hS
variable {S : Nat → Prop} {As Bs : List Asr} {w0 w w' W : World}
theorem OwnS.start {A : Asr} (h : A.P w S) (hlt : ∀ k, S k → k < w.heap.size) : OwnS S [A] w w :=
  ⟨Frm.refl _ _, fun _ => 0, fun i B hi => by
    have hz : i = 0 := by
      have := (List.getElem?_eq_some_iff.1 hi).1
      simp at this
      exact this
    subst hz
    simp at hi
    subst hi
    exact A.mono (fun k hk => ⟨⟨.inl hk, hlt k hk⟩, rfl⟩) h⟩
theorem OwnS.frm (h : OwnS S As w0 w) : Frm S w0 w := h.1
theorem OwnS.size (h : OwnS S As w0 w) : w0.heap.size ≤ w.heap.size := h.1.size
theorem OwnS.get (h : OwnS S As w0 w) (i : Nat) {A : Asr} (hi : As[i]? = some A) : A.P w (fun k => Uni S w0 w k) := by
  obtain ⟨_, F, hF⟩ := h
  exact A.mono (fun k hk => hk.1) (hF i A hi)
theorem OwnS.upd (h : OwnS S As w0 w) (i : Nat) {A : Asr} (hi : As[i]? = some A) : Upd S A w0 w :=
  ⟨h.1, A.mono (fun k hk => hk.1.elim .inl (fun e => .inr ⟨e, hk.2⟩)) (h.get i hi)⟩
theorem OwnS.blk (h : OwnS S As w0 w) (i : Nat) {g : Nat} {cs : Array Value} {T : TypeId} (hi : As[i]? = some (Sep.blk g cs T)) : w.heap[g]? = some (.cells cs T (0, 0)) := (h.get i hi).1
theorem OwnS.row {α : Type} (h : OwnS S As w0 w) (i : Nat) {d : Kd α} {e : Nat} {v : Value} {xs : List α} (hi : As[i]? = some (Sep.row d e v xs)) : d.R e w 0 (fun k => Uni S w0 w k) v xs := h.get i hi
theorem OwnS.C {α : Type} (h : OwnS S As w0 w) (i : Nat) {d : Kd α} {e : Nat} {A : Option Addr} {n c : Nat} {xs : List α} (hi : As[i]? = some (Sep.row d e (.slice A n c) xs)) : d.C w A xs.length xs := (Kd.R_reads' (h.row i hi)).2.2
theorem OwnS.len {α : Type} (h : OwnS S As w0 w) (i : Nat) {d : Kd α} {e : Nat} {A : Option Addr} {n c : Nat} {xs : List α} (hi : As[i]? = some (Sep.row d e (.slice A n c) xs)) : n = xs.length ∧ n ≤ c := ⟨(Kd.R_reads' (h.row i hi)).1, (Kd.R_reads' (h.row i hi)).2.1⟩
theorem OwnS.slice {α : Type} (h : OwnS S As w0 w) (i : Nat) {d : Kd α} {e : Nat} {v : Value} {xs : List α} (hi : As[i]? = some (Sep.row d e v xs)) : ∃ A c, v = .slice A xs.length c ∧ xs.length ≤ c := by
  obtain ⟨A, c, e, h1, _⟩ := Kd.R_reads (h.row i hi)
  exact ⟨A, c, e, h1⟩
theorem OwnS.q {α : Type} (h : OwnS S As w0 w) (i : Nat) {d : Kd α} {e : Nat} {v : Value} {xs : List α} (hi : As[i]? = some (qrow d e v xs)) : d.Q e w 0 (fun k => Uni S w0 w k) v xs := h.get i hi
theorem OwnS.qC {α : Type} (h : OwnS S As w0 w) (i : Nat) {d : Kd α} {e : Nat} {A : Option Addr} {n c : Nat} {xs : List α} (hi : As[i]? = some (qrow d e (.slice A n c) xs)) : d.C w A xs.length xs := (Kd.Q_reads' (h.q i hi)).2.2
theorem OwnS.qlen {α : Type} (h : OwnS S As w0 w) (i : Nat) {d : Kd α} {e : Nat} {A : Option Addr} {n c : Nat} {xs : List α} (hi : As[i]? = some (qrow d e (.slice A n c) xs)) : n = xs.length ∧ n ≤ c := ⟨(Kd.Q_reads' (h.q i hi)).1, (Kd.Q_reads' (h.q i hi)).2.1⟩
theorem OwnS.ne (h : OwnS S As w0 w) (i j : Nat) {g g' : Nat} {cs cs' : Array Value} {T T' : TypeId} (hij : i ≠ j) (hi : As[i]? = some (Sep.blk g cs T)) (hj : As[j]? = some (Sep.blk g' cs' T')) : g ≠ g' := by
  obtain ⟨_, F, hF⟩ := h
  rintro rfl
  exact hij ((hF i _ hi).2.2.symm.trans (hF j _ hj).2.2)

/-- what is there stays, whatever is made -/
theorem OwnS.step (h : OwnS S As w0 w) (hb : Below w.heap.size w w') : OwnS S As w0 w' := by
  obtain ⟨h0, F, hF⟩ := h
  refine ⟨Frm.le h0 (Frm.bel hb), F, fun i A hi => ?_⟩
  exact A.mono (fun k hk => ⟨⟨hk.1.1, Nat.lt_of_lt_of_le hk.1.2 hb.size⟩, hk.2⟩) (A.move (fun k hk hlt => hb.block k hlt) (hF i A hi))
theorem OwnS.drew (h : OwnS S As w0 w) : OwnS S As w0 w.drew := h.step (below_drew (Below.refl _ _))
theorem OwnS.drewN (h : OwnS S As w0 w) (n : Nat) : OwnS S As w0 (w.drewN n) := h.step (pw_below_drewN (Below.refl _ _) n)
theorem OwnS.alloc (h : OwnS S As w0 w) (o : Go.Obj) : OwnS S As w0 (w.alloc o) := h.step (below_alloc (Below.refl _ _) _)
theorem OwnS.add (h : OwnS S As w0 w) (hb : Below w.heap.size w w') {B : Asr} (hB : B.P w' (fun k => w.heap.size ≤ k ∧ k < w'.heap.size)) : OwnS S (As ++ [B]) w0 w' := by
  obtain ⟨h0, F, hF⟩ := h
  refine ⟨Frm.le h0 (Frm.bel hb), fun k => if k < w.heap.size then F k else As.length, fun i A hi => ?_⟩
  rcases Nat.lt_or_ge i As.length with hlt | hge
  · rw [List.getElem?_append_left hlt] at hi
    refine A.mono (fun k hk => ?_) (A.move (fun k hk hlt => hb.block k hlt) (hF i A hi))
    exact ⟨⟨hk.1.1, Nat.lt_of_lt_of_le hk.1.2 hb.size⟩, (if_pos hk.1.2).trans hk.2⟩
  · rw [List.getElem?_append_right hge] at hi
    have hz : i - As.length = 0 := by
      have := (List.getElem?_eq_some_iff.1 hi).1
      simp at this
      omega
    rw [hz] at hi
    simp at hi
    subst hi
    refine B.mono (fun k hk => ?_) hB
    exact ⟨⟨.inr (Nat.le_trans h0.size hk.1), hk.2⟩, (if_neg (by omega)).trans (by omega)⟩
theorem OwnS.new (h : OwnS S As w0 w) (cs : Array Value) (T : TypeId) : OwnS S (As ++ [Sep.blk w.heap.size cs T]) w0 (w.alloc (.cells cs T (0, 0))) :=
  h.add (below_alloc (Below.refl _ _) _) ⟨blk_new w _, Nat.le_refl _, by simp⟩
theorem ownS_modF {F : Nat → Nat} (h0 : Frm S w0 w) (hF : ∀ (i : Nat) (A : Asr), As[i]? = some A → A.P w (Fp S w0 w F i)) (i : Nat) {A : Asr} (hi : As[i]? = some A) (A' : Asr)
    (hf : Frm (Fp S w0 w F i) w w') (hp : A'.P w' (fun k => Fp S w0 w F i k ∨ (w.heap.size ≤ k ∧ k < w'.heap.size))) : OwnS S (As.set i A') w0 w' := by
  refine ⟨Frm.le h0 (Frm.mono hf (fun k _ hk => hk.1.1)), fun k => if k < w.heap.size then F k else i, fun j B hj => ?_⟩
  by_cases e : j = i
  · subst e
    have hlt := (List.getElem?_eq_some_iff.1 hi).1
    rw [List.getElem?_set_self hlt] at hj
    obtain rfl := Option.some.inj hj
    refine A'.mono (fun k hk => ?_) hp
    rcases hk with hk | hk
    · exact ⟨⟨hk.1.1, Nat.lt_of_lt_of_le hk.1.2 hf.size⟩, (if_pos hk.1.2).trans hk.2⟩
    · exact ⟨⟨.inr (Nat.le_trans h0.size hk.1), hk.2⟩, if_neg (by omega)⟩
  · rw [List.getElem?_set_ne (fun e' => e e'.symm)] at hj
    refine B.mono (fun k hk => ?_) (B.move (fun k hk hlt => hf.block k hlt (fun hk' => e (hk.2.symm.trans hk'.2))) (hF j B hj))
    exact ⟨⟨hk.1.1, Nat.lt_of_lt_of_le hk.1.2 hf.size⟩, (if_pos hk.1.2).trans hk.2⟩
theorem OwnS.mod (h : OwnS S As w0 w) (i : Nat) {A : Asr} (hi : As[i]? = some A) (A' : Asr) (hs : ∀ T : Nat → Prop, A.P w T → Upd T A' w w') : OwnS S (As.set i A') w0 w' := by
  obtain ⟨h0, F, hF⟩ := h
  obtain ⟨hf, hp⟩ := hs _ (hF i A hi)
  exact ownS_modF h0 hF i hi A' hf hp
theorem OwnS.weak (h : OwnS S As w0 w) (i : Nat) {A A' : Asr} (hi : As[i]? = some A) (hA : ∀ T, A.P w T → A'.P w T) : OwnS S (As.set i A') w0 w :=
  h.mod i hi A' (fun T hp => ⟨Frm.refl _ _, A'.mono (fun k hk => .inl hk) (hA T hp)⟩)
theorem OwnS.drop (h : OwnS S As w0 w) (i : Nat) {A : Asr} (hi : As[i]? = some A) : OwnS S (As.set i emp) w0 w := h.weak i hi (fun _ _ => trivial)
/-- two become one, within their own blocks and new ones -/
theorem ownS_mod2F {F : Nat → Nat} (h0 : Frm S w0 w) (hF : ∀ (i : Nat) (A : Asr), As[i]? = some A → A.P w (Fp S w0 w F i)) (i j : Nat) (hij : i ≠ j) {A B : Asr} (hi : As[i]? = some A) (hj : As[j]? = some B) (A' : Asr)
    (hf : Frm (fun k => Fp S w0 w F i k ∨ Fp S w0 w F j k) w w') (hp : A'.P w' (fun k => (Fp S w0 w F i k ∨ Fp S w0 w F j k) ∨ (w.heap.size ≤ k ∧ k < w'.heap.size))) : OwnS S ((As.set i A').set j emp) w0 w' := by
  refine ⟨Frm.le h0 (Frm.mono hf (fun k _ hk => hk.elim (fun h => h.1.1) (fun h => h.1.1))), fun k => if k < w.heap.size then (if F k = j then i else F k) else i, fun q C hq => ?_⟩
  have hli := (List.getElem?_eq_some_iff.1 hi).1
  have hlj := (List.getElem?_eq_some_iff.1 hj).1
  by_cases ej : q = j
  · subst ej
    rw [List.getElem?_set_self (by simpa using hlj)] at hq
    obtain rfl := Option.some.inj hq
    trivial
  · rw [List.getElem?_set_ne (fun e' => ej e'.symm)] at hq
    by_cases e : q = i
    · subst e
      rw [List.getElem?_set_self hli] at hq
      obtain rfl := Option.some.inj hq
      refine A'.mono (fun k hk => ?_) hp
      rcases hk with (hk | hk) | hk
      · exact ⟨⟨hk.1.1, Nat.lt_of_lt_of_le hk.1.2 hf.size⟩, (if_pos hk.1.2).trans ((if_neg (by rw [hk.2]; exact hij)).trans hk.2)⟩
      · exact ⟨⟨hk.1.1, Nat.lt_of_lt_of_le hk.1.2 hf.size⟩, (if_pos hk.1.2).trans (if_pos hk.2)⟩
      · exact ⟨⟨.inr (Nat.le_trans h0.size hk.1), hk.2⟩, if_neg (by omega)⟩
    · rw [List.getElem?_set_ne (fun e' => e e'.symm)] at hq
      refine C.mono (fun k hk => ?_) (C.move (fun k hk hlt => hf.block k hlt (fun hk' => hk'.elim (fun h => e (hk.2.symm.trans h.2)) (fun h => ej (hk.2.symm.trans h.2)))) (hF q C hq))
      refine ⟨⟨hk.1.1, Nat.lt_of_lt_of_le hk.1.2 hf.size⟩, ?_⟩
      exact (if_pos hk.1.2).trans ((if_neg (by rw [hk.2]; exact ej)).trans hk.2)
theorem fpS_apart {F : Nat → Nat} {i j : Nat} (hij : i ≠ j) {k : Nat} (hi : Fp S w0 w F i k) (hj : Fp S w0 w F j k) : False := hij (hi.2.symm.trans hj.2)
theorem OwnS.ex {β : Type} (h : OwnS S As w0 w) (i : Nat) {f : β → Asr} (hi : As[i]? = some (exA f)) : ∃ x, OwnS S (As.set i (f x)) w0 w := by
  obtain ⟨h0, F, hF⟩ := h
  obtain ⟨x, hx⟩ := hF i _ hi
  exact ⟨x, ownS_modF h0 hF i hi (f x) (Frm.refl _ _) ((f x).mono (fun k hk => .inl hk) hx)⟩
theorem OwnS.split (h : OwnS S As w0 w) (i : Nat) {A B : Asr} (hi : As[i]? = some (star A B)) : OwnS S (As.set i A ++ [B]) w0 w := by
  obtain ⟨h0, F, hF⟩ := h
  obtain ⟨T, ha, hb⟩ := hF i _ hi
  have hlt := (List.getElem?_eq_some_iff.1 hi).1
  classical
  refine ⟨h0, fun k => if F k = i then (if T k then i else As.length) else if F k = As.length then As.length + 1 else F k, fun q C hq => ?_⟩
  rcases Nat.lt_or_ge q As.length with hql | hge
  · rw [List.getElem?_append_left (by simpa using hql)] at hq
    by_cases e : q = i
    · subst e
      rw [List.getElem?_set_self hlt] at hq
      obtain rfl := Option.some.inj hq
      exact A.mono (fun k hk => ⟨hk.1.1, (if_pos hk.1.2).trans (if_pos hk.2)⟩) ha
    · rw [List.getElem?_set_ne (fun e' => e e'.symm)] at hq
      exact C.mono (fun k hk => ⟨hk.1, (if_neg (by rw [hk.2]; exact e)).trans ((if_neg (by rw [hk.2]; omega)).trans hk.2)⟩) (hF q C hq)
  · rw [List.getElem?_append_right (by simpa using hge)] at hq
    have hz : q - As.length = 0 := by
      have := (List.getElem?_eq_some_iff.1 hq).1
      simp at this
      omega
    simp only [List.length_set, hz] at hq
    simp at hq
    subst hq
    exact B.mono (fun k hk => ⟨hk.1.1, (if_pos hk.1.2).trans ((if_neg hk.2).trans (by omega))⟩) hb
theorem OwnS.fuse (h : OwnS S As w0 w) (i j : Nat) (hij : i ≠ j) {A B : Asr} (hi : As[i]? = some A) (hj : As[j]? = some B) : OwnS S ((As.set i (star A B)).set j emp) w0 w := by
  obtain ⟨h0, F, hF⟩ := h
  refine ownS_mod2F h0 hF i j hij hi hj _ (Frm.refl _ _) ⟨fun k => F k = i, A.mono (fun k hk => ⟨.inl (.inl hk), hk.2⟩) (hF i A hi), B.mono (fun k hk => ⟨.inl (.inr hk), fun e => hij (e.symm.trans hk.2)⟩) (hF j B hj)⟩
theorem OwnS.pack {β : Type} (h : OwnS S As w0 w) (i : Nat) {f : β → Asr} (x : β) (hi : As[i]? = some (f x)) : OwnS S (As.set i (exA f)) w0 w := h.weak i hi (fun _ hp => ⟨x, hp⟩)
theorem OwnS.sub {Bs : List Asr} (h : OwnS S As w0 w) (hsub : ∀ (j : Nat) (B : Asr), Bs[j]? = some B → As[j]? = some B) : OwnS S Bs w0 w := by
  obtain ⟨h0, F, hF⟩ := h
  exact ⟨h0, F, fun i A hi => hF i A (hsub i A hi)⟩
/-- some of them, in any order -/
theorem OwnS.picks (h : OwnS S As w0 w) (js : List Nat) (hnd : js.Nodup) : OwnS S (js.map (fun j => As.getD j emp)) w0 w := by
  obtain ⟨h0, F, hF⟩ := h
  refine ⟨h0, fun k => js.idxOf (F k), fun i A hi => ?_⟩
  rw [List.getElem?_map] at hi
  obtain ⟨j, hj, rfl⟩ := Option.map_eq_some_iff.1 hi
  obtain ⟨hlt, hji⟩ := List.getElem?_eq_some_iff.1 hj
  rcases Nat.lt_or_ge j As.length with hl | hl
  · have e : As[j]? = some (As.getD j emp) := by rw [List.getD_eq_getElem?_getD, List.getElem?_eq_getElem hl]; rfl
    refine Asr.mono _ (fun k hk => ⟨hk.1, ?_⟩) (hF j _ e)
    show js.idxOf (F k) = i
    rw [hk.2, ← hji]
    exact hnd.idxOf_getElem i hlt
  · have e : As.getD j emp = emp := by rw [List.getD_eq_getElem?_getD, List.getElem?_eq_none hl]; rfl
    rw [e]
    trivial
theorem OwnS.take (h : OwnS S As w0 w) (n : Nat) : OwnS S (As.take n) w0 w := h.sub (fun j B hj => by
  rw [List.getElem?_take] at hj
  split at hj
  · exact hj
  · cases hj)
/-- two places change -/
theorem OwnS.swap (h : OwnS S As w0 w) (i j : Nat) (hij : i ≠ j) {A B : Asr} (hi : As[i]? = some A) (hj : As[j]? = some B) : OwnS S ((As.set i B).set j A) w0 w := by
  obtain ⟨h0, F, hF⟩ := h
  have hli := (List.getElem?_eq_some_iff.1 hi).1
  have hlj := (List.getElem?_eq_some_iff.1 hj).1
  refine ⟨h0, fun k => if F k = i then j else if F k = j then i else F k, fun q C hq => ?_⟩
  by_cases ej : q = j
  · subst ej
    rw [List.getElem?_set_self (by simpa using hlj)] at hq
    obtain rfl := Option.some.inj hq
    exact A.mono (fun k hk => ⟨hk.1, if_pos hk.2⟩) (hF i A hi)
  · rw [List.getElem?_set_ne (fun e' => ej e'.symm)] at hq
    by_cases ei : q = i
    · subst ei
      rw [List.getElem?_set_self hli] at hq
      obtain rfl := Option.some.inj hq
      exact B.mono (fun k hk => ⟨hk.1, (if_neg (by rw [hk.2]; exact fun e => hij e.symm)).trans (if_pos hk.2)⟩) (hF j B hj)
    · rw [List.getElem?_set_ne (fun e' => ei e'.symm)] at hq
      exact C.mono (fun k hk => ⟨hk.1, (if_neg (by rw [hk.2]; exact ei)).trans ((if_neg (by rw [hk.2]; exact ej)).trans hk.2)⟩) (hF q C hq)
/-- what a call on object i left of it, and of its own -/
theorem ownS_use {F : Nat → Nat} (h0 : Frm S w0 w) (hF : ∀ (i : Nat) (A : Asr), As[i]? = some A → A.P w (Fp S w0 w F i)) (i : Nat) (hlt : i < As.length) {A' : Asr} (h' : OwnS (Fp S w0 w F i) (A' :: Bs) w w') : OwnS S (As.set i A' ++ Bs) w0 w' := by
  obtain ⟨h1, G, hG⟩ := h'
  refine ⟨Frm.le h0 (Frm.mono h1 (fun k _ hk => hk.1.1)), fun k => if k < w.heap.size ∧ F k ≠ i then (if F k < As.length then F k else As.length + Bs.length) else (if G k = 0 then i else As.length + (G k - 1)), fun q C hq => ?_⟩
  have key : ∀ k, Uni (Fp S w0 w F i) w w' k → Uni S w0 w' k ∧ ¬ (k < w.heap.size ∧ F k ≠ i) := fun k hk => by
    refine ⟨⟨?_, hk.2⟩, fun hh => ?_⟩
    · rcases hk.1 with h2 | h2
      · exact h2.1.1
      · exact .inr (Nat.le_trans h0.size h2)
    · rcases hk.1 with h2 | h2
      · exact hh.2 h2.2
      · omega
  rcases Nat.lt_or_ge q As.length with hql | hge
  · rw [List.getElem?_append_left (by simpa using hql)] at hq
    by_cases e : q = i
    · subst e
      rw [List.getElem?_set_self hlt] at hq
      obtain rfl := Option.some.inj hq
      exact A'.mono (fun k hk => ⟨(key k hk.1).1, (if_neg (key k hk.1).2).trans (if_pos hk.2)⟩) (hG 0 A' rfl)
    · rw [List.getElem?_set_ne (fun e' => e e'.symm)] at hq
      refine C.mono (fun k hk => ?_) (C.move (fun k hk hl => h1.block k hl (fun hk' => e (hk.2.symm.trans hk'.2))) (hF q C hq))
      exact ⟨⟨hk.1.1, Nat.lt_of_lt_of_le hk.1.2 h1.size⟩, (if_pos ⟨hk.1.2, by rw [hk.2]; exact e⟩).trans ((if_pos (by rw [hk.2]; exact hql)).trans hk.2)⟩
  · rw [List.getElem?_append_right (by simpa using hge)] at hq
    simp only [List.length_set] at hq
    refine C.mono (fun k hk => ⟨(key k hk.1).1, (if_neg (key k hk.1).2).trans ((if_neg (by rw [hk.2]; omega)).trans (by rw [hk.2]; omega))⟩) (hG (q - As.length + 1) C (by simpa using hq))
/-- what a call leaves of its own, to what is there -/
theorem OwnS.joinL (h : OwnS S As w0 w) (h' : Own Bs w w') : OwnS S (As ++ Bs) w0 w' := by
  obtain ⟨h0, F, hF⟩ := h
  obtain ⟨h1, G, hG⟩ := h'
  refine ⟨Frm.le h0 (Frm.bel h1), fun k => if k < w.heap.size then (if F k < As.length then F k else As.length + Bs.length) else As.length + G k, fun i A hi => ?_⟩
  rcases Nat.lt_or_ge i As.length with hlt | hge
  · rw [List.getElem?_append_left hlt] at hi
    refine A.mono (fun k hk => ?_) (A.move (fun k hk hlt => h1.block k hlt) (hF i A hi))
    exact ⟨⟨hk.1.1, Nat.lt_of_lt_of_le hk.1.2 h1.size⟩, (if_pos hk.1.2).trans ((if_pos (by rw [hk.2]; exact hlt)).trans hk.2)⟩
  · rw [List.getElem?_append_right hge] at hi
    refine A.mono (fun k hk => ?_) (hG _ A hi)
    exact ⟨⟨.inr (Nat.le_trans h0.size hk.1.1), hk.1.2⟩, (if_neg (by have := hk.1.1; omega)).trans (by rw [hk.2]; omega)⟩
/-- from nothing: what was made since w0 -/
theorem OwnS.of_own (h : Own As w0 w) : OwnS (fun _ => False) As w0 w := by
  obtain ⟨h0, F, hF⟩ := h
  exact ⟨Frm.bel h0, F, fun i A hi => A.mono (fun k hk => ⟨⟨.inr hk.1.1, hk.1.2⟩, hk.2⟩) (hF i A hi)⟩
theorem OwnS.own (h : OwnS (fun _ => False) As w0 w) : Own As w0 w := by
  obtain ⟨h0, F, hF⟩ := h
  exact ⟨⟨h0.os, h0.tape, h0.output, h0.size, fun k hk => h0.block k hk (fun e => e)⟩, F, fun i A hi => A.mono (fun k hk => ⟨⟨hk.1.1.elim False.elim id, hk.1.2⟩, hk.2⟩) (hF i A hi)⟩
/-- of two assertions of an object one: together -/
theorem OwnS.put {g : Nat} {cs : Array Value} {T : TypeId} (h : OwnS S As w0 w) (i : Nat) (hi : As[i]? = some (Sep.blk g cs T)) (cs' : Array Value) (hg : w'.heap[g]? = some (.cells cs' T (0, 0))) (hf : Frm (· = g) w w') : OwnS S (As.set i (Sep.blk g cs' T)) w0 w' :=
  h.mod i hi _ (fun T' hp => ⟨⟨hf.os, hf.tape, hf.output, hf.size, fun k hk hn => hf.block k hk (fun e => hn (e ▸ hp.2))⟩, hg, .inl hp.2⟩)
theorem OwnS.puts {g : Nat} {cs : Array Value} {T : TypeId} (h : OwnS S As w0 w) (i : Nat) (hi : As[i]? = some (Sep.blk g cs T)) (j : Nat) (vs : List Value) : OwnS S (As.set i (Sep.blk g (putA cs j vs) T)) w0 (w.setCells g j vs) :=
  h.put i hi _ (blk_sets vs w cs j (h.blk i hi)).1 (blk_sets vs w cs j (h.blk i hi)).2
section
variable {P : Program} {ops : Array Oper} {rest : List Oper} {o : Oper} {a : Act} {Q : Exit → Act → World → Prop}
theorem evS_store (HH : OwnS S As w0 W) (i : Nat) (hgd : o.guard = none) (hN : o.dst = none) {t : TypeId} {p x : Operand} (ho : o.op = .store t p x) {g j : Nat} {cs : Array Value} {T : TypeId} (hi : As[i]? = some (Sep.blk g cs T)) (hp : a.eval p = .pointer (some ⟨g, j, none⟩))
    (u : Value) (hx : a.eval x = u) (vs : List Value) (hu : u.cells.toList = vs) (ht : (P.info? t).map (·.size) = some vs.length) (hj : j + vs.length ≤ cs.size) (h1 : ∀ q ∈ vs, q.oneCell' = true)
    (h : ∀ w', OwnS S (As.set i (Sep.blk g (putL cs.toList j vs).toArray T)) w0 w' → wpList P ops Q rest a w') : wpList P ops Q (o :: rest) a W := by
  refine wpList_plain hgd fun K hK => ?_
  have hrun : (Instr.storeAt t (.pointer (some ⟨g, j, none⟩)) u).run P W = .ok () (W.setCells g j vs) :=
    run_store_run t u vs (HH.blk i hi) hu ht hj h1
  unfold Oper.wp execOp
  simp only [ho, hp, hx, Sem.run_bind, Sem.run_pure, Result.andThen_ok, hrun]
  show K (a.put o.dst undef) _
  rw [hN]
  have := HH.puts i hi j vs
  rw [putA_eq vs cs j hj] at this
  exact hK a _ (h _ this)
theorem evS_box (HH : OwnS S As w0 W) (hgd : o.guard = none) {cs : Array Value} {T : TypeId}
    (hrun : (execOp a.eval o).run P W = .ok (.value (.pointer (some ⟨W.heap.size, 0, none⟩))) (W.alloc (.cells cs T (0, 0))))
    (h : ∀ g w', g = W.heap.size → OwnS S (As ++ [Sep.blk g cs T]) w0 w' → wpList P ops Q rest (a.put o.dst (.pointer (some ⟨g, 0, none⟩))) w') : wpList P ops Q (o :: rest) a W :=
  Kd.event_run hgd hrun (h _ _ rfl (HH.new cs T))
theorem ownS_call {f : FuncId} {args : Array Value} {R : Ending → World → Prop} (h : OwnS S As w0 W) (k : OwnS S As w0 W → Calls P f args W R) : Calls P f args W R := k h
/-- a call on object i -/
theorem ownS_meth {f : FuncId} {args : Array Value} {R : Ending → World → Prop} (h : OwnS S As w0 W) (i : Nat) {A : Asr} (hi : As[i]? = some A)
    (k : ∀ T : Nat → Prop, OwnS T [A] W W → (∀ q, T q → Uni S w0 W q) → (∀ A' Bs w', OwnS T (A' :: Bs) W w' → OwnS S (As.set i A' ++ Bs) w0 w') → Calls P f args W R) : Calls P f args W R := by
  obtain ⟨h0, F, hF⟩ := h
  exact k _ (OwnS.start (hF i A hi) (fun q hq => hq.1.2)) (fun q hq => hq.1) (fun A' Bs w' hu => ownS_use h0 hF i (List.getElem?_eq_some_iff.1 hi).1 hu)
variable {α : Type}
/-- append(row i, x), x without rows of its own, in a region that draws -/
theorem evS_append_step {Kc : Act → World → Prop} (d : Kd α) (HH : OwnS S As w0 W) (i : Nat) (hw : Region.wanted o (yielded ops a.tmps) = true) (s x : Operand) (t e : TypeId) (z : Value) (bytes : Nat)
    (ho : o.op = .call { callee := .builtin .append, args := #[s, x], argTypes := #[t, t] })
    (ht : P.underlying t = some (.slice e)) (hinfo : (P.info? e).map (fun i => (i.zero, i.size, i.bytes)) = some (some z, d.sz, bytes)) (hz : z.cells.size = d.sz) (hs0 : 0 < d.sz) (hb0 : 0 < bytes)
    (v : Value) (xs : List α) (p : α) (cs : List Value) (hi : As[i]? = some (qrow d e v xs)) (hs : a.eval s = v) (hx : a.eval x = .slice (some ⟨W.heap.size, 0, none⟩) 1 1) (hp : ∀ T, d.M W 0 T p cs) (hl : (xs.length + 1) * bytes ≤ 140737488355328)
    (h : ∀ A c w1, OwnS S (As.set i (qrow d e (.slice A (xs.length + 1) c) (xs ++ [p]))) w0 w1 → Kc (a.put o.dst (.slice A (xs.length + 1) c)) w1) :
    if Region.wanted o (yielded ops a.tmps) = true then Oper.wp P o a (W.alloc (.cells cs.toArray e)) Kc Q else Kc (a.put o.dst undef) (W.alloc (.cells cs.toArray e)) := by
  obtain ⟨h0, F, hF⟩ := HH
  have hQ : d.Q e W 0 (Fp S w0 W F i) v xs := hF i _ hi
  refine Kd.Q_append_step d (w0 := W) 0 hw s x t e z bytes ho ht hinfo hz hs0 hb0 v xs p cs (fun k => Fp S w0 W F i k ∨ W.heap.size ≤ k) (fun _ => False) hs hx (hp _) (fun _ hk => hk.elim) (fun k hk => .inr hk) (Kd.Q_mono hQ (fun _ hk => .inl hk)) (Below.refl 0 W) (Nat.zero_le _) hl ?_
  intro v1 w1 hr hb hg hat
  obtain ⟨A, c, rfl, _⟩ := Kd.Q_slice hr
  rw [List.length_append] at hr ⊢
  exact h A c w1 (ownS_modF h0 hF i hi _ (Frm.grown hg (fun k hk => hQ.1 k hk)) (Kd.Q_mono (Kd.Q_bound hr) (fun k hk => hk.1.elim .inl (fun h2 => .inr ⟨h2, hk.2.2.1⟩))))
theorem evS_append (d : Kd α) (HH : OwnS S As w0 W) (i : Nat) (hgd : o.guard = none) (s x : Operand) (t e : TypeId) (z : Value) (bytes : Nat)
    (ho : o.op = .call { callee := .builtin .append, args := #[s, x], argTypes := #[t, t] })
    (ht : P.underlying t = some (.slice e)) (hinfo : (P.info? e).map (fun i => (i.zero, i.size, i.bytes)) = some (some z, d.sz, bytes)) (hz : z.cells.size = d.sz) (hs0 : 0 < d.sz) (hb0 : 0 < bytes)
    (v : Value) (xs : List α) (p : α) (cs : List Value) (hi : As[i]? = some (qrow d e v xs)) (hs : a.eval s = v) (hx : a.eval x = .slice (some ⟨W.heap.size, 0, none⟩) 1 1) (hp : ∀ T, d.M W 0 T p cs) (hl : (xs.length + 1) * bytes ≤ 140737488355328)
    (h : ∀ A c w1, OwnS S (As.set i (qrow d e (.slice A (xs.length + 1) c) (xs ++ [p]))) w0 w1 → wpList P ops Q rest (a.put o.dst (.slice A (xs.length + 1) c)) w1) : wpList P ops Q (o :: rest) a (W.alloc (.cells cs.toArray e)) := by
  obtain ⟨h0, F, hF⟩ := HH
  have hQ : d.Q e W 0 (Fp S w0 W F i) v xs := hF i _ hi
  refine Kd.Q_append d (w0 := W) 0 hgd s x t e z bytes ho ht hinfo hz hs0 hb0 v xs p cs (fun k => Fp S w0 W F i k ∨ W.heap.size ≤ k) (fun _ => False) hs hx (hp _) (fun _ hk => hk.elim) (fun k hk => .inr hk) (Kd.Q_mono hQ (fun _ hk => .inl hk)) (Below.refl 0 W) (Nat.zero_le _) hl ?_
  intro v1 w1 hr hb hg hat
  obtain ⟨A, c, rfl, _⟩ := Kd.Q_slice hr
  rw [List.length_append] at hr ⊢
  exact h A c w1 (ownS_modF h0 hF i hi _ (Frm.grown hg (fun k hk => hQ.1 k hk)) (Kd.Q_mono (Kd.Q_bound hr) (fun k hk => hk.1.elim .inl (fun h2 => .inr ⟨h2, hk.2.2.1⟩))))
/-- append(row i, x), x a value of its own (j) -/
theorem evS_append_val (d : Kd α) (HH : OwnS S As w0 W) (i j : Nat) (hij : i ≠ j) (hgd : o.guard = none) (s x : Operand) (t e : TypeId) (z : Value) (bytes : Nat)
    (ho : o.op = .call { callee := .builtin .append, args := #[s, x], argTypes := #[t, t] })
    (ht : P.underlying t = some (.slice e)) (hinfo : (P.info? e).map (fun i => (i.zero, i.size, i.bytes)) = some (some z, d.sz, bytes)) (hz : z.cells.size = d.sz) (hs0 : 0 < d.sz) (hb0 : 0 < bytes)
    (v : Value) (xs : List α) (p : α) (cs : List Value) (hi : As[i]? = some (qrow d e v xs)) (hj : As[j]? = some (Sep.val d p cs)) (hs : a.eval s = v) (hx : a.eval x = .slice (some ⟨W.heap.size, 0, none⟩) 1 1) (hl : (xs.length + 1) * bytes ≤ 140737488355328)
    (h : ∀ A c w1, OwnS S ((As.set i (qrow d e (.slice A (xs.length + 1) c) (xs ++ [p]))).set j emp) w0 w1 → wpList P ops Q rest (a.put o.dst (.slice A (xs.length + 1) c)) w1) : wpList P ops Q (o :: rest) a (W.alloc (.cells cs.toArray e)) := by
  obtain ⟨h0, F, hF⟩ := HH
  have hQ : d.Q e W 0 (Fp S w0 W F i) v xs := hF i _ hi
  have hM : d.M W 0 (Fp S w0 W F j) p cs := hF j _ hj
  refine Kd.Q_append d (w0 := W) 0 hgd s x t e z bytes ho ht hinfo hz hs0 hb0 v xs p cs (fun k => (Fp S w0 W F i k ∨ Fp S w0 W F j k) ∨ W.heap.size ≤ k) (Fp S w0 W F j) hs hx hM (fun k hk => ⟨.inl (.inr hk), fun e => fpS_apart hij (hQ.1 k e.symm) hk⟩) (fun k hk => .inr hk) (Kd.Q_mono hQ (fun _ hk => .inl (.inl hk))) (Below.refl 0 W) (Nat.zero_le _) hl ?_
  intro v1 w1 hr hb hg hat
  obtain ⟨A, c, rfl, _⟩ := Kd.Q_slice hr
  rw [List.length_append] at hr ⊢
  exact h A c w1 (ownS_mod2F h0 hF i j hij hi hj _ (Frm.grown hg (fun k hk => .inl (hQ.1 k hk))) (Kd.Q_mono (Kd.Q_bound hr) (fun k hk => hk.1.elim .inl (fun h2 => .inr ⟨h2, hk.2.2.1⟩))))
theorem evS_append_val_step {Kc : Act → World → Prop} (d : Kd α) (HH : OwnS S As w0 W) (i j : Nat) (hij : i ≠ j) (hw : Region.wanted o (yielded ops a.tmps) = true) (s x : Operand) (t e : TypeId) (z : Value) (bytes : Nat)
    (ho : o.op = .call { callee := .builtin .append, args := #[s, x], argTypes := #[t, t] })
    (ht : P.underlying t = some (.slice e)) (hinfo : (P.info? e).map (fun i => (i.zero, i.size, i.bytes)) = some (some z, d.sz, bytes)) (hz : z.cells.size = d.sz) (hs0 : 0 < d.sz) (hb0 : 0 < bytes)
    (v : Value) (xs : List α) (p : α) (cs : List Value) (hi : As[i]? = some (qrow d e v xs)) (hj : As[j]? = some (Sep.val d p cs)) (hs : a.eval s = v) (hx : a.eval x = .slice (some ⟨W.heap.size, 0, none⟩) 1 1) (hl : (xs.length + 1) * bytes ≤ 140737488355328)
    (h : ∀ A c w1, OwnS S ((As.set i (qrow d e (.slice A (xs.length + 1) c) (xs ++ [p]))).set j emp) w0 w1 → Kc (a.put o.dst (.slice A (xs.length + 1) c)) w1) :
    if Region.wanted o (yielded ops a.tmps) = true then Oper.wp P o a (W.alloc (.cells cs.toArray e)) Kc Q else Kc (a.put o.dst undef) (W.alloc (.cells cs.toArray e)) := by
  obtain ⟨h0, F, hF⟩ := HH
  have hQ : d.Q e W 0 (Fp S w0 W F i) v xs := hF i _ hi
  have hM : d.M W 0 (Fp S w0 W F j) p cs := hF j _ hj
  refine Kd.Q_append_step d (w0 := W) 0 hw s x t e z bytes ho ht hinfo hz hs0 hb0 v xs p cs (fun k => (Fp S w0 W F i k ∨ Fp S w0 W F j k) ∨ W.heap.size ≤ k) (Fp S w0 W F j) hs hx hM (fun k hk => ⟨.inl (.inr hk), fun e => fpS_apart hij (hQ.1 k e.symm) hk⟩) (fun k hk => .inr hk) (Kd.Q_mono hQ (fun _ hk => .inl (.inl hk))) (Below.refl 0 W) (Nat.zero_le _) hl ?_
  intro v1 w1 hr hb hg hat
  obtain ⟨A, c, rfl, _⟩ := Kd.Q_slice hr
  rw [List.length_append] at hr ⊢
  exact h A c w1 (ownS_mod2F h0 hF i j hij hi hj _ (Frm.grown hg (fun k hk => .inl (hQ.1 k hk))) (Kd.Q_mono (Kd.Q_bound hr) (fun k hk => hk.1.elim .inl (fun h2 => .inr ⟨h2, hk.2.2.1⟩))))
end
end Go.Proofs.Ytkppilpailbpeaa.Obj
