/- Talk's heap: no ballot of a case is ever written over; the row of what is under way; events. -/
import Derived.Test.YtkppilpailbpeaaVotTalkP
import Derived.Test.YtkppilpailbpeaaVotTakeAll
import Derived.Test.YtkppilpailbpeaaVotStep
import Derived.Test.YtkppilpailbpeaaObjMore
import Derived.Test.YtkppilpailbpeaaObjStep
namespace Go.Proofs.Ytkppilpailbpeaa.Vot
open Go Go.RowKit Go.Proofs.YtkppilpailbpeaaW.PrintWords Go.Proofs.Ytkppilpailbpeaa.Cnt Go.Proofs.Ytkppilpailbpeaa.Opn Go.Proofs.Ytkppilpailbpeaa.Sep Go.Proofs.Ytkppilpailbpeaa.Obj
set_option linter.unusedVariables false
set_option linter.unusedSimpArgs false

/-! cases as they lie -/
structure RC where
  c : Cas
  A1 : Option Addr
  c1 : Nat
  A2 : Option Addr
  c2 : Nat
def rcC (x : RC) : Array Value := #[.bool x.c.echoed, .bool x.c.readied, .bool x.c.done, .slice x.A1 x.c.echoes.length x.c1, .slice x.A2 x.c.readies.length x.c2]
def flat {α : Type} (sz : Nat) (f : α → List Value) (hl : ∀ x, (f x).length = sz) (h1 : ∀ x, ∀ u ∈ f x, u.oneCell' = true) : Kd α where
  sz := sz
  E := []
  K := fun _ x cs => cs = f x
  M := fun _ _ _ x cs => cs = f x
  K_len := fun h => by rw [h]; exact hl _
  K_one := fun h u hu => h1 _ u (by rw [← h]; exact hu)
  K_below := fun _ h => h
  K_of_M := fun h => h
  M_mono := fun _ h => h
  M_bound := fun h => h
  M_move := fun _ h => h
  M_lower := fun _ h => h
def kRC : Kd RC := flat 5 (fun x => (rcC x).toList) (fun _ => rfl) (fun x u hu => by simp [rcC] at hu; rcases hu with rfl | rfl | rfl | rfl | rfl <;> rfl)
def kSt : Kd ByteArray := flat 1 (fun x => [.string x]) (fun _ => rfl) (fun x u hu => by simp at hu; subst hu; rfl)
def kBo : Kd Bool := flat 1 (fun x => [.bool x]) (fun _ => rfl) (fun x u hu => by simp at hu; subst hu; rfl)
def RBs (w : World) (x : RC) : Prop := RB w (.slice x.A1 x.c.echoes.length x.c1) x.c.echoes ∧ RB w (.slice x.A2 x.c.readies.length x.c2) x.c.readies
def Kept2 (t : TypeId) : Prop := t = 77 ∨ t = 72
def BalT (w : World) (k : Nat) : Prop := ∃ cells t, Kept2 t ∧ w.heap[k]? = some (.cells cells t (0, 0))
theorem RB_keep {w w' : World} {v : Value} {l : List Bal} (h : RB w v l) (hk : ∀ k, k < w.heap.size → BalT w k → w'.heap[k]? = w.heap[k]?) : RB w' v l :=
  Kd.R_mono (Kd.R_move (Kd.R_bound h) (fun k ⟨_, _, h3, q, hq, cells, hc⟩ => hk k h3 ⟨cells, _, .inl rfl, by rw [hc, tyB' q hq]⟩)) (fun _ _ => trivial)
theorem RO_keep {w w' : World} {v : Value} {l : List Out} (h : RO w v l) (hk : ∀ k, k < w.heap.size → BalT w k → w'.heap[k]? = w.heap[k]?) : RO w' v l :=
  Kd.R_mono (Kd.R_move (Kd.R_bound h) (fun k ⟨_, _, h3, q, hq, cells, hc⟩ => hk k h3 ⟨cells, _, .inr rfl, by rw [hc, tyO q hq]⟩)) (fun _ _ => trivial)
theorem RO_frm {S : Nat → Prop} {w w' : World} {v : Value} {l : List Out} (h : RO w v l) (hf : Frm S w w') (hS : ∀ k, S k → ¬ BalT w k) : RO w' v l :=
  RO_keep h (fun k hk hb => hf.block k hk (fun hs => hS k hs hb))
theorem RO_at {w : World} {A : Option Addr} {c n : Nat} {l : List Out} (h : RO w (.slice A n c) l) (i : Nat) (hi : i < l.length) : ∃ g, A = some ⟨g, 0, none⟩ ∧ w.cell? ⟨g, i * 2, none⟩ = some (.int .i64 l[i].kind) ∧ w.cell? ⟨g, i * 2 + 1, none⟩ = some (.string l[i].body) := by
  have hC := (Kd.R_reads' h).2.2
  obtain ⟨inner, ho⟩ := Kd.R_own h
  obtain ⟨g, cap, e, _, _⟩ := ho.form (by omega)
  injection e with e1 _ _
  subst e1
  obtain ⟨ad, cs, ea, _, hK, hc⟩ := Kd.C_get hC l[i] (i : Int) (by omega) (by omega)
  cases ea
  obtain rfl := kO_open hK
  have h0 := hc 0 _ rfl
  have h1 := hc 1 _ rfl
  rw [Addr.add_mid] at h0 h1
  have e2 : l.getD (i : Int).toNat l[i] = l[i] := by simp [hi]
  have e3 : kO.sz = 2 := rfl
  rw [e2, e3] at h0 h1
  refine ⟨g, rfl, ?_, ?_⟩
  · simpa using h0
  · simpa using h1
theorem RBs_frm {S : Nat → Prop} {w w' : World} {x : RC} (h : RBs w x) (hf : Frm S w w') (hS : ∀ k, S k → ¬ BalT w k) : RBs w' x :=
  ⟨RB_keep h.1 (fun k hk hb => hf.block k hk (fun hs => hS k hs hb)), RB_keep h.2 (fun k hk hb => hf.block k hk (fun hs => hS k hs hb))⟩
theorem RBs_below {w w' : World} {x : RC} (h : RBs w x) (hb : Below w.heap.size w w') : RBs w' x := ⟨Kd.R_below h.1 hb, Kd.R_below h.2 hb⟩
theorem RBs_made {w : World} {v : Value} {c : Cas} (h : CaseM w v c) : ∃ x : RC, x.c = c ∧ v = .agg (rcC x) ∧ RBs w x := by
  obtain ⟨A1, c1, A2, c2, e, h1, h2⟩ := h
  exact ⟨⟨c, A1, c1, A2, c2⟩, rfl, e, h1, h2⟩
theorem RBs_reads {w : World} {x : RC} (h : RBs w x) : x.c.echoes.length ≤ x.c1 ∧ kB.C w x.A1 x.c.echoes.length x.c.echoes ∧ x.c.readies.length ≤ x.c2 ∧ kB.C w x.A2 x.c.readies.length x.c.readies := by
  obtain ⟨_, l1, r1⟩ := Kd.R_reads' h.1
  obtain ⟨_, l2, r2⟩ := Kd.R_reads' h.2
  exact ⟨l1, r1, l2, r2⟩

/-! a heap that begins anew -/
def NoBal (A : Asr) : Prop := ∀ w S, A.P w S → A.P w (fun k => S k ∧ ¬ BalT w k)
theorem noBal_blk {g : Nat} {cs : Array Value} {t : TypeId} (ht : ¬ Kept2 t) : NoBal (Sep.blk g cs t) := by
  intro w S h
  refine ⟨h.1, h.2, ?_⟩
  rintro ⟨cells, q, hq, hc⟩
  rw [h.1] at hc
  injection hc with hc
  injection hc with _ hc
  exact ht (hc ▸ hq)
theorem noBal_row {α : Type} {d : Kd α} {e : Nat} {v : Value} {xs : List α} (ht : ∀ q, q ∈ e :: d.E → ¬ Kept2 q) : NoBal (Sep.row d e v xs) := by
  intro w S h
  refine Kd.R_mono (Kd.R_bound h) (fun k hk => ⟨hk.1, ?_⟩)
  obtain ⟨_, _, _, q, hq, cells, hc⟩ := hk
  rintro ⟨cells', q', hq', hc'⟩
  rw [hc] at hc'
  injection hc' with hc'
  injection hc' with _ hc'
  exact ht q hq (hc' ▸ hq')
theorem noBal_emp : NoBal emp := fun _ _ _ => trivial
theorem noBal_flat {α : Type} {sz : Nat} {f : α → List Value} {hl : ∀ x, (f x).length = sz} {h1 : ∀ x, ∀ u ∈ f x, u.oneCell' = true} {e : Nat} {v : Value} {xs : List α} (he : ¬ Kept2 e) : NoBal (Sep.row (flat sz f hl h1) e v xs) :=
  noBal_row (fun q hq => by
    have : q = e := by simpa [flat] using hq
    rw [this]; exact he)
theorem notKept {t : TypeId} (h : decide (t = 77) = false) (h2 : decide (t = 72) = false) : ¬ Kept2 t := fun e => e.elim (fun e => by rw [decide_eq_true e] at h; cases h) (fun e => by rw [decide_eq_true e] at h2; cases h2)
theorem rebase {S : Nat → Prop} {As : List Asr} {w0 w : World} (h : OwnS S As w0 w) (hN : ∀ A ∈ As, NoBal A) :
    ∃ S' : Nat → Prop, OwnS S' As w w ∧ (∀ k, S' k → ¬ BalT w k) ∧ ∀ Bs w', OwnS S' Bs w w' → OwnS S Bs w0 w' := by
  obtain ⟨h0, F, hF⟩ := h
  refine ⟨fun k => Uni S w0 w k ∧ ¬ BalT w k, ⟨Frm.refl _ _, F, fun i A hi => ?_⟩, fun k hk => hk.2, fun Bs w' ⟨h1, F', hF'⟩ => ⟨Frm.le h0 (Frm.mono h1 (fun k _ hs => hs.1.1)), F', fun i B hi => ?_⟩⟩
  · refine A.mono (fun k hk => ?_) (hN A (List.mem_of_getElem? hi) _ _ (hF i A hi))
    exact ⟨⟨.inl ⟨hk.1.1, hk.2⟩, hk.1.1.2⟩, hk.1.2⟩
  · refine B.mono (fun k hk => ?_) (hF' i B hi)
    obtain ⟨⟨hk1, hk2⟩, hk3⟩ := hk
    refine ⟨⟨?_, hk2⟩, hk3⟩
    rcases hk1 with hk1 | hk1
    · exact hk1.1.1
    · exact .inr (Nat.le_trans h0.size hk1)
/-- a call that is given the first parts -/
theorem ownS_part {S : Nat → Prop} {As Cs : List Asr} {w0 w : World} (h : OwnS S (As ++ Cs) w0 w) :
    ∃ S' : Nat → Prop, OwnS S' As w w ∧ ∀ Bs w', OwnS S' Bs w w' → OwnS S (Bs ++ Cs) w0 w' := by
  obtain ⟨h0, F, hF⟩ := h
  refine ⟨fun k => Uni S w0 w k ∧ F k < As.length, ⟨Frm.refl _ _, F, fun i A hi => ?_⟩, fun Bs w' ⟨h1, F', hF'⟩ => ⟨Frm.le h0 (Frm.mono h1 (fun k _ hs => hs.1.1)), fun k => if k < w.heap.size ∧ As.length ≤ F k then F k - As.length + Bs.length else F' k, fun i B hi => ?_⟩⟩
  · have hl := (List.getElem?_eq_some_iff.1 hi).1
    refine A.mono (fun k hk => ?_) (hF i A (by rw [List.getElem?_append_left hl]; exact hi))
    exact ⟨⟨.inl ⟨hk.1, by rw [hk.2]; exact hl⟩, hk.1.2⟩, hk.2⟩
  · rcases Nat.lt_or_ge i Bs.length with hl | hl
    · rw [List.getElem?_append_left hl] at hi
      refine B.mono (fun k hk => ?_) (hF' i B hi)
      obtain ⟨⟨hk1, hk2⟩, hk3⟩ := hk
      refine ⟨⟨?_, hk2⟩, ?_⟩
      · rcases hk1 with hk1 | hk1
        · exact hk1.1.1
        · exact .inr (Nat.le_trans h0.size hk1)
      · refine (if_neg ?_).trans hk3
        rcases hk1 with hk1 | hk1
        · have := hk1.2; omega
        · omega
    · rw [List.getElem?_append_right hl] at hi
      refine B.mono (fun k hk => ?_) (B.move (fun k hk hlt => h1.block k hlt (fun hs => by have := hs.2; have := hk.2; omega)) (hF (As.length + (i - Bs.length)) B (by rw [List.getElem?_append_right (by omega)]; rw [Nat.add_sub_cancel_left]; exact hi)))
      refine ⟨⟨hk.1.1, Nat.lt_of_lt_of_le hk.1.2 h1.size⟩, ?_⟩
      exact (if_pos ⟨hk.1.2, by rw [hk.2]; omega⟩).trans (by rw [hk.2]; omega)

/-! what is under way -/
abbrev TU : TypeId := 69
def unC (u : Und) : List Value := [.int .u8 (u.dst : Int), .int .u8 (u.who : Int), .int .i64 u.kind, .string u.body]
def unsC (us : List Und) : List Value := us.flatMap unC
theorem unsC_len (us : List Und) : (unsC us).length = us.length * 4 := by
  induction us with
  | nil => rfl
  | cons u r ih => simp only [unsC, List.flatMap_cons, List.length_append, List.length_cons] at ih ⊢; rw [ih]; simp [unC]; omega
theorem unsC_app (a b : List Und) : unsC (a ++ b) = unsC a ++ unsC b := by simp [unsC]
theorem unC_one (u : Und) : ∀ q ∈ unC u, q.oneCell' = true := fun q hq => by simp [unC] at hq; rcases hq with rfl | rfl | rfl | rfl <;> rfl
theorem unsC_one (us : List Und) : ∀ q ∈ unsC us, q.oneCell' = true := fun q hq => by
  obtain ⟨u, _, h⟩ := List.mem_flatMap.1 hq
  exact unC_one u q h
theorem unsC_drop (us : List Und) : ∀ k, (unsC us).drop (k * 4) = unsC (us.drop k) := by
  induction us with
  | nil => intro k; simp [unsC]
  | cons u r ih =>
    intro k
    cases k with
    | zero => simp
    | succ k =>
      rw [List.drop_succ_cons, ← ih k, show (k + 1) * 4 = 4 + k * 4 by omega, ← List.drop_drop]
      rfl
theorem unsC_take (us : List Und) : ∀ k, (unsC us).take (k * 4) = unsC (us.take k) := by
  induction us with
  | nil => intro k; simp [unsC]
  | cons u r ih =>
    intro k
    cases k with
    | zero => simp [unsC]
    | succ k =>
      rw [List.take_succ_cons, show unsC (u :: r) = unC u ++ unsC r from rfl, show unsC (u :: r.take k) = unC u ++ unsC (r.take k) from rfl, ← ih k, List.take_append, List.take_of_length_le (by simp [unC]; omega), show (unC u).length = 4 from rfl, show (k + 1) * 4 - 4 = k * 4 by omega]
theorem unsC_at {us : List Und} {i : Nat} (hi : i < us.length) : ((unsC us).drop (i * 4)).take 4 = unC us[i] := by
  rw [unsC_drop, show (4 : Nat) = 1 * 4 from rfl, unsC_take]
  have : (us.drop i).take 1 = [us[i]] := by rw [List.drop_eq_getElem_cons hi]; rfl
  rw [this]
  simp [unsC]
def WRow (w : World) (S : Nat → Prop) (v : Value) (us : List Und) : Prop :=
  (us = [] ∧ v = .slice none 0 0) ∨ ∃ g off cap cur, v = .slice (some ⟨g, off * 4, none⟩) us.length cap ∧ S g ∧ w.heap[g]? = some (.cells cur TU (0, 0)) ∧ us.length ≤ cap ∧ off + cap ≤ maxLen ∧ (off + cap) * 4 ≤ cur.size ∧ (cur.toList.drop (off * 4)).take (us.length * 4) = unsC us
def wayA (v : Value) (us : List Und) : Asr where
  P := fun w S => WRow w S v us
  mono := fun {w S S'} h a => a.elim .inl (fun ⟨g, off, cap, cur, h1, h2, h3⟩ => .inr ⟨g, off, cap, cur, h1, h _ h2, h3⟩)
  move := fun {w w' S} h a => a.elim .inl (fun ⟨g, off, cap, cur, h1, h2, h3, h4⟩ => .inr ⟨g, off, cap, cur, h1, h2, (h g h2 (blk_lt h3)).trans h3, h4⟩)
theorem noBal_way {v : Value} {us : List Und} : NoBal (wayA v us) := by
  intro w S h
  rcases h with h | ⟨g, off, cap, cur, h1, h2, h3, h4⟩
  · exact .inl h
  · refine .inr ⟨g, off, cap, cur, h1, ⟨h2, ?_⟩, h3, h4⟩
    rintro ⟨cells, q, hq, hc⟩
    rw [h3] at hc
    injection hc with hc
    injection hc with _ hc
    rcases hq with rfl | rfl <;> exact absurd hc (by decide)
theorem way_nil (w : World) (S : Nat → Prop) : (wayA (.slice none 0 0) []).P w S := .inl ⟨rfl, rfl⟩
theorem way_form {w : World} {S : Nat → Prop} {v : Value} {us : List Und} (h : (wayA v us).P w S) : ∃ A c, v = .slice A us.length c ∧ us.length ≤ c := by
  rcases h with ⟨rfl, rfl⟩ | ⟨g, off, cap, cur, rfl, _, _, h4, _⟩
  · exact ⟨none, 0, rfl, Nat.le_refl _⟩
  · exact ⟨_, cap, rfl, h4⟩
theorem way_len {w : World} {S : Nat → Prop} {A : Option Addr} {n c : Nat} {us : List Und} (h : (wayA (.slice A n c) us).P w S) : n = us.length ∧ n ≤ c := by
  obtain ⟨A', c', e, h1⟩ := way_form h
  injection e with _ e2 e3
  subst e2; subst e3
  exact ⟨rfl, h1⟩
/-- where the row begins -/
theorem way_front {w : World} {S : Nat → Prop} {A : Option Addr} {n c : Nat} {us : List Und} (h : (wayA (.slice A n c) us).P w S) (hn : 0 < n) : ∃ g off, A = some ⟨g, off * 4, none⟩ ∧ off + c ≤ maxLen := by
  rcases h with ⟨_, e⟩ | ⟨g, off, cap, cur, e, _, _, _, h5, _⟩
  · injection e with _ e2 _; omega
  · injection e with e1 _ e3
    exact ⟨g, off, e1, by rw [e3]; exact h5⟩
theorem way_at {w : World} {S : Nat → Prop} {g off n c : Nat} {us : List Und} (h : (wayA (.slice (some ⟨g, off * 4, none⟩) n c) us).P w S) {i : Nat} (hi : i < us.length) : w.rangeAt g (off * 4 + i * 4) (unC us[i]) := by
  rcases h with ⟨e, _⟩ | ⟨g', off', cap, cur, e, _, hb, h4, _, h6, ht⟩
  · rw [e] at hi; simp at hi
  · injection e with e1 _ _
    injection e1 with e1
    injection e1 with e1 e2
    subst e1
    have e3 : off' = off := by omega
    subst e3
    have hr := World.rangeAt_of_block hb (off' * 4 + i * 4) 4
    have e4 : (cur.extract (off' * 4 + i * 4) (off' * 4 + i * 4 + 4)).toList = unC us[i] := by
      rw [← unsC_at hi, ← ht, Array.toList_extract, List.extract_eq_take_drop, List.drop_take, List.take_take, List.drop_drop, Nat.min_eq_left (by omega)]
      congr 1
      omega
    rw [e4] at hr
    exact hr
/-- xs[k:] -/
theorem way_drop {w : World} {S : Nat → Prop} {g off n c : Nat} {us : List Und} (h : (wayA (.slice (some ⟨g, off * 4, none⟩) n c) us).P w S) {k : Nat} (hk : k ≤ n) : (wayA (.slice (if c = k then some ⟨g, off * 4, none⟩ else (some (⟨g, off * 4, none⟩ : Addr)).map (·.add (k * 4))) (n - k) (c - k)) (us.drop k)).P w S := by
  rcases h with ⟨_, e⟩ | ⟨g', off', cap, cur, e, hS, hb, h4, h5, h6, ht⟩
  · cases e
  · injection e with e1 e2 e3
    injection e1 with e1
    injection e1 with e1 e2'
    subst e1; subst e2; subst e3
    have e3 : off' = off := by omega
    subst e3
    by_cases hc : c = k
    · subst hc
      have hn : us.length = c := by omega
      rw [if_pos rfl, hn, Nat.sub_self]
      refine .inr ⟨g, off', 0, cur, ?_, hS, hb, ?_, by omega, by omega, ?_⟩
      · rw [List.length_drop, hn, Nat.sub_self]
      · rw [List.length_drop, hn, Nat.sub_self]; exact Nat.le_refl _
      · rw [List.drop_of_length_le (by omega)]; simp [unsC]
    · rw [if_neg hc, Option.map_some, Addr.add_mid]
      refine .inr ⟨g, off' + k, c - k, cur, ?_, hS, hb, by rw [List.length_drop]; omega, by omega, ?_, ?_⟩
      · rw [List.length_drop, show (off' + k) * 4 = off' * 4 + k * 4 by omega]
      · rw [show off' + k + (c - k) = off' + c by omega]; exact h6
      · rw [← unsC_drop, ← ht, List.drop_take, List.drop_drop, List.length_drop]
        congr 2 <;> omega
theorem way_cut {w : World} {S : Nat → Prop} {g off n c : Nat} {us : List Und} (h : (wayA (.slice (some ⟨g, off * 4, none⟩) n c) us).P w S) {k : Nat} (hk : k ≤ n) : (wayA (.slice (some ⟨g, off * 4, none⟩) k k) (us.take k)).P w S := by
  rcases h with ⟨_, e⟩ | ⟨g', off', cap, cur, e, hS, hb, h4, h5, h6, ht⟩
  · cases e
  · injection e with e1 e2 e3
    injection e1 with e1
    injection e1 with e1 e2'
    subst e1; subst e2; subst e3
    have e3 : off' = off := by omega
    subst e3
    have hl : (us.take k).length = k := by rw [List.length_take]; omega
    refine .inr ⟨g, off', k, cur, by rw [hl], hS, hb, by omega, by omega, by omega, ?_⟩
    rw [hl, ← unsC_take, ← ht, List.take_take, Nat.min_eq_left (by omega)]
section
variable {P : Program}
theorem way_append (w : World) (t ty : TypeId) (i : TypeInfo) (z : Value) (bytes : Nat) (ht : P.underlying t = some (.slice TU)) (hi : P.info? TU = some i) (hz : i.zero = some z)
    (hsize : i.size = 4) (hby : i.bytes = bytes) (hzs : z.cells.size = 4) {S : Nat → Prop} {v : Value} {us vs : List Und} (h : WRow w S v us) (ad : Addr) (c : Nat) (hnews : ∀ j q, (unsC vs)[j]? = some q → w.cell? (ad.add j) = some q)
    (hm : 0 < vs.length) (h63 : us.length + vs.length ≤ maxLen) (hbytes : (us.length + vs.length) * bytes ≤ 140737488355328) :
    ∃ A c' w', (Builtin.append_ #[t, t] ty #[v, .slice (some ad) vs.length c]).run P w = .ok (.slice A (us.length + vs.length) c') w' ∧ WRow w' (fun k => S k ∨ (w.heap.size ≤ k ∧ k < w'.heap.size)) (.slice A (us.length + vs.length) c') (us ++ vs) ∧ Frm S w w' := by
  have hl : (unsC vs).length = vs.length * 4 := unsC_len vs
  have mk : ∀ v' w', w'.ownsRow w.heap.size TU 4 v' (us.length + vs.length) (unsC us ++ unsC vs) → ∃ A c', v' = .slice A (us.length + vs.length) c' ∧ WRow w' (fun k => S k ∨ (w.heap.size ≤ k ∧ k < w'.heap.size)) (.slice A (us.length + vs.length) c') (us ++ vs) := by
    intro v' w' ho
    rcases ho.2 with ⟨_, h0⟩ | ⟨g, cap, cur, rfl, hb, hh, hnc, hcm, hcs, htk⟩
    · omega
    · refine ⟨_, cap, rfl, .inr ⟨g, 0, cap, cur, ?_, .inr ⟨hb, blk_lt hh⟩, hh, by rw [List.length_append]; exact hnc, by omega, by rw [hcs]; omega, ?_⟩⟩
      · rw [List.length_append, Nat.zero_mul]
      · rw [Nat.zero_mul, List.drop_zero, List.length_append, unsC_app]; exact htk
  rcases h with ⟨rfl, rfl⟩ | ⟨g, off, cap, cur, rfl, hS, hb, hnc, hcm, hcs, htk⟩
  · obtain ⟨v', w', hr, r1, r2, _⟩ := run_append_own (P := P) w w.heap.size t ty TU i z 4 bytes ht hi hz hsize hby hzs (by decide) (.slice none 0 0) 0 [] (World.ownsRow_nil w _ TU 4) ad vs.length c (unsC vs) hl hnews (unsC_one vs) (by simpa using h63) (by simpa using hbytes) (Nat.le_refl _)
    simp only [List.nil_append] at r1
    obtain ⟨A, c', rfl, hW⟩ := mk v' w' (by simpa [unsC] using r1)
    exact ⟨A, c', w', hr, hW, Frm.grown r2 (fun k hk => by simp [Value.ownBlock] at hk)⟩
  · by_cases hroom : us.length + vs.length ≤ cap
    · have hfit : off * 4 + us.length * 4 + (unsC vs).length ≤ cur.size := by rw [hl]; omega
      have hr := run_append_room_cells (P := P) (w := w) t ty TU i ht hi g (off * 4) us.length cap ad vs.length c (unsC vs) (by rw [hsize]; exact hl) hnews (unsC_one vs) hroom
        (fun j hj => by rw [cell_of_row w g _ cur TU (0, 0) hb]; simp; rw [hsize]; omega) (fun j _ => blk_frozen hb _)
      rw [hsize] at hr
      obtain ⟨cur', h3, h4, h5⟩ := setCells_row (unsC vs) (off * 4 + us.length * 4) w cur hb hfit
      obtain ⟨s1, s2, s3, s4⟩ := setCells_same g (unsC vs) (off * 4 + us.length * 4) w
      refine ⟨_, _, _, hr, .inr ⟨g, off, cap, cur', by rw [List.length_append], .inl hS, h3, by rw [List.length_append]; exact hroom, hcm, by rw [h4]; exact hcs, ?_⟩, ⟨s1, s2, s3, by rw [s4]; exact Nat.le_refl _, fun k _ hk => setCells_far _ _ k (fun he => hk (by rw [he]; exact hS))⟩⟩
      have hcl : cur.toList.length = cur.size := Array.length_toList
      rw [List.length_append, unsC_app, h5, List.append_assoc, List.drop_append_of_le_length (by rw [List.length_take, hcl]; omega), List.drop_take]
      rw [show off * 4 + us.length * 4 - off * 4 = us.length * 4 by omega, htk]
      rw [← List.append_assoc]
      exact List.take_left' (by rw [List.length_append, unsC_len, hl, Nat.add_mul])
    · obtain ⟨v', w', hr, ho, hg⟩ := run_append_arg_grows (P := P) (w := w) t ty TU i z 4 bytes ht hi hz hsize hby hzs (by decide) ⟨g, off * 4, none⟩ us.length cap (unsC us) (unsC_len us) (fun j u hu => by
        rw [Addr.add_mid, cell_of_row w g _ cur TU (0, 0) hb]
        rw [← htk, List.getElem?_take] at hu
        split at hu
        · rw [List.getElem?_drop] at hu
          rw [← Array.getElem?_toList]
          exact hu
        · cases hu) ad vs.length c (unsC vs) hl hnews (by omega) h63 hbytes
      obtain ⟨A, c', rfl, hW⟩ := mk v' w' ho
      exact ⟨A, c', w', hr, hW, ⟨hg.os, hg.tape, hg.output, hg.size, fun k hk _ => hg.block k hk (by simp)⟩⟩
end
end Go.Proofs.Ytkppilpailbpeaa.Vot
