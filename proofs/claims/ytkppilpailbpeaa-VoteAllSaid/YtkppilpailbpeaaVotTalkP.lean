/- Plain law of talk: members, the first f of which are corrupt, whose votes come in any order. -/
import Derived.Test.YtkppilpailbpeaaTopPlain
import Derived.Test.YtkppilpailbpeaaVotErrP
namespace Go.Proofs.Ytkppilpailbpeaa.Vot
open Go Go.RowKit Go.Proofs.YtkppilpailbpeaaW.PrintWords Go.Proofs.Ytkppilpailbpeaa.Cnt Go.Proofs.Ytkppilpailbpeaa.Opn
set_option linter.unusedVariables false

structure Und where
  dst : Nat
  who : Nat
  kind : Int
  body : ByteArray
def upd {α : Type} (f : Nat → α) (i : Nat) (x : α) : Nat → α := fun j => if j = i then x else f j
theorem upd_self {α : Type} (f : Nat → α) (i : Nat) (x : α) : upd f i x i = x := by simp [upd]
theorem upd_ne {α : Type} (f : Nat → α) {i j : Nat} (x : α) (h : j ≠ i) : upd f i x j = f j := by simp [upd, h]
theorem upd_id {α : Type} (f : Nat → α) (i : Nat) : upd f i (f i) = f := by
  funext j
  by_cases h : j = i
  · subst h; exact upd_self _ _ _
  · exact upd_ne _ _ h
abbrev Bit (l : List Bal) (b : ByteArray) (j : Nat) : Prop := (forL l b).testBit j = true
theorem forL_ne {a b : ByteArray} (h : b ≠ a) (id : Int) : ∀ l : List Bal, forL (withL l id a) b = forL l b
  | [] => by
    have : hit b ⟨a, bitN id⟩ = false := (bytes_ne _ _).2 (fun e => h e.symm)
    simp [withL, forL, this]
  | x :: r => by
    have ih := forL_ne h id r
    unfold withL
    by_cases hx : hit a x = true
    · have e : x.body = a := (bytes_eq _ _).1 hx
      have h1 : hit b x = false := (bytes_ne _ _).2 (fun e' => h (e'.symm.trans e))
      have h2 : hit b ⟨x.body, x.who ||| bitN id⟩ = false := h1
      simp [hx, forL, h1, h2]
    · simp only [hx, Bool.false_eq_true, if_false, forL]
      rw [ih]
theorem voted_withL (id : Int) (a : ByteArray) (j : Int) : ∀ l : List Bal, votedL (withL l id a) j = (votedL l j || hasB (bitN id) j)
  | [] => by simp [withL, votedL]
  | x :: r => by
    have ih := voted_withL id a j r
    unfold withL
    split
    · simp only [votedL, List.any_cons, hasB_or]
      cases hasB x.who j <;> cases hasB (bitN id) j <;> simp
    · unfold votedL at ih ⊢
      rw [List.any_cons, ih, List.any_cons, Bool.or_assoc]
theorem bit_with {l : List Bal} {k : Nat} {a b : ByteArray} {j : Nat} (hk : k < 16) : Bit (withL l (k : Int) a) b j ↔ Bit l b j ∨ (b = a ∧ j = k) := by
  unfold Bit
  by_cases h : b = a
  · subst h
    rw [forL_with, bitN_nat k hk, Nat.testBit_or, Nat.testBit_two_pow, Bool.or_eq_true, decide_eq_true_iff]
    exact ⟨fun h => h.imp id fun h => ⟨rfl, h.symm⟩, fun h => h.imp id fun h => h.2.symm⟩
  · rw [forL_ne h]
    simp [h]
theorem voted_with_nat {l : List Bal} {k j : Nat} {a : ByteArray} (hk : k < 16) (h : votedL (withL l (k : Int) a) (j : Int) = true) : votedL l (j : Int) = true ∨ j = k := by
  rw [voted_withL, Bool.or_eq_true] at h
  rcases h with h | h
  · exact .inl h
  · right
    unfold hasB at h
    rw [bitN_nat k hk, Bool.and_eq_true, Int.toNat_natCast, Nat.testBit_two_pow] at h
    exact (of_decide_eq_true h.2).symm
theorem sz_mono {a b : Nat} (h : ∀ j, a.testBit j = true → b.testBit j = true) : sz a ≤ sz b := by
  unfold sz
  exact List.countP_mono_left fun x _ hx => h x hx
theorem sz_below : ∀ k : Fin 17, (List.range 16).countP (fun i => decide (i < k.val)) = k.val := by decide
theorem sz_le {s f : Nat} (hf : f ≤ 16) (h : ∀ j, j < 16 → s.testBit j = true → j < f) : sz s ≤ f := by
  have h1 : sz s ≤ (List.range 16).countP (fun i => decide (i < f)) := by
    unfold sz
    exact List.countP_mono_left fun x hx hb => by simpa using h x (by simpa using hx) hb
  have h2 := sz_below ⟨f, by omega⟩
  simp only at h2
  omega
theorem honest_in {s f n : Nat} (hf : f ≤ 16) (hn : ∀ j, s.testBit j = true → j < n) (h : f + 1 ≤ sz s) : ∃ j, (f ≤ j ∧ j < n) ∧ s.testBit j = true := by
  apply Classical.byContradiction
  intro hc
  have := sz_le (s := s) hf (fun j _ hb => by
    rcases Nat.lt_or_ge j f with h1 | h1
    · exact h1
    · exact absurd ⟨j, ⟨h1, hn j hb⟩, hb⟩ hc)
  omega
theorem sz_ge {s f n : Nat} (hn : n ≤ 16) (h : ∀ j, f ≤ j → j < n → s.testBit j = true) : n - f ≤ sz s := by
  have hu := countP_diff (fun i => decide (i < n)) (fun i => decide (i < f)) (List.range 16)
  have h1 : (List.range 16).countP (fun i => decide (i < n) && !decide (i < f)) ≤ sz s := by
    unfold sz
    exact List.countP_mono_left fun x _ hb => h x (by simp at hb; omega) (by simp at hb; omega)
  have h2 := sz_below ⟨n, by omega⟩
  simp only at h2
  rcases Nat.lt_or_ge n f with h3 | h3
  · omega
  have h4 : (List.range 16).countP (fun i => decide (i < n) && decide (i < f)) ≤ (List.range 16).countP (fun i => decide (i < f)) :=
    List.countP_mono_left fun x _ hb => by simp at hb ⊢; omega
  have h5 := sz_below ⟨f, by omega⟩
  simp only at h5
  omega
/-- honest -/
def Hn (n f i : Nat) : Prop := f ≤ i ∧ i < n
/-- what Take does, by cases -/
theorem take_shape (c : Cas) (m : Nat) (fr kind who : Int) (body : ByteArray) :
    (∃ e, takeM c m fr kind who body = failA c e ∧ (hasB m who = true → hasB m fr = true → body.size ≤ 1000 → (kind = 1 → who = fr → c.echoed = true) ∧ (kind = 2 → votedL c.echoes who = true) ∧ (kind = 3 → votedL c.readies who = true))) ∨
    (kind = 1 ∧ who = fr ∧ c.echoed = false ∧ takeM c m fr kind who body = ⟨{ c with echoed := true }, [⟨2, body⟩], ⟨#[]⟩, false, 0⟩) ∨
    (kind = 2 ∧ votedL c.echoes who = false ∧ takeM c m fr kind who body = ⟨readyC { c with echoes := withL c.echoes who body } (decide (echoes (sz m : Nat) ≤ manyL c.echoes who body)), readyO c (decide (echoes (sz m : Nat) ≤ manyL c.echoes who body)) body, ⟨#[]⟩, false, 0⟩) ∨
    (kind = 3 ∧ votedL c.readies who = false ∧ takeM c m fr kind who body = ⟨{ readyC { c with readies := withL c.readies who body } (decide (faulty (sz m : Nat) + 1 ≤ manyL c.readies who body)) with done := c.done || doneB c (sz m : Nat) who body }, readyO c (decide (faulty (sz m : Nat) + 1 ≤ manyL c.readies who body)) body,
      if doneB c (sz m : Nat) who body = true then body else ⟨#[]⟩, doneB c (sz m : Nat) who body, 0⟩) := by
  by_cases h1 : kind < 1 ∨ 3 < kind ∨ 1000 < body.size
  · left
    refine ⟨2, by unfold takeM; rw [if_pos h1], fun _ _ hb => ⟨fun h => ?_, fun h => ?_, fun h => ?_⟩⟩ <;> omega
  by_cases h2 : hasB m who = false ∨ hasB m fr = false ∨ (kind = 1 ∧ who ≠ fr)
  · left
    refine ⟨10, by unfold takeM; rw [if_neg h1, if_pos h2], fun hw hf hb => ?_⟩
    rcases h2 with h2 | h2 | ⟨h2, h3⟩
    · rw [hw] at h2; cases h2
    · rw [hf] at h2; cases h2
    · exact ⟨fun _ h => absurd h h3, fun h => by omega, fun h => by omega⟩
  have e : takeM c m fr kind who body = if kind = 1 then sendA c body else if kind = 2 then echoA c (sz m : Nat) who body else readyA c (sz m : Nat) who body := by unfold takeM; rw [if_neg h1, if_neg h2]
  rw [e]
  by_cases k1 : kind = 1
  · rw [if_pos k1]
    have hw : who = fr := Classical.byContradiction fun h => h2 (.inr (.inr ⟨k1, h⟩))
    unfold sendA
    cases hc : c.echoed with
    | true => exact .inl ⟨6, by simp, fun _ _ _ => ⟨fun _ _ => rfl, fun h => by omega, fun h => by omega⟩⟩
    | false => exact .inr (.inl ⟨k1, hw, rfl, by simp⟩)
  by_cases k2 : kind = 2
  · rw [if_neg k1, if_pos k2]
    unfold echoA
    cases hv : votedL c.echoes who with
    | true => exact .inl ⟨6, by simp, fun _ _ _ => ⟨fun h => by omega, fun _ => rfl, fun h => by omega⟩⟩
    | false => exact .inr (.inr (.inl ⟨k2, rfl, by simp⟩))
  have k3 : kind = 3 := by omega
  rw [if_neg k1, if_neg k2]
  unfold readyA
  cases hv : votedL c.readies who with
  | true => exact .inl ⟨6, by simp, fun _ _ _ => ⟨fun h => by omega, fun h => by omega, fun _ => rfl⟩⟩
  | false => exact .inr (.inr (.inr ⟨k3, rfl, by simp⟩))

/-- enough echoes of one body, somewhere -/
def EQ (n f : Nat) (cs : Nat → Cas) (b : ByteArray) : Prop := ∃ i, Hn n f i ∧ echoes (n : Int) ≤ (sz (forL (cs i).echoes b) : Nat)
/-- what is right of a member's case -/
structure Lcl (n f : Nat) (eo ro : Nat → Option ByteArray) (c : Cas) (e r : Option ByteArray) (dn : Bool) (td : ByteArray) : Prop where
  ec : c.echoed = e.isSome
  rc : c.readied = r.isSome
  dc : c.done = dn
  ve : ∀ j : Nat, votedL c.echoes (j : Int) = true → ∃ b, Bit c.echoes b j
  vr : ∀ j : Nat, votedL c.readies (j : Int) = true → ∃ b, Bit c.readies b j
  eb : ∀ b j, Bit c.echoes b j → j < n ∧ (f ≤ j → eo j = some b)
  rb : ∀ b j, Bit c.readies b j → j < n ∧ (f ≤ j → ro j = some b)
  dq : dn = true → 2 * f + 1 ≤ sz (forL c.readies td)
  lr : ∀ b, (echoes (n : Int) ≤ (sz (forL c.echoes b) : Nat) ∨ f + 1 ≤ sz (forL c.readies b)) → c.readied = true
  ld : ∀ b, 2 * f + 1 ≤ sz (forL c.readies b) → c.done = true
structure Core (n f fr : Nat) (sent : ByteArray) (cs : Nat → Cas) (td : Nat → ByteArray) (dn : Nat → Bool) (eo ro : Nat → Option ByteArray) (P : Und → Prop) : Prop where
  lc : ∀ i, Hn n f i → Lcl n f eo ro (cs i) (eo i) (ro i) (dn i) (td i)
  rq : ∀ i b, Hn n f i → ro i = some b → EQ n f cs b
  sd : f ≤ fr → ∀ i b, Hn n f i → eo i = some b → b = sent
  we : ∀ i k b, Hn n f i → Hn n f k → eo k = some b → Bit (cs i).echoes b k ∨ P ⟨i, k, 2, b⟩
  wr : ∀ i k b, Hn n f i → Hn n f k → ro k = some b → Bit (cs i).readies b k ∨ P ⟨i, k, 3, b⟩
  ws : f ≤ fr → ∀ i, Hn n f i → (cs i).echoed = true ∨ P ⟨i, fr, 1, sent⟩
theorem Lcl.later {n f : Nat} {eo ro eo' ro' : Nat → Option ByteArray} {c : Cas} {e r : Option ByteArray} {dn : Bool} {td : ByteArray} (h : Lcl n f eo ro c e r dn td) (he : ∀ j b, eo j = some b → eo' j = some b) (hr : ∀ j b, ro j = some b → ro' j = some b) : Lcl n f eo' ro' c e r dn td :=
  { h with eb := fun b j hb => ⟨(h.eb b j hb).1, fun hj => he _ _ ((h.eb b j hb).2 hj)⟩, rb := fun b j hb => ⟨(h.rb b j hb).1, fun hj => hr _ _ ((h.rb b j hb).2 hj)⟩ }
theorem Core.step {n f fr : Nat} {sent : ByteArray} {cs : Nat → Cas} {td : Nat → ByteArray} {dn : Nat → Bool} {eo ro eo' ro' : Nat → Option ByteArray} {P P' : Und → Prop} (h : Core n f fr sent cs td dn eo ro P)
    {i : Nat} (hi : Hn n f i) {c' : Cas} {td' : Nat → ByteArray} {dn' : Nat → Bool} (htd : ∀ j, j ≠ i → td' j = td j) (hdn : ∀ j, j ≠ i → dn' j = dn j)
    (heo : ∀ j, j ≠ i → eo' j = eo j) (hro : ∀ j, j ≠ i → ro' j = ro j) (heo' : ∀ b, eo i = some b → eo' i = some b) (hro' : ∀ b, ro i = some b → ro' i = some b)
    (hl : Lcl n f eo' ro' c' (eo' i) (ro' i) (dn' i) (td' i)) (mE : ∀ b j, Bit (cs i).echoes b j → Bit c'.echoes b j) (mR : ∀ b j, Bit (cs i).readies b j → Bit c'.readies b j) (mec : (cs i).echoed = true → c'.echoed = true)
    (nE : ∀ b, eo' i = some b → eo i = some b ∨ ((f ≤ fr → b = sent) ∧ ∀ dst, Hn n f dst → P' ⟨dst, i, 2, b⟩))
    (nR : ∀ b, ro' i = some b → ro i = some b ∨ (EQ n f (upd cs i c') b ∧ ∀ dst, Hn n f dst → P' ⟨dst, i, 3, b⟩))
    (hP : ∀ x, P x → P' x ∨ (x.dst = i ∧ (x.kind = 2 → Bit c'.echoes x.body x.who) ∧ (x.kind = 3 → Bit c'.readies x.body x.who) ∧ (x.kind = 1 → c'.echoed = true))) :
    Core n f fr sent (upd cs i c') td' dn' eo' ro' P' := by
  have he : ∀ j b, eo j = some b → eo' j = some b := fun j b hj => by
    by_cases e : j = i
    · subst e; exact heo' b hj
    · rw [heo j e]; exact hj
  have hr : ∀ j b, ro j = some b → ro' j = some b := fun j b hj => by
    by_cases e : j = i
    · subst e; exact hro' b hj
    · rw [hro j e]; exact hj
  have kE : ∀ b j a, Bit (cs a).echoes b j → Bit (upd cs i c' a).echoes b j := fun b j a hb => by
    by_cases e : a = i
    · subst e; rw [upd_self]; exact mE b j hb
    · rw [upd_ne _ _ e]; exact hb
  have kR : ∀ b j a, Bit (cs a).readies b j → Bit (upd cs i c' a).readies b j := fun b j a hb => by
    by_cases e : a = i
    · subst e; rw [upd_self]; exact mR b j hb
    · rw [upd_ne _ _ e]; exact hb
  have kQ : ∀ b, EQ n f cs b → EQ n f (upd cs i c') b := fun b ⟨a, ha, hs⟩ => ⟨a, ha, by
    have := sz_mono (a := forL (cs a).echoes b) (b := forL (upd cs i c' a).echoes b) (fun j hj => kE b j a hj)
    omega⟩
  refine ⟨fun a ha => ?_, fun a b ha hb => ?_, fun hf a b ha hb => ?_, fun a k b ha hk hb => ?_, fun a k b ha hk hb => ?_, fun hf a ha => ?_⟩
  · by_cases e : a = i
    · subst e; rw [upd_self]; exact hl
    · rw [upd_ne _ _ e, heo a e, hro a e, htd a e, hdn a e]
      exact (h.lc a ha).later he hr
  · by_cases e : a = i
    · subst e
      rcases nR b hb with h1 | h1
      · exact kQ b (h.rq a b ha h1)
      · exact h1.1
    · rw [hro a e] at hb
      exact kQ b (h.rq a b ha hb)
  · by_cases e : a = i
    · subst e
      rcases nE b hb with h1 | h1
      · exact h.sd hf a b ha h1
      · exact h1.1 hf
    · rw [heo a e] at hb
      exact h.sd hf a b ha hb
  · have h2 : eo k = some b → Bit (upd cs i c' a).echoes b k ∨ P' ⟨a, k, 2, b⟩ := fun hb => by
      rcases h.we a k b ha hk hb with h1 | h1
      · exact .inl (kE b k a h1)
      · rcases hP _ h1 with h2 | ⟨h2, h3, _⟩
        · exact .inr h2
        · simp only at h2
          subst h2
          rw [upd_self]
          exact .inl (h3 rfl)
    by_cases e : k = i
    · subst e
      rcases nE b hb with h1 | h1
      · exact h2 h1
      · exact .inr (h1.2 a ha)
    · rw [heo k e] at hb
      exact h2 hb
  · have h2 : ro k = some b → Bit (upd cs i c' a).readies b k ∨ P' ⟨a, k, 3, b⟩ := fun hb => by
      rcases h.wr a k b ha hk hb with h1 | h1
      · exact .inl (kR b k a h1)
      · rcases hP _ h1 with h2 | ⟨h2, _, h3, _⟩
        · exact .inr h2
        · simp only at h2
          subst h2
          rw [upd_self]
          exact .inl (h3 rfl)
    by_cases e : k = i
    · subst e
      rcases nR b hb with h1 | h1
      · exact h2 h1
      · exact .inr (h1.2 a ha)
    · rw [hro k e] at hb
      exact h2 hb
  · rcases h.ws hf a ha with h1 | h1
    · left
      by_cases e : a = i
      · subst e; rw [upd_self]; exact mec h1
      · rw [upd_ne _ _ e]; exact h1
    · rcases hP _ h1 with h2 | ⟨h2, _, _, h3⟩
      · exact .inr h2
      · simp only at h2
        subst h2
        rw [upd_self]
        exact .inl (h3 rfl)

/-- members are right -/
structure Num (n f fr : Nat) : Prop where
  n1 : 1 ≤ n
  n7 : n ≤ 7
  fn : f = (n - 1) / 3
  fr : fr < n
theorem Num.faulty {n f fr : Nat} (h : Num n f fr) : faulty (n : Int) = (f : Int) := by
  have := h.n1; have := h.n7; have := h.fn
  unfold Cnt.faulty held
  omega
theorem Num.echoes {n f fr : Nat} (h : Num n f fr) : echoes (n : Int) = (((n + f) / 2 + 1 : Nat) : Int) := by
  have := h.n1; have := h.n7; have hf := h.faulty
  unfold Cnt.echoes
  rw [hf]
  unfold held
  omega
theorem all_bit (n k : Nat) : (2 ^ n - 1).testBit k = decide (k < n) := Nat.testBit_two_pow_sub_one n k
theorem all_has {n k : Nat} (h : k < n) (hn : n ≤ 16) : hasB (2 ^ n - 1) (k : Int) = true := by
  unfold hasB
  rw [Int.toNat_natCast, all_bit]
  simp [h]
  omega
theorem all_sz {n : Nat} (hn : n ≤ 16) : sz (2 ^ n - 1) = n := by
  unfold sz
  have h2 := sz_below ⟨n, by omega⟩
  simp only at h2
  have e : (fun i => (2 ^ n - 1).testBit i) = fun i => decide (i < n) := funext fun i => all_bit n i
  show List.countP (fun i => (2 ^ n - 1).testBit i) (List.range 16) = n
  rw [e]
  exact h2
/-- a vote is one that may come -/
def VoteOk (n f fr : Nat) (sent : ByteArray) (eo ro : Nat → Option ByteArray) (u : Und) : Prop :=
  Hn n f u.dst ∧ u.body.size ≤ 100 ∧ u.who < n ∧ (f ≤ u.who → (u.kind = 1 ∧ u.who = fr ∧ u.body = sent) ∨ (u.kind = 2 ∧ eo u.who = some u.body) ∨ (u.kind = 3 ∧ ro u.who = some u.body))
def casts (n f who : Nat) (l : List Out) : List Und := l.flatMap fun o => (List.range' f (n - f)).map fun dst => ⟨dst, who, o.kind, o.body⟩
theorem mem_casts {n f who : Nat} {k : Int} {b : ByteArray} {l : List Out} (h : (⟨k, b⟩ : Out) ∈ l) {dst : Nat} (ht : Hn n f dst) : (⟨dst, who, k, b⟩ : Und) ∈ casts n f who l := by
  unfold casts
  rw [List.mem_flatMap]
  refine ⟨_, h, ?_⟩
  rw [List.mem_map]
  refine ⟨dst, ?_, rfl⟩
  rw [List.mem_range'_1]
  unfold Hn at ht
  omega
theorem casts_mem {n f who : Nat} {l : List Out} {u : Und} (h : u ∈ casts n f who l) : Hn n f u.dst ∧ u.who = who ∧ (⟨u.kind, u.body⟩ : Out) ∈ l := by
  unfold casts at h
  rw [List.mem_flatMap] at h
  obtain ⟨o, ho, h⟩ := h
  rw [List.mem_map] at h
  obtain ⟨dst, ht, rfl⟩ := h
  rw [List.mem_range'_1] at ht
  exact ⟨⟨ht.1, by show dst < n; omega⟩, rfl, ho⟩
theorem casts_length (n f who : Nat) (l : List Out) : (casts n f who l).length = l.length * (n - f) := by
  unfold casts
  induction l with
  | nil => simp
  | cons x r ih =>
    rw [List.flatMap_cons, List.length_append, ih, List.length_cons, Nat.succ_mul]
    simp
    omega
theorem VoteOk.later {n f fr : Nat} {sent : ByteArray} {eo ro eo' ro' : Nat → Option ByteArray} {u : Und} (h : VoteOk n f fr sent eo ro u) (he : ∀ j b, eo j = some b → eo' j = some b) (hr : ∀ j b, ro j = some b → ro' j = some b) : VoteOk n f fr sent eo' ro' u :=
  ⟨h.1, h.2.1, h.2.2.1, fun hk => by
    rcases h.2.2.2 hk with h1 | ⟨h1, h2⟩ | ⟨h1, h2⟩
    · exact .inl h1
    · exact .inr (.inl ⟨h1, he _ _ h2⟩)
    · exact .inr (.inr ⟨h1, hr _ _ h2⟩)⟩
theorem upd_some {eo : Nat → Option ByteArray} {i : Nat} {x : ByteArray} (h : eo i = none) (j : Nat) (b : ByteArray) (hj : eo j = some b) : upd eo i (some x) j = some b := by
  rw [upd_ne]
  · exact hj
  · intro e
    subst e
    rw [h] at hj
    cases hj
theorem some_of {o : Option ByteArray} {c : Bool} (h : c = o.isSome) (hc : c = false) : o = none := by
  cases o with
  | none => rfl
  | some x => rw [hc] at h; cases h
theorem EQ_same {n f : Nat} {cs : Nat → Cas} {i : Nat} {c' : Cas} {b : ByteArray} (h : EQ n f cs b) (he : c'.echoes = (cs i).echoes) : EQ n f (upd cs i c') b := by
  obtain ⟨a, ha, hs⟩ := h
  refine ⟨a, ha, ?_⟩
  by_cases e : a = i
  · subst e; rw [upd_self, he]; exact hs
  · rw [upd_ne _ _ e]; exact hs
def tdS (td : Nat → ByteArray) (i : Nat) (a : Ans) : Nat → ByteArray := if a.is = true then upd td i a.body else td
def dnS (dn : Nat → Bool) (i : Nat) (a : Ans) : Nat → Bool := if a.is = true then upd dn i true else dn
theorem tdS_ne (td : Nat → ByteArray) {i j : Nat} (a : Ans) (h : j ≠ i) : tdS td i a j = td j := by
  unfold tdS
  split
  · exact upd_ne _ _ h
  · rfl
theorem dnS_ne (dn : Nat → Bool) {i j : Nat} (a : Ans) (h : j ≠ i) : dnS dn i a j = dn j := by
  unfold dnS
  split
  · exact upd_ne _ _ h
  · rfl
/-- a vote comes -/
def ComeOk (n f fr : Nat) (sent : ByteArray) (cs : Nat → Cas) (td : Nat → ByteArray) (dn : Nat → Bool) (eo ro : Nat → Option ByteArray) (P : Und → Prop) (u : Und) (a : Ans) : Prop :=
  (a.is = true → dn u.dst = false) ∧ ∃ eo' ro' : Nat → Option ByteArray, (∀ j b, eo j = some b → eo' j = some b) ∧ (∀ j b, ro j = some b → ro' j = some b) ∧ (∀ x ∈ casts n f u.dst a.outs, VoteOk n f fr sent eo' ro' x) ∧
    ∀ P' : Und → Prop, (∀ x, P x → P' x ∨ (x = u ∧ f ≤ u.who)) → (∀ x ∈ casts n f u.dst a.outs, P' x) → Core n f fr sent (upd cs u.dst a.c) (tdS td u.dst a) (dnS dn u.dst a) eo' ro' P'
theorem come_core {n f fr : Nat} {sent : ByteArray} {cs : Nat → Cas} {td : Nat → ByteArray} {dn : Nat → Bool} {eo ro : Nat → Option ByteArray} {P : Und → Prop} (hN : Num n f fr) (h : Core n f fr sent cs td dn eo ro P) (u : Und) (hu : VoteOk n f fr sent eo ro u) :
    ComeOk n f fr sent cs td dn eo ro P u (takeM (cs u.dst) (2 ^ n - 1) (fr : Int) u.kind (u.who : Int) u.body) := by
  have hn16 : n ≤ 16 := by have := hN.n7; omega
  have hi := hu.1
  have hl := h.lc u.dst hi
  have hk16 : u.who < 16 := by have := hu.2.2.1; omega
  have hEn := hN.echoes
  have hFn := hN.faulty
  have hsz := all_sz hn16
  rcases take_shape (cs u.dst) (2 ^ n - 1) (fr : Int) u.kind (u.who : Int) u.body with ⟨e, ha, hf⟩ | ⟨hk, hw, hc, ha⟩ | ⟨hk, hv, ha⟩ | ⟨hk, hv, ha⟩
  · rw [ha]
    obtain ⟨f1, f2, f3⟩ := hf (all_has hu.2.2.1 hn16) (all_has hN.fr hn16) (by have := hu.2.1; omega)
    refine ⟨fun h => (by cases h), eo, ro, fun _ _ h => h, fun _ _ h => h, fun x hx => by simp [failA, casts] at hx, fun P' hP hc => ?_⟩
    refine h.step hi (c' := cs u.dst) (fun j hj => tdS_ne _ _ hj) (fun j hj => dnS_ne _ _ hj) (fun _ _ => rfl) (fun _ _ => rfl) (fun _ h => h) (fun _ h => h) hl (fun _ _ h => h) (fun _ _ h => h) (fun h => h) (fun _ h => .inl h) (fun _ h => .inl h) (fun x hx => ?_)
    rcases hP x hx with h1 | ⟨rfl, h1⟩
    · exact .inl h1
    · refine .inr ⟨rfl, fun h2 => ?_, fun h2 => ?_, fun h2 => ?_⟩
      · rcases hu.2.2.2 h1 with ⟨h3, _⟩ | ⟨_, h3⟩ | ⟨h3, _⟩
        · omega
        · obtain ⟨b, hb⟩ := hl.ve _ (f2 h2)
          have h4 := (hl.eb b _ hb).2 h1
          rw [h3] at h4
          cases h4
          exact hb
        · omega
      · rcases hu.2.2.2 h1 with ⟨h3, _⟩ | ⟨h3, _⟩ | ⟨_, h3⟩
        · omega
        · omega
        · obtain ⟨b, hb⟩ := hl.vr _ (f3 h2)
          have h4 := (hl.rb b _ hb).2 h1
          rw [h3] at h4
          cases h4
          exact hb
      · rcases hu.2.2.2 h1 with ⟨_, h3, _⟩ | ⟨h3, _⟩ | ⟨h3, _⟩
        · exact f1 h2 (by omega)
        · omega
        · omega
  · rw [ha]
    have hwn : u.who = fr := by omega
    have hen := some_of hl.ec hc
    refine ⟨fun h => (by cases h), upd eo u.dst (some u.body), ro, upd_some hen, fun _ _ h => h, fun x hx => ?_, fun P' hP hcs => ?_⟩
    · obtain ⟨h1, h2, h3⟩ := casts_mem hx
      simp only [List.mem_singleton, Out.mk.injEq] at h3
      refine ⟨h1, by rw [h3.2]; exact hu.2.1, by rw [h2]; exact hi.2, fun _ => .inr (.inl ⟨h3.1, ?_⟩)⟩
      rw [h2, upd_self, h3.2]
    · refine h.step hi (fun j hj => tdS_ne _ _ hj) (fun j hj => dnS_ne _ _ hj) (fun j hj => upd_ne _ _ hj) (fun _ _ => rfl) (fun b hb => upd_some hen _ _ hb) (fun _ h => h) ?_ (fun _ _ h => h) (fun _ _ h => h) (fun _ => rfl) (fun b hb => ?_) (fun _ h => .inl h) (fun x hx => ?_)
      · rw [upd_self]
        exact { hl.later (upd_some hen) (fun _ _ h => h) with ec := rfl }
      · rw [upd_self] at hb
        cases hb
        refine .inr ⟨fun hff => ?_, fun dst ht => hcs _ (mem_casts (by simp) ht)⟩
        rcases hu.2.2.2 (by omega) with ⟨_, _, h3⟩ | ⟨h3, _⟩ | ⟨h3, _⟩
        · exact h3
        · omega
        · omega
      · rcases hP x hx with h1 | ⟨rfl, h1⟩
        · exact .inl h1
        · exact .inr ⟨rfl, fun h2 => by omega, fun h2 => by omega, fun _ => rfl⟩
  · rw [hsz] at ha
    have hmany : manyL (cs u.dst).echoes (u.who : Int) u.body = (sz (forL (withL (cs u.dst).echoes (u.who : Int) u.body) u.body) : Nat) := rfl
    have hbit : Bit (withL (cs u.dst).echoes (u.who : Int) u.body) u.body u.who := (bit_with hk16).2 (.inr ⟨rfl, rfl⟩)
    rw [ha]
    cases hq : decide (echoes (n : Int) ≤ manyL (cs u.dst).echoes (u.who : Int) u.body) && !(cs u.dst).readied with
    | true =>
      rw [Bool.and_eq_true, Bool.not_eq_true'] at hq
      have hrn := some_of hl.rc hq.2
      have ho : readyO (cs u.dst) (decide (echoes (n : Int) ≤ manyL (cs u.dst).echoes (u.who : Int) u.body)) u.body = [⟨3, u.body⟩] := by unfold readyO; rw [if_pos hq]
      rw [ho]
      refine ⟨fun h => (by cases h), eo, upd ro u.dst (some u.body), fun _ _ h => h, upd_some hrn, fun x hx => ?_, fun P' hP hcs => ?_⟩
      · obtain ⟨h1, h2, h3⟩ := casts_mem hx
        simp only [List.mem_singleton, Out.mk.injEq] at h3
        refine ⟨h1, by rw [h3.2]; exact hu.2.1, by rw [h2]; exact hi.2, fun _ => .inr (.inr ⟨h3.1, ?_⟩)⟩
        rw [h2, upd_self, h3.2]
      · refine h.step hi (fun j hj => tdS_ne _ _ hj) (fun j hj => dnS_ne _ _ hj) (fun _ _ => rfl) (fun j hj => upd_ne _ _ hj) (fun _ h => h) (fun b hb => upd_some hrn _ _ hb) ?_ (fun b j hb => (bit_with hk16).2 (.inl hb)) (fun _ _ h => h) (fun h => h) (fun _ h => .inl h) (fun b hb => ?_) (fun x hx => ?_)
        · rw [upd_self]
          have hl2 := hl.later (eo' := eo) (ro' := upd ro u.dst (some u.body)) (fun _ _ h => h) (upd_some hrn)
          refine { ec := hl.ec, rc := by simp [readyC, hq.1], dc := hl.dc, ve := fun j hj => ?_, vr := hl.vr, eb := fun b j hb => ?_, rb := hl2.rb, dq := hl.dq, lr := fun b hb => by simp [readyC, hq.1], ld := hl.ld }
          · rcases voted_with_nat hk16 hj with h1 | rfl
            · obtain ⟨b, hb⟩ := hl.ve j h1
              exact ⟨b, (bit_with hk16).2 (.inl hb)⟩
            · exact ⟨_, hbit⟩
          · rcases (bit_with hk16).1 hb with h1 | ⟨rfl, rfl⟩
            · exact hl.eb b j h1
            · refine ⟨hu.2.2.1, fun hj => ?_⟩
              rcases hu.2.2.2 hj with ⟨h3, _⟩ | ⟨_, h3⟩ | ⟨h3, _⟩
              · omega
              · exact h3
              · omega
        · rw [upd_self] at hb
          cases hb
          refine .inr ⟨⟨u.dst, hi, ?_⟩, fun dst ht => hcs _ (mem_casts (by simp) ht)⟩
          rw [upd_self]
          have := of_decide_eq_true hq.1
          rw [hmany] at this
          exact this
        · rcases hP x hx with h1 | ⟨rfl, h1⟩
          · exact .inl h1
          · exact .inr ⟨rfl, fun _ => hbit, fun h2 => by omega, fun h2 => by omega⟩
    | false =>
      have hq' : decide (echoes (n : Int) ≤ manyL (cs u.dst).echoes (u.who : Int) u.body) = true → (cs u.dst).readied = true := fun h1 => by
        rw [h1, Bool.true_and, Bool.not_eq_false'] at hq
        exact hq
      have ho : readyO (cs u.dst) (decide (echoes (n : Int) ≤ manyL (cs u.dst).echoes (u.who : Int) u.body)) u.body = [] := by
        unfold readyO
        rw [if_neg]
        rintro ⟨h1, h2⟩
        rw [hq' h1] at h2
        cases h2
      have hr : ((cs u.dst).readied || decide (echoes (n : Int) ≤ manyL (cs u.dst).echoes (u.who : Int) u.body)) = (cs u.dst).readied := by
        cases hd : decide (echoes (n : Int) ≤ manyL (cs u.dst).echoes (u.who : Int) u.body) with
        | false => simp
        | true => rw [hq' hd]; rfl
      rw [ho]
      refine ⟨fun h => (by cases h), eo, ro, fun _ _ h => h, fun _ _ h => h, fun x hx => by simp [casts] at hx, fun P' hP hcs => ?_⟩
      refine h.step hi (fun j hj => tdS_ne _ _ hj) (fun j hj => dnS_ne _ _ hj) (fun _ _ => rfl) (fun _ _ => rfl) (fun _ h => h) (fun _ h => h) ?_ (fun b j hb => (bit_with hk16).2 (.inl hb)) (fun _ _ h => h) (fun h => h) (fun _ h => .inl h) (fun _ h => .inl h) (fun x hx => ?_)
      · refine { ec := hl.ec, rc := (by simp only [readyC]; rw [hr]; exact hl.rc), dc := hl.dc, ve := fun j hj => ?_, vr := hl.vr, eb := fun b j hb => ?_, rb := hl.rb, dq := hl.dq, lr := fun b hb => ?_, ld := hl.ld }
        · rcases voted_with_nat hk16 hj with h1 | rfl
          · obtain ⟨b, hb⟩ := hl.ve j h1
            exact ⟨b, (bit_with hk16).2 (.inl hb)⟩
          · exact ⟨_, hbit⟩
        · rcases (bit_with hk16).1 hb with h1 | ⟨rfl, rfl⟩
          · exact hl.eb b j h1
          · refine ⟨hu.2.2.1, fun hj => ?_⟩
            rcases hu.2.2.2 hj with ⟨h3, _⟩ | ⟨_, h3⟩ | ⟨h3, _⟩
            · omega
            · exact h3
            · omega
        · simp only [readyC] at hb ⊢
          rw [hr]
          rcases hb with hb | hb
          · by_cases e : b = u.body
            · subst e
              exact hq' (decide_eq_true hb)
            · rw [forL_ne e] at hb
              exact hl.lr b (.inl hb)
          · exact hl.lr b (.inr hb)
      · rcases hP x hx with h1 | ⟨rfl, h1⟩
        · exact .inl h1
        · exact .inr ⟨rfl, fun _ => hbit, fun h2 => by omega, fun h2 => by omega⟩
  · rw [hsz, hFn] at ha
    have hmany : manyL (cs u.dst).readies (u.who : Int) u.body = (sz (forL (withL (cs u.dst).readies (u.who : Int) u.body) u.body) : Nat) := rfl
    have hbit : Bit (withL (cs u.dst).readies (u.who : Int) u.body) u.body u.who := (bit_with hk16).2 (.inr ⟨rfl, rfl⟩)
    have hdone : doneB (cs u.dst) (n : Int) (u.who : Int) u.body = (!(cs u.dst).done && decide (2 * (f : Int) + 1 ≤ manyL (cs u.dst).readies (u.who : Int) u.body)) := by unfold doneB; rw [hFn]
    have hrdy : ∀ j, Bit (withL (cs u.dst).readies (u.who : Int) u.body) u.body j → f ≤ j → ro j = some u.body := fun j hj hf => by
      rcases (bit_with hk16).1 hj with h1 | ⟨_, rfl⟩
      · exact (hl.rb _ _ h1).2 hf
      · rcases hu.2.2.2 hf with ⟨h3, _⟩ | ⟨h3, _⟩ | ⟨_, h3⟩
        · omega
        · omega
        · exact h3
    rw [ha]
    generalize doneB (cs u.dst) (n : Int) (u.who : Int) u.body = dd at *
    have hddn : dd = true → dn u.dst = false := fun h1 => by
      rw [h1] at hdone
      have := hdone.symm
      rw [Bool.and_eq_true, Bool.not_eq_true'] at this
      rw [← hl.dc]
      exact this.1
    have hddm : dd = true → 2 * f + 1 ≤ sz (forL (withL (cs u.dst).readies (u.who : Int) u.body) u.body) := fun h1 => by
      rw [h1] at hdone
      have := hdone.symm
      rw [Bool.and_eq_true] at this
      have := of_decide_eq_true this.2
      rw [hmany] at this
      omega
    have hddc : 2 * f + 1 ≤ sz (forL (withL (cs u.dst).readies (u.who : Int) u.body) u.body) → ((cs u.dst).done || dd) = true := fun h1 => by
      rw [hdone, decide_eq_true (by rw [hmany]; omega)]
      cases (cs u.dst).done <;> rfl
    clear hdone
    -- what both ways have in common
    have hve : ∀ (eo' ro' : Nat → Option ByteArray) (rd : Bool) (o : List Out), (∀ j b, eo j = some b → eo' j = some b) → (∀ j b, ro j = some b → ro' j = some b) → (eo u.dst).isSome = (eo' u.dst).isSome → rd = (ro' u.dst).isSome → ((cs u.dst).readied = true → rd = true) → (f + 1 ≤ sz (forL (withL (cs u.dst).readies (u.who : Int) u.body) u.body) → rd = true) →
        Lcl n f eo' ro' ⟨(cs u.dst).echoed, rd, (cs u.dst).done || dd, (cs u.dst).echoes, withL (cs u.dst).readies (u.who : Int) u.body⟩ (eo' u.dst) (ro' u.dst) (dnS dn u.dst ⟨⟨(cs u.dst).echoed, rd, (cs u.dst).done || dd, (cs u.dst).echoes, withL (cs u.dst).readies (u.who : Int) u.body⟩, o, if dd = true then u.body else ⟨#[]⟩, dd, 0⟩ u.dst) (tdS td u.dst ⟨⟨(cs u.dst).echoed, rd, (cs u.dst).done || dd, (cs u.dst).echoes, withL (cs u.dst).readies (u.who : Int) u.body⟩, o, if dd = true then u.body else ⟨#[]⟩, dd, 0⟩ u.dst) := by
      intro eo' ro' rd o he hr h1 h2 h3 h4
      have hl2 := hl.later he hr
      refine { ec := hl.ec.trans h1, rc := h2, dc := ?_, ve := hl.ve, vr := fun j hj => ?_, eb := hl2.eb, rb := fun b j hb => ?_, dq := fun hd => ?_, lr := fun b hb => ?_, ld := fun b hb => ?_ }
      · cases dd with
        | true => simp [dnS, upd_self]
        | false => simp [dnS]; exact hl.dc
      · rcases voted_with_nat hk16 hj with h1 | rfl
        · obtain ⟨b, hb⟩ := hl.vr j h1
          exact ⟨b, (bit_with hk16).2 (.inl hb)⟩
        · exact ⟨_, hbit⟩
      · rcases (bit_with hk16).1 hb with h1 | ⟨rfl, rfl⟩
        · exact hl2.rb b j h1
        · exact ⟨hu.2.2.1, fun hj => hr _ _ (hrdy _ hbit hj)⟩
      · cases hdd : dd with
        | true =>
          simp only [tdS, if_true, upd_self]
          exact hddm hdd
        | false =>
          subst hdd
          simp only [tdS, dnS, Bool.false_eq_true, if_false] at hd ⊢
          exact Nat.le_trans (hl.dq hd) (sz_mono fun j hj => (bit_with hk16).2 (.inl hj))
      · simp only at hb ⊢
        rcases hb with hb | hb
        · exact h3 (hl.lr b (.inl hb))
        · by_cases e : b = u.body
          · subst e; exact h4 hb
          · rw [forL_ne e] at hb
            exact h3 (hl.lr b (.inr hb))
      · simp only at hb ⊢
        by_cases e : b = u.body
        · subst e; exact hddc hb
        · rw [forL_ne e] at hb
          rw [hl.ld b hb]
          rfl
    cases hq : decide ((f : Int) + 1 ≤ manyL (cs u.dst).readies (u.who : Int) u.body) && !(cs u.dst).readied with
    | true =>
      rw [Bool.and_eq_true, Bool.not_eq_true'] at hq
      have hrn := some_of hl.rc hq.2
      have ho : readyO (cs u.dst) (decide ((f : Int) + 1 ≤ manyL (cs u.dst).readies (u.who : Int) u.body)) u.body = [⟨3, u.body⟩] := by unfold readyO; rw [if_pos hq]
      have hq1 := of_decide_eq_true hq.1
      rw [ho]
      refine ⟨hddn, eo, upd ro u.dst (some u.body), fun _ _ h => h, upd_some hrn, fun x hx => ?_, fun P' hP hcs => ?_⟩
      · obtain ⟨h1, h2, h3⟩ := casts_mem hx
        simp only [List.mem_singleton, Out.mk.injEq] at h3
        refine ⟨h1, by rw [h3.2]; exact hu.2.1, by rw [h2]; exact hi.2, fun _ => .inr (.inr ⟨h3.1, ?_⟩)⟩
        rw [h2, upd_self, h3.2]
      · refine h.step hi (fun j hj => tdS_ne _ _ hj) (fun j hj => dnS_ne _ _ hj) (fun _ _ => rfl) (fun j hj => upd_ne _ _ hj) (fun _ h => h) (fun b hb => upd_some hrn _ _ hb) ?_ (fun _ _ h => h) (fun b j hb => (bit_with hk16).2 (.inl hb)) (fun h => h) (fun _ h => .inl h) (fun b hb => ?_) (fun x hx => ?_)
        · exact hve eo _ _ _ (fun _ _ h => h) (upd_some hrn) rfl (by simp [readyC, upd_self, hq.1]) (fun _ => by simp [readyC, hq.1]) (fun _ => by simp [readyC, hq.1])
        · rw [upd_self] at hb
          cases hb
          refine .inr ⟨?_, fun dst ht => hcs _ (mem_casts (by simp) ht)⟩
          rw [hmany] at hq1
          obtain ⟨j, hj, hb⟩ := honest_in (s := forL (withL (cs u.dst).readies (u.who : Int) u.body) u.body) (f := f) (n := n) (by have := hN.fn; omega) (fun j hj => by
            rcases (bit_with (b := u.body) hk16).1 hj with h1 | ⟨_, rfl⟩
            · exact (hl.rb _ _ h1).1
            · exact hu.2.2.1) (by omega)
          exact EQ_same (h.rq j _ hj (hrdy j hb hj.1)) rfl
        · rcases hP x hx with h1 | ⟨rfl, h1⟩
          · exact .inl h1
          · exact .inr ⟨rfl, fun h2 => by omega, fun _ => hbit, fun h2 => by omega⟩
    | false =>
      have hq' : decide ((f : Int) + 1 ≤ manyL (cs u.dst).readies (u.who : Int) u.body) = true → (cs u.dst).readied = true := fun h1 => by
        rw [h1, Bool.true_and, Bool.not_eq_false'] at hq
        exact hq
      have ho : readyO (cs u.dst) (decide ((f : Int) + 1 ≤ manyL (cs u.dst).readies (u.who : Int) u.body)) u.body = [] := by
        unfold readyO
        rw [if_neg]
        rintro ⟨h1, h2⟩
        rw [hq' h1] at h2
        cases h2
      have hr : ((cs u.dst).readied || decide ((f : Int) + 1 ≤ manyL (cs u.dst).readies (u.who : Int) u.body)) = (cs u.dst).readied := by
        cases hd : decide ((f : Int) + 1 ≤ manyL (cs u.dst).readies (u.who : Int) u.body) with
        | false => simp
        | true => rw [hq' hd]; rfl
      rw [ho]
      refine ⟨hddn, eo, ro, fun _ _ h => h, fun _ _ h => h, fun x hx => by simp [casts] at hx, fun P' hP hcs => ?_⟩
      refine h.step hi (fun j hj => tdS_ne _ _ hj) (fun j hj => dnS_ne _ _ hj) (fun _ _ => rfl) (fun _ _ => rfl) (fun _ h => h) (fun _ h => h) ?_ (fun _ _ h => h) (fun b j hb => (bit_with hk16).2 (.inl hb)) (fun h => h) (fun _ h => .inl h) (fun _ h => .inl h) (fun x hx => ?_)
      · exact hve eo ro _ _ (fun _ _ h => h) (fun _ _ h => h) rfl (by simp only [readyC]; rw [hr]; exact hl.rc) (fun h => by simp [readyC, h]) (fun h => by
          simp only [readyC]
          rw [hr]
          exact hq' (decide_eq_true (by rw [hmany]; omega)))
      · rcases hP x hx with h1 | ⟨rfl, h1⟩
        · exact .inl h1
        · exact .inr ⟨rfl, fun h2 => by omega, fun _ => hbit, fun h2 => by omega⟩
/-- two bodies with enough echoes are one -/
theorem EQ_one {n f fr : Nat} {sent : ByteArray} {cs : Nat → Cas} {td : Nat → ByteArray} {dn : Nat → Bool} {eo ro : Nat → Option ByteArray} {P : Und → Prop} (hN : Num n f fr) (h : Core n f fr sent cs td dn eo ro P) {b b' : ByteArray} (h1 : EQ n f cs b) (h2 : EQ n f cs b') : b = b' := by
  obtain ⟨i, hi, q1⟩ := h1
  obtain ⟨j, hj, q2⟩ := h2
  apply Classical.byContradiction
  intro hne
  refine quorum (m := n) (corrupt := 2 ^ f - 1) hN.n1 (by have := hN.n7; omega) (fun k hk => ((h.lc i hi).eb b k hk).1) (fun k hk => ((h.lc j hj).eb b' k hk).1) ?_ (fun k h1 h2 => ?_) ⟨q1, q2⟩
  · rw [all_sz (by have := hN.fn; have := hN.n7; omega), hN.faulty]
    exact Int.le_refl _
  · rw [all_bit]
    apply decide_eq_true
    apply Classical.byContradiction
    intro hk
    have e1 := ((h.lc i hi).eb b k h1).2 (by omega)
    have e2 := ((h.lc j hj).eb b' k h2).2 (by omega)
    rw [e1] at e2
    cases e2
    exact hne rfl
theorem EQ_sent {n f fr : Nat} {sent : ByteArray} {cs : Nat → Cas} {td : Nat → ByteArray} {dn : Nat → Bool} {eo ro : Nat → Option ByteArray} {P : Und → Prop} (hN : Num n f fr) (h : Core n f fr sent cs td dn eo ro P) {b : ByteArray} (h1 : EQ n f cs b) (hf : f ≤ fr) : b = sent := by
  obtain ⟨i, hi, q1⟩ := h1
  rw [hN.echoes] at q1
  have := hN.fn; have := hN.n7; have := hN.n1
  obtain ⟨j, hj, hb⟩ := honest_in (f := f) (n := n) (by omega) (fun k hk => ((h.lc i hi).eb b k hk).1) (by omega)
  exact h.sd hf j b hj (((h.lc i hi).eb b j hb).2 hj.1)
theorem told_EQ {n f fr : Nat} {sent : ByteArray} {cs : Nat → Cas} {td : Nat → ByteArray} {dn : Nat → Bool} {eo ro : Nat → Option ByteArray} {P : Und → Prop} (hN : Num n f fr) (h : Core n f fr sent cs td dn eo ro P) {i : Nat} (hi : Hn n f i) (hd : dn i = true) : EQ n f cs (td i) := by
  have hq := (h.lc i hi).dq hd
  have := hN.fn; have := hN.n7; have := hN.n1
  obtain ⟨j, hj, hb⟩ := honest_in (f := f) (n := n) (by omega) (fun k hk => ((h.lc i hi).rb (td i) k hk).1) (by omega)
  exact h.rq j _ hj (((h.lc i hi).rb _ j hb).2 hj.1)
/-- all that deliver tell one body, which is that of an honest sender -/
theorem agree_core {n f fr : Nat} {sent : ByteArray} {cs : Nat → Cas} {td : Nat → ByteArray} {dn : Nat → Bool} {eo ro : Nat → Option ByteArray} {P : Und → Prop} (hN : Num n f fr) (h : Core n f fr sent cs td dn eo ro P) :
    (∀ i j, Hn n f i → Hn n f j → dn i = true → dn j = true → td i = td j) ∧ (f ≤ fr → ∀ i, Hn n f i → dn i = true → td i = sent) :=
  ⟨fun i j hi hj h1 h2 => EQ_one hN h (told_EQ hN h hi h1) (told_EQ hN h hj h2), fun hf i hi h1 => EQ_sent hN h (told_EQ hN h hi h1) hf⟩
/-- nothing is under way: all deliver, or none does -/
theorem ends_core {n f fr : Nat} {sent : ByteArray} {cs : Nat → Cas} {td : Nat → ByteArray} {dn : Nat → Bool} {eo ro : Nat → Option ByteArray} {P : Und → Prop} (hN : Num n f fr) (h : Core n f fr sent cs td dn eo ro P) (hP : ∀ x, ¬ P x) :
    (f ≤ fr → ∀ i, Hn n f i → dn i = true) ∧ ((∃ i, Hn n f i ∧ dn i = true) → ∀ i, Hn n f i → dn i = true) := by
  have hfn := hN.fn; have h7 := hN.n7; have h1 := hN.n1
  -- if all are ready, all deliver
  have hall : (∀ i, Hn n f i → (cs i).readied = true) → ∀ i, Hn n f i → dn i = true := by
    intro hr
    have hone : ∀ i, Hn n f i → ∃ b, ro i = some b ∧ EQ n f cs b := fun i hi => by
      have := (h.lc i hi).rc
      rw [hr i hi] at this
      obtain ⟨b, hb⟩ := Option.isSome_iff_exists.1 this.symm
      exact ⟨b, hb, h.rq i b hi hb⟩
    intro i hi
    obtain ⟨b, hb, hq⟩ := hone i hi
    rw [← (h.lc i hi).dc]
    refine (h.lc i hi).ld b ?_
    have := sz_ge (s := forL (cs i).readies b) (f := f) (n := n) (by omega) (fun j j1 j2 => by
      obtain ⟨b', hb', hq'⟩ := hone j ⟨j1, j2⟩
      have e := EQ_one hN h hq hq'
      subst e
      rcases h.wr i j b hi ⟨j1, j2⟩ hb' with h2 | h2
      · exact h2
      · exact absurd h2 (hP _))
    omega
  refine ⟨fun hf => hall fun i hi => ?_, fun ⟨i, hi, hd⟩ => hall fun j hj => ?_⟩
  · have heo : ∀ j, Hn n f j → eo j = some sent := fun j hj => by
      rcases h.ws hf j hj with h2 | h2
      · have := (h.lc j hj).ec
        rw [h2] at this
        obtain ⟨b, hb⟩ := Option.isSome_iff_exists.1 this.symm
        rw [hb, h.sd hf j b hj hb]
      · exact absurd h2 (hP _)
    refine (h.lc i hi).lr sent (.inl ?_)
    have := sz_ge (s := forL (cs i).echoes sent) (f := f) (n := n) (by omega) (fun j j1 j2 => by
      rcases h.we i j sent hi ⟨j1, j2⟩ (heo j ⟨j1, j2⟩) with h2 | h2
      · exact h2
      · exact absurd h2 (hP _))
    rw [hN.echoes]
    omega
  · refine (h.lc j hj).lr (td i) (.inr ?_)
    have hq := (h.lc i hi).dq hd
    -- the honest ones among those that are ready at i
    have hcount : f + 1 ≤ sz (forL (cs i).readies (td i) &&& (65535 - (2 ^ f - 1))) := by
      have hp : 2 ^ f - 1 < 65536 := by
        have : 2 ^ f ≤ 2 ^ 2 := Nat.pow_le_pow_right (by decide) (by omega)
        omega
      have hd := sz_diff (forL (cs i).readies (td i)) (2 ^ f - 1) hp
      have h2 : sz (forL (cs i).readies (td i) &&& (2 ^ f - 1)) ≤ f := by
        refine Nat.le_trans (sz_mono (b := 2 ^ f - 1) fun k hk => ?_) (Nat.le_of_eq (all_sz (by omega)))
        rw [Nat.testBit_and, Bool.and_eq_true] at hk
        exact hk.2
      omega
    refine Nat.le_trans hcount (sz_mono fun k hk => ?_)
    have hp : 2 ^ f - 1 < 65536 := by
      have : 2 ^ f ≤ 2 ^ 2 := Nat.pow_le_pow_right (by decide) (by omega)
      omega
    rw [Nat.testBit_and, testBit_flip _ _ hp, all_bit] at hk
    simp only [Bool.and_eq_true, decide_eq_true_eq, Bool.not_eq_true', decide_eq_false_iff_not] at hk
    obtain ⟨hk1, hk2, hk3⟩ := hk
    have hkn := ((h.lc i hi).rb _ k hk1).1
    have hro := ((h.lc i hi).rb _ k hk1).2 (by omega)
    rcases h.wr j k _ hj ⟨by omega, hkn⟩ hro with h2 | h2
    · exact h2
    · exact absurd h2 (hP _)
end Go.Proofs.Ytkppilpailbpeaa.Vot
