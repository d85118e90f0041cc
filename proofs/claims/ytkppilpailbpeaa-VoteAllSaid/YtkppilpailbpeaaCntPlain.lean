/- Plain laws on sets of sixteen bits: how many are set, which, the lowest of them. No program in sight. -/
namespace Go.Proofs.Ytkppilpailbpeaa.Cnt

/-- a fact that the walk does not look into -/
structure Aside (p : Prop) : Prop where mk :: (out : p)

/-- how many of the sixteen bits are set -/
def sz (s : Nat) : Nat := (List.range 16).countP s.testBit
/-- which of them -/
def lst (s : Nat) : List Nat := (List.range 16).filter s.testBit
theorem lst_length (s : Nat) : (lst s).length = sz s := by unfold lst sz; rw [List.countP_eq_length_filter]

theorem countP_two (p q : Nat → Bool) (l : List Nat) : l.countP (fun i => p i || q i) + l.countP (fun i => p i && q i) = l.countP p + l.countP q := by
  induction l with
  | nil => rfl
  | cons x l ih =>
    simp only [List.countP_cons]
    cases p x <;> cases q x <;> simp <;> omega
theorem countP_diff (p q : Nat → Bool) (l : List Nat) : l.countP (fun i => p i && !q i) + l.countP (fun i => p i && q i) = l.countP p := by
  induction l with
  | nil => rfl
  | cons x l ih =>
    simp only [List.countP_cons]
    cases p x <;> cases q x <;> simp <;> omega

theorem sz_union (a b : Nat) : sz (a ||| b) + sz (a &&& b) = sz a + sz b := by
  unfold sz
  rw [← countP_two a.testBit b.testBit, show (a ||| b).testBit = fun i => a.testBit i || b.testBit i from funext fun i => Nat.testBit_or .., show (a &&& b).testBit = fun i => a.testBit i && b.testBit i from funext fun i => Nat.testBit_and ..]
theorem testBit_flip (b i : Nat) (hb : b < 65536) : (65535 - b).testBit i = (decide (i < 16) && !b.testBit i) := by
  have h := Nat.testBit_two_pow_sub_succ (x := b) (n := 16) (by omega) i
  rw [← h]; congr 1; omega
theorem sz_diff (a b : Nat) (hb : b < 65536) : sz (a &&& (65535 - b)) + sz (a &&& b) = sz a := by
  unfold sz
  rw [← countP_diff a.testBit b.testBit]
  congr 1
  · apply List.countP_congr
    intro i hi
    have : i < 16 := by simpa using hi
    rw [Nat.testBit_and, testBit_flip b i hb]
    simp [this]
  · congr 1; funext i; exact Nat.testBit_and ..

theorem filter_first (p q : Nat → Bool) (t : Nat) (hp : p t = true) (hl : ∀ i, i < t → p i = false) (hq : ∀ i, q i = (p i && !decide (t = i))) :
    ∀ n, (t < n → (List.range n).filter p = t :: (List.range n).filter q) ∧ (n ≤ t → (List.range n).filter p = [] ∧ (List.range n).filter q = [])
  | 0 => ⟨fun h => by omega, fun _ => by simp⟩
  | n + 1 => by
    have ih := filter_first p q t hp hl hq n
    constructor
    · intro h
      rw [List.range_succ, List.filter_append, List.filter_append]
      by_cases e : t = n
      · subst e
        obtain ⟨h1, h2⟩ := ih.2 (Nat.le_refl _)
        rw [h1, h2]
        simp [hp, hq]
      · rw [ih.1 (by omega)]
        have : q n = p n := by rw [hq]; simp [e]
        simp [List.filter_cons, this]
    · intro h
      rw [List.range_succ, List.filter_append, List.filter_append]
      obtain ⟨h1, h2⟩ := ih.2 (by omega)
      have h3 : p n = false := hl n (by omega)
      simp [h1, h2, h3, hq]


theorem odd_part : ∀ s : Nat, s ≠ 0 → ∃ t m, s = 2 ^ t * (2 * m + 1)
  | s, h => by
    by_cases e : s % 2 = 1
    · exact ⟨0, s / 2, by omega⟩
    · obtain ⟨t, m, hm⟩ := odd_part (s / 2) (by omega)
      refine ⟨t + 1, m, ?_⟩
      rw [Nat.pow_succ, Nat.mul_assoc, Nat.mul_comm 2, ← Nat.mul_assoc, ← hm]
      omega
decreasing_by omega

/-- the lowest bit that is set -/
structure Low (s t : Nat) : Prop where
  lt : t < 16
  iso : s &&& (65536 - s) = 2 ^ t
  on : s.testBit t = true
  below : ∀ i, i < t → s.testBit i = false
  rest : ∀ i, (s &&& (s - 1)).testBit i = (s.testBit i && !decide (t = i))
theorem low (s : Nat) (h0 : s ≠ 0) (h1 : s < 65536) : ∃ t, Low s t := by
  obtain ⟨t, m, hm⟩ := odd_part s h0
  have hp : 0 < 2 ^ t := Nat.two_pow_pos t
  have b1 : ∀ i, s.testBit i = if i < t then false else (2 * m + 1).testBit (i - t) := by
    intro i
    have := Nat.testBit_two_pow_mul_add (2 * m + 1) hp i
    simp only [Nat.add_zero, Nat.zero_testBit] at this
    rw [hm]; exact this
  have b2 : ∀ i, (s - 1).testBit i = if i < t then true else (2 * m).testBit (i - t) := by
    intro i
    have e : s - 1 = 2 ^ t * (2 * m) + (2 ^ t - 1) := by
      rw [hm, Nat.mul_add, Nat.mul_one]; omega
    have := Nat.testBit_two_pow_mul_add (2 * m) (show 2 ^ t - 1 < 2 ^ t by omega) i
    rw [← e] at this
    rw [this]
    split
    · rename_i hi
      rw [Nat.testBit_two_pow_sub_one]; simpa using hi
    · rfl
  have e0 : ∀ i, (2 * m + 1).testBit (i + 1) = (2 * m).testBit (i + 1) := by
    intro i
    rw [Nat.testBit_succ, Nat.testBit_succ]
    congr 1; omega
  have z0 : (2 * m).testBit 0 = false := by simp
  have z1 : (2 * m + 1).testBit 0 = true := by simp
  have ht : t < 16 := by
    rcases Nat.lt_or_ge t 16 with h | h
    · exact h
    · have h2 : 2 ^ 16 ≤ 2 ^ t := Nat.pow_le_pow_right (by decide) h
      have h3 : 2 ^ t * 1 ≤ 2 ^ t * (2 * m + 1) := Nat.mul_le_mul_left _ (by omega)
      omega
  refine ⟨t, ht, ?_, ?_, ?_, ?_⟩
  · apply Nat.eq_of_testBit_eq
    intro i
    have e : 65536 - s = 2 ^ 16 - ((s - 1) + 1) := by omega
    rw [Nat.testBit_and, e, Nat.testBit_two_pow_sub_succ (by omega), Nat.testBit_two_pow, b1, b2]
    by_cases hi : i < t
    · simp [hi]; omega
    · obtain ⟨d, rfl⟩ : ∃ d, i = t + d := ⟨i - t, by omega⟩
      simp only [Nat.add_sub_cancel_left, if_neg hi]
      cases d with
      | zero => simp [ht]
      | succ d =>
        rw [e0]
        cases (2 * m).testBit (d + 1) <;> simp
  · rw [b1]; simp
  · intro i hi
    rw [b1]; simp [hi]
  · intro i
    rw [Nat.testBit_and, b2, b1]
    by_cases hi : i < t
    · simp [hi]
    · obtain ⟨d, rfl⟩ : ∃ d, i = t + d := ⟨i - t, by omega⟩
      simp only [Nat.add_sub_cancel_left, if_neg hi]
      cases d with
      | zero => simp
      | succ d =>
        rw [e0]
        cases (2 * m).testBit (d + 1) <;> simp

theorem lst_zero : lst 0 = [] := by decide
theorem lst_low {s t : Nat} (h : Low s t) : lst s = t :: lst (s &&& (s - 1)) :=
  (filter_first s.testBit (s &&& (s - 1)).testBit t h.on h.below h.rest 16).1 h.lt
theorem low_less {s : Nat} (h0 : s ≠ 0) : s &&& (s - 1) < s := by
  have := @Nat.and_le_right s (s - 1)
  omega
theorem sz_low {s t : Nat} (h : Low s t) : sz s = sz (s &&& (s - 1)) + 1 := by rw [← lst_length, ← lst_length, lst_low h]; simp

/-- math/bits' table -/
def tabOf : List Int := [0, 1, 28, 2, 29, 14, 24, 3, 30, 22, 20, 15, 25, 17, 4, 8, 31, 27, 13, 23, 21, 19, 16, 7, 26, 12, 18, 6, 11, 5, 10, 9]
theorem tab_at : ∀ t : Nat, t < 16 → 2 ^ t * 125613361 % 4294967296 / 134217728 < 32 ∧ tabOf.getD (2 ^ t * 125613361 % 4294967296 / 134217728) 0 = (t : Int) := by decide

/-- eight bits' count: math/bits' other table -/
def pop8 (a : Nat) : Nat := (List.range 8).countP a.testBit
theorem sz_halves (s : Nat) : pop8 (s / 256) + pop8 (s % 256) = sz s := by
  have h1 : sz s = (List.range 8).countP s.testBit + (List.range 8).countP (fun i => s.testBit (8 + i)) := by
    unfold sz
    rw [show (16 : Nat) = 8 + 8 from rfl, List.range_add, List.countP_append, List.countP_map]
    rfl
  rw [h1, Nat.add_comm]
  unfold pop8
  congr 1
  · apply List.countP_congr
    intro i hi
    have hi : i < 8 := by simpa using hi
    rw [show (256 : Nat) = 2 ^ 8 from rfl, Nat.testBit_mod_two_pow]
    simp [hi]
  · apply List.countP_congr
    intro i _
    rw [show (256 : Nat) = 2 ^ 8 from rfl, Nat.testBit_div_two_pow, Nat.add_comm]
end Go.Proofs.Ytkppilpailbpeaa.Cnt
