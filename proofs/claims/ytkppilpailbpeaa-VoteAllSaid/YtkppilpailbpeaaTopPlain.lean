/- Plain law of WholeQuorums: two sets of enough echoes, whose common members are few, are not both enough. -/
import Derived.Test.YtkppilpailbpeaaVotTakeAll
namespace Go.Proofs.Ytkppilpailbpeaa.Vot
open Go Go.RowKit Go.Proofs.YtkppilpailbpeaaW.PrintWords Go.Proofs.Ytkppilpailbpeaa.Cnt Go.Proofs.Ytkppilpailbpeaa.Opn
set_option linter.unusedVariables false
set_option linter.unusedSimpArgs false

/-- the set of some members -/
def orI (l : List Nat) : Nat := l.foldl (fun a i => a ||| 2 ^ i) 0
theorem orI_snoc (l : List Nat) (i : Nat) : orI (l ++ [i]) = orI l ||| 2 ^ i := by simp [orI]
theorem orI_bit (l : List Nat) (i : Nat) : (orI l).testBit i = decide (i ∈ l) := by
  have h : ∀ (l : List Nat) (a : Nat), (l.foldl (fun a i => a ||| 2 ^ i) a).testBit i = (a.testBit i || decide (i ∈ l)) := by
    intro l
    induction l with
    | nil => intro a; simp
    | cons x r ih =>
      intro a
      rw [List.foldl_cons, ih, Nat.testBit_or, Nat.testBit_two_pow]
      by_cases hx : x = i
      · subst hx; simp
      · have : i ≠ x := fun e => hx e.symm
        simp [hx, this]
  have := h l 0
  rw [Nat.zero_testBit, Bool.false_or] at this
  exact this
theorem sz_one : ∀ i : Fin 16, sz (2 ^ i.val) = 1 := by decide
theorem sz_bit (a i : Nat) (hi : i < 16) (h : a.testBit i = false) : sz (a ||| 2 ^ i) = sz a + 1 := by
  have h1 := sz_union a (2 ^ i)
  have h2 := sz_one ⟨i, hi⟩
  have h3 : a &&& 2 ^ i = 0 := by
    apply Nat.eq_of_testBit_eq
    intro j
    rw [Nat.testBit_and, Nat.testBit_two_pow, Nat.zero_testBit]
    by_cases hj : i = j
    · subst hj; simp [h]
    · simp [hj]
  have h4 : sz 0 = 0 := by decide
  rw [h3, h4] at h1
  simp only at h2
  omega
theorem orI_sz : ∀ (n : Nat) (l : List Nat), l.length = n → l.Nodup → (∀ i ∈ l, i < 16) → sz (orI l) = l.length
  | 0, l, hn, _, _ => by
    obtain rfl : l = [] := List.eq_nil_of_length_eq_zero hn
    decide
  | n + 1, l, hn, hd, h16 => by
    obtain ⟨r, i, rfl⟩ : ∃ r i, l = r ++ [i] := ⟨l.dropLast, l.getLast (by intro e; rw [e] at hn; cases hn), (List.dropLast_concat_getLast _).symm⟩
    have hr : r.length = n := by simp at hn; exact hn
    rw [List.nodup_append] at hd
    have ih := orI_sz n r hr hd.1 (fun j hj => h16 j (by simp [hj]))
    have hni : i ∉ r := fun hi => hd.2.2 i hi i (by simp) rfl
    rw [orI_snoc, sz_bit _ _ (h16 i (by simp)) (by rw [orI_bit]; simp [hni]), ih]
    simp
theorem lst_nodup (s : Nat) : (lst s).Nodup := by
  unfold lst
  exact List.Nodup.sublist List.filter_sublist List.nodup_range
theorem lst_mem {s i : Nat} (h : i ∈ lst s) : i < 16 ∧ s.testBit i = true := by
  unfold lst at h
  rw [List.mem_filter, List.mem_range] at h
  exact h
theorem bitN_nat (i : Nat) (h : i < 16) : bitN (i : Int) = 2 ^ i := by
  unfold bitN
  rw [if_pos (by omega)]
  simp

/-- the case behind j echoes for a body -/
def caseQ (m : Nat) (body : ByteArray) (l : List Nat) : Cas := ⟨false, decide (echoes (m : Int) ≤ (l.length : Int)), false, if l = [] then [] else [⟨body, orI l⟩], []⟩
theorem caseQ_step {all m : Nat} {body : ByteArray} {l : List Nat} {i : Nat} (hsz : sz all = m) (h0 : hasB all 0 = true) (hb : body.size ≤ 1000) (hd : (l ++ [i]).Nodup) (h16 : ∀ j ∈ l ++ [i], j < 16 ∧ all.testBit j = true) :
    ∃ o, takeM (caseQ m body l) all 0 2 (i : Int) body = ⟨caseQ m body (l ++ [i]), o, ⟨#[]⟩, false, 0⟩ := by
  have hi := h16 i (by simp)
  have hhas : hasB all (i : Int) = true := by unfold hasB; simp [hi.2]; omega
  have hni : i ∉ l := by
    rw [List.nodup_append] at hd
    exact fun h => hd.2.2 i h i (by simp) rfl
  have hsl := orI_sz _ (l ++ [i]) rfl hd (fun j hj => (h16 j hj).1)
  have hv : votedL (caseQ m body l).echoes (i : Int) = false := by
    unfold caseQ votedL
    by_cases hl : l = []
    · simp [hl]
    · simp only [hl, if_false, List.any_cons, List.any_nil, Bool.or_false]
      unfold hasB
      rw [Int.toNat_natCast, orI_bit]
      simp [hni]
  have hne : l ++ [i] ≠ [] := by simp
  have hw : withL (caseQ m body l).echoes (i : Int) body = [⟨body, orI (l ++ [i])⟩] := by
    unfold caseQ
    by_cases hl : l = []
    · subst hl
      simp [withL, bitN_nat i hi.1, orI]
    · simp only [hl, if_false, withL, hit_self, if_true, bitN_nat i hi.1, orI_snoc]
  have hmany : manyL (caseQ m body l).echoes (i : Int) body = ((l ++ [i]).length : Int) := by
    unfold manyL
    rw [hw]
    simp only [forL, hit_self, if_true, hsl]
  refine ⟨readyO (caseQ m body l) (decide (echoes (sz all : Nat) ≤ manyL (caseQ m body l).echoes (i : Int) body)) body, ?_⟩
  unfold takeM
  rw [if_neg (by omega), if_neg (by simp [hhas, h0]), if_neg (by decide), if_pos rfl]
  unfold echoA
  rw [if_neg (by rw [hv]; decide), hw, hmany, hsz]
  congr 1
  unfold readyC caseQ
  simp only [hne, if_false, Cas.mk.injEq, true_and, and_true]
  simp only [List.length_append, List.length_cons, List.length_nil]
  by_cases h1 : echoes (m : Int) ≤ (l.length : Int)
  · have h2 : echoes (m : Int) ≤ ((l.length + (0 + 1) : Nat) : Int) := by omega
    simp [h1]
    omega
  · simp [h1]
/-- the sets of WholeQuorums -/
theorem quorum {m first second corrupt : Nat} (hm : 1 ≤ m) (hm16 : m ≤ 16) (hf : ∀ i, first.testBit i = true → i < m) (hs : ∀ i, second.testBit i = true → i < m) (hc : (sz corrupt : Int) ≤ faulty (m : Int)) (hi : ∀ i, first.testBit i = true → second.testBit i = true → corrupt.testBit i = true) :
    ¬ (echoes (m : Int) ≤ (sz first : Int) ∧ echoes (m : Int) ≤ (sz second : Int)) := by
  rintro ⟨h1, h2⟩
  have hu := sz_union first second
  have hint : sz (first &&& second) ≤ sz corrupt := by
    unfold sz
    apply List.countP_mono_left
    intro x _ h
    rw [Nat.testBit_and, Bool.and_eq_true] at h
    exact hi x h.1 h.2
  have hun : sz (first ||| second) ≤ m := by
    unfold sz
    have : (List.range 16).countP (first ||| second).testBit ≤ (List.range 16).countP (fun i => decide (i < m)) := by
      apply List.countP_mono_left
      intro x _ h
      rw [Nat.testBit_or, Bool.or_eq_true] at h
      rcases h with h | h
      · simpa using hf x h
      · simpa using hs x h
    refine Nat.le_trans this ?_
    have hcnt : ∀ k : Fin 17, (List.range 16).countP (fun i => decide (i < k.val)) ≤ k.val := by decide
    exact hcnt ⟨m, by omega⟩
  have hheld : held (m : Int) = (m : Int) := by unfold held; omega
  unfold echoes at h1 h2
  rw [hheld] at h1 h2
  omega
end Go.Proofs.Ytkppilpailbpeaa.Vot
