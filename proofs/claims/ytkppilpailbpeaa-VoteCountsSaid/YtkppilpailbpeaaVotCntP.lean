/- Plain law of VoteCounts. -/
import Derived.Test.YtkppilpailbpeaaVotRow
namespace Go.Proofs.Ytkppilpailbpeaa.Vot
open Go Go.RowKit Go.Proofs.YtkppilpailbpeaaW.PrintWords Go.Proofs.Ytkppilpailbpeaa.Cnt Go.Proofs.Ytkppilpailbpeaa.Opn
set_option linter.unusedVariables false

/-- each body once, each member once -/
def SoundL (l : List Bal) : Prop := l.Pairwise (fun x y => x.body ≠ y.body ∧ x.who &&& y.who = 0)
/-- members alone, and some -/
def SubL (m : Nat) (l : List Bal) : Prop := ∀ x ∈ l, x.who &&& (65535 - m) = 0 ∧ x.who ≠ 0
theorem and_zero {a b : Nat} (h : ∀ j, a.testBit j = true → b.testBit j = true → False) : a &&& b = 0 := by
  apply Nat.eq_of_testBit_eq
  intro j
  rw [Nat.testBit_and, Nat.zero_testBit]
  cases ha : a.testBit j <;> cases hb : b.testBit j <;> simp
  exact h j ha hb
theorem zero_and {a b : Nat} (h : a &&& b = 0) (j : Nat) (ha : a.testBit j = true) (hb : b.testBit j = true) : False := by
  have : (a &&& b).testBit j = true := by rw [Nat.testBit_and, ha, hb]; rfl
  rw [h, Nat.zero_testBit] at this
  cases this
theorem bit_of (id : Int) (j : Nat) (h0 : 0 ≤ id) (h : (bitN id).testBit j = true) : id < 16 ∧ j = id.toNat := by
  unfold bitN at h
  split at h
  · rename_i hlt
    rw [Nat.testBit_two_pow] at h
    exact ⟨hlt, (of_decide_eq_true h).symm⟩
  · simp at h
theorem bit_and {s : Nat} {id : Int} (h0 : 0 ≤ id) (h : hasB s id = false) : bitN id &&& s = 0 := and_zero fun j hb hs => by
  obtain ⟨h1, rfl⟩ := bit_of id j h0 hb
  unfold hasB at h
  rw [hs] at h
  simp at h
  omega
theorem or_and {a b c : Nat} (h1 : a &&& c = 0) (h2 : b &&& c = 0) : (a ||| b) &&& c = 0 := and_zero fun j hab hc => by
  rw [Nat.testBit_or, Bool.or_eq_true] at hab
  rcases hab with h | h
  · exact zero_and h1 j h hc
  · exact zero_and h2 j h hc
theorem with_mem {id : Int} {body : ByteArray} : ∀ {l : List Bal} {y : Bal}, y ∈ withL l id body → y ∈ l ∨ (∃ z ∈ l, hit body z = true ∧ y = ⟨z.body, z.who ||| bitN id⟩) ∨ ((∀ z ∈ l, hit body z = false) ∧ y = ⟨body, bitN id⟩)
  | [], y, h => by
    right; right
    simp [withL] at h
    exact ⟨fun z hz => by simp at hz, h⟩
  | x :: r, y, h => by
    unfold withL at h
    by_cases hx : hit body x = true
    · rw [if_pos hx] at h
      rcases List.mem_cons.1 h with rfl | h
      · exact .inr (.inl ⟨x, by simp, hx, rfl⟩)
      · exact .inl (by simp [h])
    · rw [if_neg hx] at h
      rcases List.mem_cons.1 h with rfl | h
      · exact .inl (by simp)
      · rcases with_mem h with h | ⟨z, hz, h1, h2⟩ | ⟨h1, h2⟩
        · exact .inl (by simp [h])
        · exact .inr (.inl ⟨z, by simp [hz], h1, h2⟩)
        · refine .inr (.inr ⟨fun z hz => ?_, h2⟩)
          rcases List.mem_cons.1 hz with rfl | hz
          · simpa using hx
          · exact h1 z hz
theorem voted_all {l : List Bal} {id : Int} (h : votedL l id = false) : ∀ x ∈ l, hasB x.who id = false := by
  unfold votedL at h
  rw [List.any_eq_false] at h
  exact fun x hx => by simpa using h x hx
theorem sound_with {id : Int} {body : ByteArray} (h0 : 0 ≤ id) : ∀ {l : List Bal}, SoundL l → votedL l id = false → SoundL (withL l id body)
  | [], _, _ => by simp [SoundL, withL]
  | x :: r, hs, hv => by
    obtain ⟨h1, h2⟩ := List.pairwise_cons.1 hs
    have hva := voted_all hv
    have hvr : votedL r id = false := by unfold votedL at hv ⊢; rw [List.any_cons, Bool.or_eq_false_iff] at hv; exact hv.2
    unfold withL
    split
    · refine List.pairwise_cons.2 ⟨fun y hy => ⟨(h1 y hy).1, or_and (h1 y hy).2 (bit_and h0 (hva y (by simp [hy])))⟩, h2⟩
    · rename_i hx
      refine List.pairwise_cons.2 ⟨fun y hy => ?_, sound_with h0 h2 hvr⟩
      rcases with_mem hy with hy | ⟨z, hz, hh, rfl⟩ | ⟨hh, rfl⟩
      · exact h1 y hy
      · refine ⟨(h1 z hz).1, ?_⟩
        rw [Nat.and_comm]
        exact or_and (by rw [Nat.and_comm]; exact (h1 z hz).2) (bit_and h0 (hva x (by simp)))
      · refine ⟨fun e => hx ((bytes_eq _ _).2 e), ?_⟩
        rw [Nat.and_comm]
        exact bit_and h0 (hva x (by simp))
theorem sub_with {m : Nat} {id : Int} {body : ByteArray} (hm : m < 65536) (h0 : 0 ≤ id) (hh : hasB m id = true) {l : List Bal} (h : SubL m l) : SubL m (withL l id body) := by
  have hb : bitN id &&& (65535 - m) = 0 := and_zero fun j hb hj => by
    obtain ⟨h1, rfl⟩ := bit_of id j h0 hb
    rw [testBit_flip _ _ hm] at hj
    unfold hasB at hh
    simp at hh hj
    rw [hh.2] at hj
    exact absurd hj.2 (by simp)
  have hn : bitN id ≠ 0 := by
    have : 0 < bitN id := bitN_pos m id hh
    omega
  intro y hy
  rcases with_mem hy with hy | ⟨z, hz, _, rfl⟩ | ⟨_, rfl⟩
  · exact h y hy
  · refine ⟨or_and (h z hz).1 hb, fun e => ?_⟩
    have := (Nat.or_eq_zero_iff.1 e).2
    exact hn this
  · exact ⟨hb, hn⟩
/-- what is right of a case in VoteCounts -/
structure CountOk (m : Nat) (c : Cas) : Prop where
  se : SoundL c.echoes
  sr : SoundL c.readies
  be : SubL m c.echoes
  br : SubL m c.readies
theorem has_of {c : Cas} {m : Nat} {fr kind who : Int} {body : ByteArray} (h : (takeM c m fr kind who body).e = 0) : hasB m who = true := by
  cases hh : hasB m who with
  | true => rfl
  | false =>
    unfold takeM at h
    split at h
    · cases h
    · rw [if_pos (.inl hh)] at h
      cases h
theorem take_counts {c : Cas} {m : Nat} (hm : m < 65536) (h : CountOk m c) (fr kind who : Int) (h0 : 0 ≤ who) (body : ByteArray) {a : Ans} (ha : takeM c m fr kind who body = a) :
    CountOk m a.c ∧ (a.is = true → 2 * faulty (sz m : Nat) + 1 ≤ (sz (forL a.c.readies a.body) : Nat)) ∧
      (∀ o ∈ a.outs, o.kind = 3 → echoes (sz m : Nat) ≤ (sz (forL a.c.echoes o.body) : Nat) ∨ faulty (sz m : Nat) + 1 ≤ (sz (forL a.c.readies o.body) : Nat)) := by
  subst ha
  rcases take_shape c m fr kind who body with ⟨e, ha, _⟩ | ⟨_, _, _, ha⟩ | ⟨hk, hv, ha⟩ | ⟨hk, hv, ha⟩
  · rw [ha]
    exact ⟨h, fun h => (by cases h), fun o ho => by simp [failA] at ho⟩
  · rw [ha]
    refine ⟨⟨h.se, h.sr, h.be, h.br⟩, fun h => (by cases h), fun o ho hk => ?_⟩
    simp at ho
    subst ho
    cases hk
  · have hW : hasB m who = true := has_of (c := c) (fr := fr) (kind := kind) (body := body) (by rw [ha])
    rw [ha]
    refine ⟨⟨sound_with h0 h.se hv, h.sr, sub_with hm h0 hW h.be, h.br⟩, fun h => (by cases h), fun o ho hk => .inl ?_⟩
    simp only [readyO] at ho
    split at ho
    · rename_i hq
      obtain rfl := List.mem_singleton.1 ho
      exact of_decide_eq_true hq.1
    · simp at ho
  · have hW : hasB m who = true := has_of (c := c) (fr := fr) (kind := kind) (body := body) (by rw [ha])
    rw [ha]
    refine ⟨⟨h.se, sound_with h0 h.sr hv, h.be, sub_with hm h0 hW h.br⟩, fun hd => ?_, fun o ho hk => .inr ?_⟩
    · simp only at hd ⊢
      rw [if_pos hd]
      unfold doneB at hd
      rw [Bool.and_eq_true] at hd
      exact of_decide_eq_true hd.2
    · simp only [readyO] at ho
      split at ho
      · rename_i hq
        obtain rfl := List.mem_singleton.1 ho
        exact of_decide_eq_true hq.1
      · simp at ho
end Go.Proofs.Ytkppilpailbpeaa.Vot
