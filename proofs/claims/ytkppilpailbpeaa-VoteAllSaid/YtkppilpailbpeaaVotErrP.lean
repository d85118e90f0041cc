/- Plain law of VoteErrors. -/
import Derived.Test.YtkppilpailbpeaaVotSameB
import Derived.Test.YtkppilpailbpeaaCntBaseRef
import Derived.Test.YtkppilpailbpeaaVotStep
namespace Go.Proofs.Ytkppilpailbpeaa.Vot
open Go Go.RowKit Go.Proofs.YtkppilpailbpeaaW.PrintWords Go.Proofs.Ytkppilpailbpeaa.Cnt Go.Proofs.Ytkppilpailbpeaa.Opn
set_option linter.unusedVariables false

theorem has_own (s : Nat) (id : Int) (h : id < 16) : hasB (s ||| bitN id) id = true := by
  unfold hasB bitN
  rw [if_pos h, Nat.testBit_or, Nat.testBit_two_pow]
  simp [h]
theorem voted_with (id : Int) (body : ByteArray) (h : id < 16) : ∀ l : List Bal, votedL (withL l id body) id = true
  | [] => by
    have := has_own 0 id h
    rw [Nat.zero_or] at this
    simp [withL, votedL, this]
  | x :: r => by
    have ih := voted_with id body h r
    unfold withL
    split
    · simp [votedL, has_own x.who id h]
    · unfold votedL at ih ⊢
      rw [List.any_cons, ih, Bool.or_true]
theorem take_errs (c : Cas) (m : Nat) (fr kind who : Int) (body : ByteArray) :
    ((takeM c m fr kind who body).e ≠ 0 → takeM c m fr kind who body = failA c (takeM c m fr kind who body).e) ∧
    ((takeM c m fr kind who body).e = 0 → takeM (takeM c m fr kind who body).c m fr kind who body = failA (takeM c m fr kind who body).c 6 ∧ (c.done = true → (takeM c m fr kind who body).is = false) ∧ (c.readied = true → (takeM c m fr kind who body).c.readied = true)) := by
  by_cases h1 : kind < 1 ∨ 3 < kind ∨ 1000 < body.size
  · have e : ∀ d, takeM d m fr kind who body = failA d 2 := fun d => by unfold takeM; rw [if_pos h1]
    rw [e]
    exact ⟨fun _ => rfl, fun h => by cases h⟩
  by_cases h2 : hasB m who = false ∨ hasB m fr = false ∨ (kind = 1 ∧ who ≠ fr)
  · have e : ∀ d, takeM d m fr kind who body = failA d 10 := fun d => by unfold takeM; rw [if_neg h1, if_pos h2]
    rw [e]
    exact ⟨fun _ => rfl, fun h => by cases h⟩
  have hid : who < 16 := (hasB_bit (s := m) (id := who) (by cases hh : hasB m who with | true => rfl | false => exact absurd (Or.inl hh) h2)).1
  have e : ∀ d, takeM d m fr kind who body = if kind = 1 then sendA d body else if kind = 2 then echoA d (sz m : Nat) who body else readyA d (sz m : Nat) who body := fun d => by unfold takeM; rw [if_neg h1, if_neg h2]
  rw [e, e]
  by_cases k1 : kind = 1
  · simp only [if_pos k1]
    unfold sendA
    cases hc : c.echoed with
    | true => exact ⟨fun _ => rfl, fun h => by cases h⟩
    | false => exact ⟨fun h => absurd rfl h, fun _ => ⟨rfl, fun _ => rfl, fun h => h⟩⟩
  by_cases k2 : kind = 2
  · simp only [if_neg k1, if_pos k2]
    cases hv : votedL c.echoes who with
    | true =>
      have : echoA c (sz m : Nat) who body = failA c 6 := by unfold echoA; rw [if_pos hv]
      rw [this]
      exact ⟨fun _ => rfl, fun h => by cases h⟩
    | false =>
      have hn : ¬ votedL c.echoes who = true := by rw [hv]; simp
      have he : (echoA c (sz m : Nat) who body).e = 0 := by unfold echoA; rw [if_neg hn]
      refine ⟨fun h => absurd he h, fun _ => ⟨?_, fun _ => ?_, fun h => ?_⟩⟩
      · have h2 : votedL (echoA c (sz m : Nat) who body).c.echoes who = true := by
          unfold echoA; rw [if_neg hn]; exact voted_with who body hid _
        generalize (echoA c (sz m : Nat) who body).c = d at *
        unfold echoA; rw [if_pos h2]
      · unfold echoA; rw [if_neg hn]
      · unfold echoA; rw [if_neg hn]; simp [readyC, h]
  simp only [if_neg k1, if_neg k2]
  cases hv : votedL c.readies who with
  | true =>
    have : readyA c (sz m : Nat) who body = failA c 6 := by unfold readyA; rw [if_pos hv]
    rw [this]
    exact ⟨fun _ => rfl, fun h => by cases h⟩
  | false =>
    have hn : ¬ votedL c.readies who = true := by rw [hv]; simp
    have he : (readyA c (sz m : Nat) who body).e = 0 := by unfold readyA; rw [if_neg hn]
    refine ⟨fun h => absurd he h, fun _ => ⟨?_, fun hd => ?_, fun h => ?_⟩⟩
    · have h2 : votedL (readyA c (sz m : Nat) who body).c.readies who = true := by
        unfold readyA; rw [if_neg hn]; exact voted_with who body hid _
      generalize (readyA c (sz m : Nat) who body).c = d at *
      unfold readyA; rw [if_pos h2]
    · unfold readyA; rw [if_neg hn]; simp [doneB, hd]
    · unfold readyA; rw [if_neg hn]; simp [readyC, h]
end Go.Proofs.Ytkppilpailbpeaa.Vot
