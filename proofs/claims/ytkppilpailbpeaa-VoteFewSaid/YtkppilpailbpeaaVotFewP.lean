/- Plain law of VoteFew. -/
import Derived.Test.YtkppilpailbpeaaVotCasts
import Derived.Test.YtkppilpailbpeaaCntBaseRef
namespace Go.Proofs.Ytkppilpailbpeaa.Vot
open Go Go.RowKit Go.Proofs.YtkppilpailbpeaaW.PrintWords Go.Proofs.Ytkppilpailbpeaa.Cnt Go.Proofs.Ytkppilpailbpeaa.Opn
set_option linter.unusedVariables false

theorem sz_or (a b : Nat) : sz a ≤ sz (a ||| b) := by
  unfold sz
  apply List.countP_mono_left
  intro x _ h
  rw [Nat.testBit_or, h]
  rfl
/-- has a body k votes or more? -/
def anyK (k : Int) (l : List Bal) : Bool := l.any (fun x => decide (k ≤ (sz x.who : Nat)))
theorem anyK_with (k : Int) (id : Int) (body : ByteArray) : ∀ l : List Bal, anyK k (withL l id body) = (anyK k l || decide (k ≤ manyL l id body))
  | [] => by simp [anyK, withL, manyL, forL, hit_self]
  | x :: r => by
    have ih := anyK_with k id body r
    by_cases hx : hit body x = true
    · have h2 : hit body ⟨x.body, x.who ||| bitN id⟩ = true := hx
      have hm := sz_or x.who (bitN id)
      have hmany : manyL (x :: r) id body = (sz (x.who ||| bitN id) : Nat) := by simp [manyL, withL, hx, forL, h2]
      rw [hmany]
      simp only [anyK, withL, hx, if_true, List.any_cons]
      by_cases h1 : k ≤ (sz x.who : Nat)
      · have h3 : k ≤ (sz (x.who ||| bitN id) : Nat) := by omega
        simp [h1, h3]
      · simp only [h1, decide_false, Bool.false_or]
        exact Bool.or_comm _ _
    · have hmany : manyL (x :: r) id body = manyL r id body := by simp [manyL, withL, hx, forL]
      rw [hmany]
      simp only [anyK, withL, hx, Bool.false_eq_true, if_false, List.any_cons]
      unfold anyK at ih
      rw [ih, Bool.or_assoc]
def enough (n : Int) (c : Cas) : Bool := anyK (echoes n) c.echoes || anyK (faulty n + 1) c.readies
theorem take_few {c : Cas} {m : Nat} (h : c.readied = enough (sz m : Nat) c) (fr kind who : Int) (body : ByteArray) :
    (takeM c m fr kind who body).c.readied = enough (sz m : Nat) (takeM c m fr kind who body).c ∧ ((takeM c m fr kind who body).is = true → enough (sz m : Nat) (takeM c m fr kind who body).c = true) := by
  have hfail : ∀ e, (failA c e).c.readied = enough (sz m : Nat) (failA c e).c ∧ ((failA c e).is = true → enough (sz m : Nat) (failA c e).c = true) := fun e => ⟨h, fun h => by cases h⟩
  unfold takeM
  split
  · exact hfail 2
  split
  · exact hfail 10
  split
  · unfold sendA
    split
    · exact hfail 6
    · exact ⟨h, fun h => by cases h⟩
  split
  · unfold echoA
    split
    · exact hfail 6
    · refine ⟨?_, fun h => by cases h⟩
      have := anyK_with (echoes (sz m : Nat)) who body c.echoes
      simp only [readyC, enough] at h ⊢
      rw [this, h]
      generalize anyK _ c.echoes = p
      generalize anyK _ c.readies = q
      generalize decide (echoes (sz m : Nat) ≤ manyL c.echoes who body) = r
      cases p <;> cases q <;> cases r <;> rfl
  · unfold readyA
    split
    · exact hfail 6
    · have := anyK_with (faulty (sz m : Nat) + 1) who body c.readies
      have hfr := faulty_range (sz m : Nat)
      simp only [readyC, enough] at h ⊢
      rw [this, h]
      refine ⟨?_, fun hd => ?_⟩
      · generalize anyK _ c.echoes = p
        generalize anyK _ c.readies = q
        generalize decide (faulty (sz m : Nat) + 1 ≤ manyL c.readies who body) = r
        cases p <;> cases q <;> cases r <;> rfl
      · have h1 : 2 * faulty (sz m : Nat) + 1 ≤ manyL c.readies who body := by
          simp [doneB] at hd
          exact hd.2
        have h2 : faulty (sz m : Nat) + 1 ≤ manyL c.readies who body := by omega
        rw [decide_eq_true h2]
        simp
theorem anyK_take (k : Int) (l : List Bal) (j : Nat) (h : j < l.length) : anyK k (l.take (j + 1)) = (anyK k (l.take j) || decide (k ≤ (sz l[j].who : Nat))) := by
  unfold anyK
  rw [← List.take_append_getElem h, List.any_append]
  simp
end Go.Proofs.Ytkppilpailbpeaa.Vot
