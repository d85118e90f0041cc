/- Votes: what Take comes to. -/
import Derived.Test.YtkppilpailbpeaaVotTake3
import Derived.Test.YtkppilpailbpeaaVotTake4
namespace Go.Proofs.Ytkppilpailbpeaa.Vot
open Go Go.RowKit Go.Proofs.YtkppilpailbpeaaW.PrintWords Go.Proofs.Ytkppilpailbpeaa.Cnt Go.Proofs.Ytkppilpailbpeaa.Opn
set_option linter.unusedVariables false
set_option linter.unusedSimpArgs false

theorem TakeR.eq {a b : Ans} {w : World} {en : Ending} {w' : World} (h : TakeR a w en w') (e : a = b) : TakeR b w en w' := e ▸ h
theorem take_calls (c : Cas) (AE : Option Addr) (cE : Nat) (AR : Option Addr) (cR : Nat) (m : Nat) (fr kind who : Int) (body : ByteArray) (w : World) (hE : kB.C w AE c.echoes.length c.echoes) (hR : kB.C w AR c.readies.length c.readies) (hcE : c.echoes.length ≤ cE) (hcR : c.readies.length ≤ cR)
    (hlE : c.echoes.length ≤ 900000) (hlR : c.readies.length ≤ 900000) (hm : m < 65536) (hf0 : 0 ≤ fr) (hf1 : fr ≤ 255) (hw0 : 0 ≤ who) (hw1 : who ≤ 255) (hk0 : -9223372036854775808 ≤ kind) (hk1 : kind ≤ 9223372036854775807) (hbs : body.size ≤ 9223372036854775807)
    (hWE : whoOk c.echoes) (hWR : whoOk c.readies) :
    Calls Try.prog 14 #[.agg #[.bool c.echoed, .bool c.readied, .bool c.done, .slice AE c.echoes.length cE, .slice AR c.readies.length cR], .int .u16 (m : Int), .int .u8 fr, .int .i64 kind, .int .u8 who, .string body] w (TakeR (takeM c m fr kind who body) w) := by
  obtain ⟨ec, rc, dc, E, R⟩ := c
  simp only at hE hR hcE hcR hlE hlR hWE hWR ⊢
  unfold takeM
  by_cases g0 : kind < 1
  · rw [if_pos (Or.inl g0)]
    exact take_e2a ec rc dc E R AE cE AR cR m fr kind who body w hE hR hcE hcR hlE hlR hm hf0 hf1 hw0 hw1 hk0 hk1 hbs g0
  by_cases g1 : 3 < kind
  · rw [if_pos (Or.inr (Or.inl g1))]
    exact take_e2b ec rc dc E R AE cE AR cR m fr kind who body w hE hR hcE hcR hlE hlR hm hf0 hf1 hw0 hw1 hk0 hk1 hbs g0 g1
  by_cases g2 : 1000 < body.size
  · rw [if_pos (Or.inr (Or.inr g2))]
    exact take_e2c ec rc dc E R AE cE AR cR m fr kind who body w hE hR hcE hcR hlE hlR hm hf0 hf1 hw0 hw1 hk0 hk1 hbs g0 g1 g2
  rw [if_neg (by rintro (h | h | h) <;> contradiction)]
  cases hW : hasB m who with
  | false =>
    rw [if_pos (Or.inl rfl)]
    exact take_e10a ec rc dc E R AE cE AR cR m fr kind who body w hE hR hcE hcR hlE hlR hm hf0 hf1 hw0 hw1 hk0 hk1 hbs g0 g1 g2 hW
  | true =>
  cases hF : hasB m fr with
  | false =>
    rw [if_pos (Or.inr (Or.inl rfl))]
    exact take_e10b ec rc dc E R AE cE AR cR m fr kind who body w hE hR hcE hcR hlE hlR hm hf0 hf1 hw0 hw1 hk0 hk1 hbs g0 g1 g2 hW hF
  | true =>
  by_cases k1 : kind = 1
  · by_cases hwf : who = fr
    · rw [if_neg (by rintro (h | h | h); cases h; cases h; exact h.2 hwf), if_pos k1]
      cases he : ec with
      | true =>
        subst he
        exact take_e6s true rc dc E R AE cE AR cR m fr kind who body w hE hR hcE hcR hlE hlR hm hf0 hf1 hw0 hw1 hk0 hk1 hbs g0 g1 g2 hW hF k1 hwf rfl
      | false =>
        subst he
        exact take_send false rc dc E R AE cE AR cR m fr kind who body w hE hR hcE hcR hlE hlR hm hf0 hf1 hw0 hw1 hk0 hk1 hbs g0 g1 g2 hW hF k1 hwf rfl
    · rw [if_pos (Or.inr (Or.inr ⟨k1, hwf⟩))]
      exact take_e10c ec rc dc E R AE cE AR cR m fr kind who body w hE hR hcE hcR hlE hlR hm hf0 hf1 hw0 hw1 hk0 hk1 hbs g0 g1 g2 hW hF k1 hwf
  rw [if_neg (by rintro (h | h | h); cases h; cases h; exact k1 h.1), if_neg k1]
  by_cases k2 : kind = 2
  · rw [if_pos k2]
    unfold echoA
    cases hv : votedL E who with
    | true =>
      rw [if_pos rfl]
      exact take_echo_err ec rc dc E R AE cE AR cR m fr kind who body w hE hR hcE hcR hlE hlR hm hf0 hf1 hw0 hw1 hk0 hk1 hbs g0 g1 g2 hW hF k2 hWE hv
    | false =>
      rw [if_neg (by decide)]
      by_cases hge : echoes (sz m : Nat) ≤ manyL E who body
      · refine (take_echo_ge ec rc dc E R AE cE AR cR m fr kind who body w hE hR hcE hcR hlE hlR hm hf0 hf1 hw0 hw1 hk0 hk1 hbs g0 g1 g2 hW hF k2 hWE hv hge).mono fun en w' h => h.eq ?_
        rw [decide_eq_true hge]
        cases rc <;> rfl
      · refine (take_echo_lt ec rc dc E R AE cE AR cR m fr kind who body w hE hR hcE hcR hlE hlR hm hf0 hf1 hw0 hw1 hk0 hk1 hbs g0 g1 g2 hW hF k2 hWE hv hge).mono fun en w' h => h.eq ?_
        rw [decide_eq_false hge]
        cases rc <;> rfl
  · rw [if_neg k2]
    have k3 : kind = 3 := by omega
    unfold readyA
    cases hv : votedL R who with
    | true =>
      rw [if_pos rfl]
      exact take_ready_err ec rc dc E R AE cE AR cR m fr kind who body w hE hR hcE hcR hlE hlR hm hf0 hf1 hw0 hw1 hk0 hk1 hbs g0 g1 g2 hW hF k3 hWR hv
    | false =>
      rw [if_neg (by decide)]
      have hfr := faulty_range (sz m : Nat)
      by_cases hge : faulty (sz m : Nat) + 1 ≤ manyL R who body
      · cases hd : dc with
        | true =>
          subst hd
          refine (take_ready_ge_done ec rc true E R AE cE AR cR m fr kind who body w hE hR hcE hcR hlE hlR hm hf0 hf1 hw0 hw1 hk0 hk1 hbs g0 g1 g2 hW hF k3 hWR hv hge rfl).mono fun en w' h => h.eq ?_
          rw [decide_eq_true hge]
          cases rc <;> rfl
        | false =>
          subst hd
          by_cases hen : 2 * faulty (sz m : Nat) + 1 ≤ manyL R who body
          · refine (take_ready_ge_enough ec rc false E R AE cE AR cR m fr kind who body w hE hR hcE hcR hlE hlR hm hf0 hf1 hw0 hw1 hk0 hk1 hbs g0 g1 g2 hW hF k3 hWR hv hge rfl hen).mono fun en w' h => h.eq ?_
            have hb : doneB ⟨ec, rc, false, E, R⟩ (sz m : Nat) who body = true := by simp [doneB, hen]
            rw [decide_eq_true hge, hb]
            cases rc <;> rfl
          · refine (take_ready_ge_few ec rc false E R AE cE AR cR m fr kind who body w hE hR hcE hcR hlE hlR hm hf0 hf1 hw0 hw1 hk0 hk1 hbs g0 g1 g2 hW hF k3 hWR hv hge rfl hen).mono fun en w' h => h.eq ?_
            have hb : doneB ⟨ec, rc, false, E, R⟩ (sz m : Nat) who body = false := by simp [doneB]; omega
            rw [decide_eq_true hge, hb]
            cases rc <;> rfl
      · cases hd : dc with
        | true =>
          subst hd
          refine (take_ready_lt_done ec rc true E R AE cE AR cR m fr kind who body w hE hR hcE hcR hlE hlR hm hf0 hf1 hw0 hw1 hk0 hk1 hbs g0 g1 g2 hW hF k3 hWR hv hge rfl).mono fun en w' h => h.eq ?_
          rw [decide_eq_false hge]
          cases rc <;> rfl
        | false =>
          subst hd
          have hen : ¬ 2 * faulty (sz m : Nat) + 1 ≤ manyL R who body := by omega
          refine (take_ready_lt_few ec rc false E R AE cE AR cR m fr kind who body w hE hR hcE hcR hlE hlR hm hf0 hf1 hw0 hw1 hk0 hk1 hbs g0 g1 g2 hW hF k3 hWR hv hge rfl hen).mono fun en w' h => h.eq ?_
          have hb : doneB ⟨ec, rc, false, E, R⟩ (sz m : Nat) who body = false := by simp [doneB]; omega
          rw [decide_eq_false hge, hb]
          cases rc <;> rfl
end Go.Proofs.Ytkppilpailbpeaa.Vot
