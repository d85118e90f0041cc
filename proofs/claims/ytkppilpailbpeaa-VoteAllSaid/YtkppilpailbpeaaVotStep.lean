/- Votes: what a vote does to a case, in plain words; the votes of a law. -/
import Derived.Test.YtkppilpailbpeaaVotAlive
namespace Go.Proofs.Ytkppilpailbpeaa.Vot
open Go Go.RowKit Go.Proofs.YtkppilpailbpeaaW.PrintWords Go.Proofs.Ytkppilpailbpeaa.Cnt Go.Proofs.Ytkppilpailbpeaa.Opn
set_option linter.unusedVariables false
set_option linter.unusedSimpArgs false

def b2n (b : Bool) : Nat := if b = true then 1 else 0
def nK (k : Int) (l : List Out) : Nat := (l.filter (fun o => o.kind == k)).length
theorem nK_take (k : Int) (l : List Out) (j : Nat) (h : j < l.length) : nK k (l.take (j + 1)) = nK k (l.take j) + (if l[j].kind == k then 1 else 0) := by
  unfold nK
  rw [← List.take_append_getElem h, List.filter_append]
  cases hh : l[j].kind == k <;> simp [hh]
/-- what is right of a case, behind n votes -/
structure Good (c : Cas) (n : Nat) : Prop where
  we : whoOk c.echoes
  wr : whoOk c.readies
  le : c.echoes.length ≤ n
  lr : c.readies.length ≤ n
  dr : c.done = true → c.readied = true
structure Step (c : Cas) (a : Ans) : Prop where
  e : b2n a.c.echoed = b2n c.echoed + nK 2 a.outs
  r : b2n a.c.readied = b2n c.readied + nK 3 a.outs
  d : b2n a.c.done = b2n c.done + b2n a.is
  k : ∀ o ∈ a.outs, o.kind = 2 ∨ o.kind = 3
  n : a.outs.length ≤ 1
theorem Good.more {c : Cas} {n : Nat} (h : Good c n) : Good c (n + 1) := ⟨h.we, h.wr, by have := h.le; omega, by have := h.lr; omega, h.dr⟩
theorem step_fail (c : Cas) (e : Int) : Step c (failA c e) := ⟨rfl, rfl, rfl, fun o ho => by simp [failA] at ho, by simp [failA]⟩
theorem take_step (c : Cas) (m : Nat) (fr kind who : Int) (body : ByteArray) : Step c (takeM c m fr kind who body) := by
  unfold takeM
  split
  · exact step_fail c 2
  split
  · exact step_fail c 10
  split
  · unfold sendA
    split
    · exact step_fail c 6
    · rename_i he
      have he : c.echoed = false := by simpa using he
      exact ⟨by simp [b2n, nK, he], by simp [b2n, nK], by simp [b2n], fun o ho => by simp at ho; subst ho; exact .inl rfl, by simp⟩
  split
  · unfold echoA
    split
    · exact step_fail c 6
    · generalize decide (echoes (sz m : Nat) ≤ manyL c.echoes who body) = b
      obtain ⟨ec, rc, dc, E, R⟩ := c
      cases b <;> cases rc <;> exact ⟨rfl, rfl, rfl, fun o ho => by simp [readyO] at ho <;> (subst ho; exact .inr rfl), by simp [readyO]⟩
  · unfold readyA
    split
    · exact step_fail c 6
    · generalize decide (faulty (sz m : Nat) + 1 ≤ manyL c.readies who body) = b
      generalize hq : doneB c (sz m : Nat) who body = q
      obtain ⟨ec, rc, dc, E, R⟩ := c
      have hd : dc = true → q = false := by
        intro h
        subst h
        rw [← hq]
        simp [doneB]
      cases dc <;> cases q <;> cases b <;> cases rc <;> first | (exact absurd (hd rfl) (by decide)) | exact ⟨rfl, rfl, rfl, fun o ho => by simp [readyO] at ho <;> (subst ho; exact .inr rfl), by simp [readyO]⟩
theorem take_good {c : Cas} {n : Nat} (h : Good c n) (m : Nat) (fr kind who : Int) (body : ByteArray) : Good (takeM c m fr kind who body).c (n + 1) := by
  have hm := h.more
  unfold takeM
  split
  · exact hm
  split
  · exact hm
  split
  · unfold sendA
    split
    · exact hm
    · exact ⟨h.we, h.wr, hm.le, hm.lr, h.dr⟩
  split
  · unfold echoA
    split
    · exact hm
    · refine ⟨withL_ok h.we _ _, h.wr, Nat.le_trans (withL_length _ _ _) (by have := h.le; omega), hm.lr, fun hd => ?_⟩
      have := h.dr hd
      simp [readyC, this]
  · unfold readyA
    split
    · exact hm
    · refine ⟨h.we, withL_ok h.wr _ _, hm.le, Nat.le_trans (withL_length _ _ _) (by have := h.lr; omega), fun hd => ?_⟩
      simp only [Bool.or_eq_true] at hd
      rcases hd with hd | hd
      · have := h.dr hd
        simp [readyC, this]
      · have h1 : 2 * faulty (sz m : Nat) + 1 ≤ manyL c.readies who body := by
          simp [doneB] at hd
          exact hd.2
        have h2 := faulty_range (sz m : Nat)
        have : faulty (sz m : Nat) + 1 ≤ manyL c.readies who body := by omega
        simp [readyC, this]

/-! ### the votes of a law -/
structure Vt where
  kind : Int
  who : Int
  body : ByteArray
def kV : Kd Vt := Kd.iso (Kd.pair (Kd.int .i64) (Kd.pair (Kd.int .u8) Kd.string)) (fun x : Vt => (x.kind, x.who, x.body))
theorem kV_open {w : World} {x : Vt} {cs : List Value} (h : kV.K w x cs) : cs = [.int .i64 x.kind, .int .u8 x.who, .string x.body] := by
  obtain ⟨_, _, rfl, rfl, _, _, rfl, rfl, rfl⟩ := h
  exact rfl
theorem at_V {w : World} {A : Option Addr} {n : Nat} {xs : List Vt} (h : Kd.C kV w A n xs) (i : Nat) (h1 : i < xs.length) : ∃ ad, A = some ad ∧ w.cell? (ad.add (i * 3)) = some (.int .i64 xs[i].kind) ∧ w.cell? ⟨(ad.add (i * 3)).block, (ad.add (i * 3)).off + 1, none⟩ = some (.int .u8 xs[i].who) ∧ w.cell? ⟨(ad.add (i * 3)).block, (ad.add (i * 3)).off + 2, none⟩ = some (.string xs[i].body) := by
  have hn := Kd.C_len h
  obtain ⟨ad, c, e, _, hK, hc0⟩ := Kd.C_get h ⟨0, 0, ByteArray.empty⟩ (i : Int) (by omega) (by omega)
  have hx : xs.getD (i : Int).toNat ⟨0, 0, ByteArray.empty⟩ = xs[i] := by simp [h1]
  rw [hx] at hK
  have hc : ∀ j u, c[j]? = some u → w.cell? (ad.add (i * 3 + j)) = some u := hc0
  obtain rfl := kV_open hK
  exact ⟨ad, e, hc 0 _ rfl, by rw [← add_field _ _ 1 (by omega)]; exact hc 1 _ rfl, by rw [← add_field _ _ 2 (by omega)]; exact hc 2 _ rfl⟩
/-- a vote's numbers are in their bounds -/
def VtOk (x : Vt) : Prop := (-9223372036854775808 ≤ x.kind ∧ x.kind ≤ 9223372036854775807) ∧ (0 ≤ x.who ∧ x.who ≤ 255)
end Go.Proofs.Ytkppilpailbpeaa.Vot
