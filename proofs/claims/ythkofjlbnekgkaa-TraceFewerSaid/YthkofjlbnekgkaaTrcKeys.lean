/- The two key types of package trace's maps: sources and entries. -/
import Derived.Test.YthkofjlbnekgkaaMap
import Derived.Test.YthkofjlbnekgkaaOpen
import Derived.Test.YthkofjlbnekgkaaTrcFns3
namespace Go.Proofs.Ythkofjlbnekgkaa.Trc
open Go Go.RowKit Go.Maps Go.Proofs.YthkofjlbnekgkaaW.PrintWords Go.Proofs.Ythkofjlbnekgkaa.PTraceAgrees Go.Proofs.Ythkofjlbnekgkaa.Mp
set_option linter.unusedVariables false
set_option linter.unusedSimpArgs false

theorem laidOut : laidOutB Try.prog = true := by kernel_rfl
def WI (k : IntKind) (x : Int) : Prop := (Lit.int k x).wf = true

/-- a source: view, member -/
def srcV (s : Int × Int) : Value := .agg #[.int .i64 s.1, .int .u8 s.2]
def okS (s : Int × Int) : Prop := WI .i64 s.1 ∧ WI .u8 s.2
theorem size_types : Try.prog.types.size + 1 = (Try.prog.types.size - 2) + 3 := by kernel_rfl
theorem cells54 : Try.prog.cellsOf 54 = 2 := by kernel_rfl
theorem cells50 : Try.prog.cellsOf 50 = 4 := by kernel_rfl
theorem cells24 : Try.prog.cellsOf 24 = 3 := by kernel_rfl
theorem cellsI : Try.prog.cellsOf 3 = 1 := by kernel_rfl
theorem cellsB : Try.prog.cellsOf 5 = 1 := by kernel_rfl
theorem cellsS : Try.prog.cellsOf 9 = 1 := by kernel_rfl
theorem lits_src (M : Nat) (cs : List Value) (L : List Lit) : Try.prog.keyLits (M + 2) 54 cs = some L ↔ ∃ s : Int × Int, okS s ∧ cs = [.int .i64 s.1, .int .u8 s.2] ∧ L = [.int .i64 s.1, .int .u8 s.2] := by
  unfold Program.keyLits
  simp only [Try.underlying54]
  constructor
  · intro h
    split at h
    · rename_i hc
      obtain ⟨hc, _⟩ := hc
      rw [cells54] at hc
      match cs, hc with
      | [a, b], _ =>
        simp [cellsI, cellsB, lits_int Try.underlying3, lits_int Try.underlying5, Option.bind_eq_some_iff] at h
        obtain ⟨L1, ⟨n, rfl, hw, rfl⟩, L2, ⟨L3, ⟨p, rfl, hw2, rfl⟩, rfl⟩, rfl⟩ := h
        exact ⟨(n, p), ⟨hw, hw2⟩, rfl, rfl⟩
    · cases h
  · rintro ⟨⟨n, p⟩, ⟨h1, h2⟩, rfl, rfl⟩
    have e1 := (lits_int Try.underlying3 M _ _).2 ⟨n, rfl, h1, rfl⟩
    have e2 := (lits_int Try.underlying5 M _ _).2 ⟨p, rfl, h2, rfl⟩
    simp [cells54, cellsI, cellsB, e1, e2]
theorem lits_name (M : Nat) (cs : List Value) (L : List Lit) : Try.prog.keyLits (M + 2) 24 cs = some L ↔ ∃ a b c : Int, (WI .i64 a ∧ WI .u8 b ∧ WI .i64 c) ∧ cs = [.int .i64 a, .int .u8 b, .int .i64 c] ∧ L = [.int .i64 a, .int .u8 b, .int .i64 c] := by
  unfold Program.keyLits
  simp only [Try.underlying24]
  constructor
  · intro h
    split at h
    · rename_i hc
      obtain ⟨hc, _⟩ := hc
      rw [cells24] at hc
      match cs, hc with
      | [a, b, c], _ =>
        simp [cellsI, cellsB, lits_int Try.underlying3, lits_int Try.underlying5, Option.bind_eq_some_iff] at h
        obtain ⟨L1, ⟨n, rfl, hw, rfl⟩, L2, ⟨L3, ⟨p, rfl, hw2, rfl⟩, L4, ⟨L5, ⟨q, rfl, hw3, rfl⟩, rfl⟩, rfl⟩, rfl⟩ := h
        exact ⟨n, p, q, ⟨hw, hw2, hw3⟩, rfl, rfl⟩
    · cases h
  · rintro ⟨n, p, q, ⟨h1, h2, h3⟩, rfl, rfl⟩
    have e1 := (lits_int Try.underlying3 M _ _).2 ⟨n, rfl, h1, rfl⟩
    have e2 := (lits_int Try.underlying5 M _ _).2 ⟨p, rfl, h2, rfl⟩
    have e3 := (lits_int Try.underlying3 M _ _).2 ⟨q, rfl, h3, rfl⟩
    simp [cells24, cellsI, cellsB, e1, e2, e3]
def cells50of (x : S50) : List Value := [.int .i64 x.f0.f0, .int .u8 x.f0.f1, .int .i64 x.f0.f2, .string x.f1]
def entV (x : S50) : Value := .agg #[.int .i64 x.f0.f0, .int .u8 x.f0.f1, .int .i64 x.f0.f2, .string x.f1]
def okE (x : S50) : Prop := (WI .i64 x.f0.f0 ∧ WI .u8 x.f0.f1 ∧ WI .i64 x.f0.f2) ∧ x.f1.size ≤ maxLen
theorem lits_ent (M : Nat) (cs : List Value) (L : List Lit) : Try.prog.keyLits (M + 3) 50 cs = some L ↔ ∃ x : S50, okE x ∧ cs = cells50of x ∧ L = [.int .i64 x.f0.f0, .int .u8 x.f0.f1, .int .i64 x.f0.f2, .string x.f1.data.toList] := by
  unfold Program.keyLits
  simp only [Try.underlying50]
  constructor
  · intro h
    split at h
    · rename_i hc
      obtain ⟨hc, _⟩ := hc
      rw [cells50] at hc
      match cs, hc with
      | [a, b, c, d], _ =>
        simp [cells24, cellsS, lits_name, lits_str Try.underlying9, Option.bind_eq_some_iff] at h
        obtain ⟨L1, ⟨n, p, q, hw, ⟨rfl, rfl, rfl⟩, rfl⟩, L2, ⟨L3, ⟨s, rfl, hs, rfl⟩, rfl⟩, rfl⟩ := h
        exact ⟨⟨⟨n, p, q⟩, s⟩, ⟨hw, hs⟩, rfl, rfl⟩
    · cases h
  · rintro ⟨⟨⟨n, p, q⟩, s⟩, ⟨h1, h2⟩, rfl, rfl⟩
    have e1 := (lits_name M _ _).2 ⟨n, p, q, h1, rfl, rfl⟩
    have e2 := (lits_str Try.underlying9 (M + 1) _ _).2 ⟨s, rfl, h2, rfl⟩
    simp [cells50of, cells50, cells24, cellsS, e1, e2]

theorem kt54 : Try.prog.keyType 54 = true := by kernel_rfl
theorem kt50 : Try.prog.keyType 50 = true := by kernel_rfl
theorem keys54 : Keys Try.prog 54 srcV okS where
  law := Keyed.of_law (deep_law_laid laidOut (m := Try.prog.types.size + 1) (of_decide_eq_true (by kernel_rfl)) (of_decide_eq_true (by kernel_rfl)) kt54 (by rw [Try.underlying54]))
  inj x y h := by cases x; cases y; simpa [srcV] using h
  reads x hx := by
    unfold keyOf
    rw [Try.underlying54, kt54]
    have e := (lits_src (Try.prog.types.size - 2 + 1) _ _).2 ⟨x, hx, rfl, rfl⟩
    refine ⟨.string (keyBytes [.int .i64 x.1, .int .u8 x.2]), ?_⟩
    have hf : (srcV x).formed Try.prog 54 = true := by simp [srcV, Value.formed, Try.underlying54, cells54]
    simp only [hf, size_types, Bool.and_self, if_true]
    rw [show (srcV x).cells.toList = [.int .i64 x.1, .int .u8 x.2] from rfl, show Try.prog.types.size - 2 + 3 = Try.prog.types.size - 2 + 1 + 2 from rfl, e]
    rfl
  inv v kl h := by
    obtain ⟨xs, L, rfl, hL, rfl⟩ := keyOf_top (by rw [Try.underlying54]) h
    rw [size_types] at hL
    obtain ⟨s, hs, hx, _⟩ := (lits_src (Try.prog.types.size - 2 + 1) _ _).1 hL
    refine ⟨s, hs, ?_⟩
    unfold srcV
    rw [← hx]
theorem keys50 : Keys Try.prog 50 entV okE where
  law := Keyed.of_law (deep_law_laid laidOut (m := Try.prog.types.size + 1) (of_decide_eq_true (by kernel_rfl)) (of_decide_eq_true (by kernel_rfl)) kt50 (by rw [Try.underlying50]))
  inj x y h := by
    cases x with | mk a b => cases a; cases y with | mk c d => cases c; simpa [entV, and_assoc] using h
  reads x hx := by
    unfold keyOf
    rw [Try.underlying50, kt50]
    have e := (lits_ent (Try.prog.types.size - 2) _ _).2 ⟨x, hx, rfl, rfl⟩
    refine ⟨.string (keyBytes [.int .i64 x.f0.f0, .int .u8 x.f0.f1, .int .i64 x.f0.f2, .string x.f1.data.toList]), ?_⟩
    have hf : (entV x).formed Try.prog 50 = true := by simp [entV, Value.formed, Try.underlying50, cells50]
    simp only [hf, size_types, Bool.and_self, if_true]
    rw [show (entV x).cells.toList = cells50of x from rfl, e]
    rfl
  inv v kl h := by
    obtain ⟨xs, L, rfl, hL, rfl⟩ := keyOf_top (by rw [Try.underlying50]) h
    rw [size_types] at hL
    obtain ⟨s, hs, hx, _⟩ := (lits_ent (Try.prog.types.size - 2) _ _).1 hL
    refine ⟨s, hs, ?_⟩
    have : xs = (cells50of s).toArray := by rw [← hx]
    rw [this]; rfl
end Go.Proofs.Ythkofjlbnekgkaa.Trc
