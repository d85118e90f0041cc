/- The map of hold.Right: its keys, and a map as an assertion. -/
import Derived.Test.YtkifekjcpnoclaaHldLib
import Derived.Test.YtkifekjcpnoclaaMap
namespace Go.Proofs.Ytkifekjcpnoclaa.Hld
open Go Go.RowKit Go.Maps Go.Proofs.YtkifekjcpnoclaaW.PrintWords Go.Proofs.Ytkifekjcpnoclaa.Mp Go.Proofs.Ytkifekjcpnoclaa.Sep Go.Proofs.Ytkifekjcpnoclaa.Obj
set_option linter.unusedVariables false
set_option linter.unusedSimpArgs false

theorem laidOut : laidOutB Try.prog = true := by kernel_rfl
def WI (k : IntKind) (x : Int) : Prop := (Lit.int k x).wf = true
/-- a spot: sender, number -/
def spotV (s : Int × Int) : Value := .agg #[.int .u8 s.1, .int .i64 s.2]
def okS (s : Int × Int) : Prop := WI .u8 s.1 ∧ WI .i64 s.2
theorem size_types : Try.prog.types.size + 1 = (Try.prog.types.size - 2) + 3 := by kernel_rfl
theorem cellsSp : Try.prog.cellsOf 76 = 2 := by kernel_rfl
theorem cellsI : Try.prog.cellsOf 3 = 1 := by kernel_rfl
theorem cellsB : Try.prog.cellsOf 5 = 1 := by kernel_rfl
theorem lits_spot (M : Nat) (cs : List Value) (L : List Lit) : Try.prog.keyLits (M + 2) 76 cs = some L ↔ ∃ s : Int × Int, okS s ∧ cs = [.int .u8 s.1, .int .i64 s.2] ∧ L = [.int .u8 s.1, .int .i64 s.2] := by
  unfold Program.keyLits
  simp only [Try.underlying76]
  constructor
  · intro h
    split at h
    · rename_i hc
      obtain ⟨hc, _⟩ := hc
      rw [cellsSp] at hc
      match cs, hc with
      | [a, b], _ =>
        simp [cellsI, cellsB, lits_int Try.underlying3, lits_int Try.underlying5, Option.bind_eq_some_iff] at h
        obtain ⟨L1, ⟨n, rfl, hw, rfl⟩, L2, ⟨L3, ⟨p, rfl, hw2, rfl⟩, rfl⟩, rfl⟩ := h
        exact ⟨(n, p), ⟨hw, hw2⟩, rfl, rfl⟩
    · cases h
  · rintro ⟨⟨n, p⟩, ⟨h1, h2⟩, rfl, rfl⟩
    have e1 := (lits_int Try.underlying5 M _ _).2 ⟨n, rfl, h1, rfl⟩
    have e2 := (lits_int Try.underlying3 M _ _).2 ⟨p, rfl, h2, rfl⟩
    simp [cellsSp, cellsI, cellsB, e1, e2]
theorem ktSp : Try.prog.keyType 76 = true := by kernel_rfl
theorem keysSp : Keys Try.prog 76 spotV okS where
  law := Keyed.of_law (deep_law_laid laidOut (m := Try.prog.types.size + 1) (of_decide_eq_true (by kernel_rfl)) (of_decide_eq_true (by kernel_rfl)) ktSp (by rw [Try.underlying76]))
  inj x y h := by cases x; cases y; simpa [spotV] using h
  reads x hx := by
    unfold keyOf
    rw [Try.underlying76, ktSp]
    have e := (lits_spot (Try.prog.types.size - 2 + 1) _ _).2 ⟨x, hx, rfl, rfl⟩
    refine ⟨.string (keyBytes [.int .u8 x.1, .int .i64 x.2]), ?_⟩
    have hf : (spotV x).formed Try.prog 76 = true := by simp [spotV, Value.formed, Try.underlying76, cellsSp]
    simp only [hf, size_types, Bool.and_self, if_true]
    rw [show (spotV x).cells.toList = [.int .u8 x.1, .int .i64 x.2] from rfl, show Try.prog.types.size - 2 + 3 = Try.prog.types.size - 2 + 1 + 2 from rfl, e]
    rfl
  inv v kl h := by
    obtain ⟨xs, L, rfl, hL, rfl⟩ := keyOf_top (by rw [Try.underlying76]) h
    rw [size_types] at hL
    obtain ⟨s, hs, hx, _⟩ := (lits_spot (Try.prog.types.size - 2 + 1) _ _).1 hL
    refine ⟨s, hs, ?_⟩
    unfold spotV
    rw [← hx]
/-- a map of spots, as an assertion -/
def mapA (b n : Nat) (g : Int × Int → Option Value) : Asr where
  P := fun w S => MapIs Try.prog 76 spotV w b n g ∧ S b
  mono := fun h a => ⟨a.1, h _ a.2⟩
  move := fun h a => ⟨a.1.moved (h _ a.2 a.1.lt), a.2⟩
theorem mapA_made {S : Nat → Prop} {As : List Asr} {w0 w : World} (h : OwnS S As w0 w) : OwnS S (As ++ [mapA w.heap.size 0 (fun _ => none)]) w0 (w.alloc (.map #[] 0)) :=
  h.add (below_alloc (Below.refl _ _) _) ⟨MapIs.made _ _ _ w, Nat.le_refl _, by simp⟩
theorem mapA_get {S : Nat → Prop} {As : List Asr} {w0 w : World} (h : OwnS S As w0 w) (i : Nat) {b n : Nat} {g : Int × Int → Option Value} (hi : As[i]? = some (mapA b n g)) : MapIs Try.prog 76 spotV w b n g := (h.get i hi).1
theorem mapA_put {S : Nat → Prop} {As : List Asr} {w0 w w' : World} (h : OwnS S As w0 w) (i : Nat) {b n n' : Nat} {g g' : Int × Int → Option Value} (hi : As[i]? = some (mapA b n g)) (hm : MapIs Try.prog 76 spotV w' b n' g') (hg : w.grownBy w' (some b)) : OwnS S (As.set i (mapA b n' g')) w0 w' :=
  h.mod i hi _ (fun T hT => ⟨Frm.grown hg (fun k hk => by cases hk; exact hT.2), hm, .inl hT.2⟩)
theorem zeroSp (w : World) : (zeroValue 77).run Try.prog w = .ok (.agg #[]) w := by kernel_rfl
end Go.Proofs.Ytkifekjcpnoclaa.Hld
