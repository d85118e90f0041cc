/- '==' of items. -/
import Derived.Test.YtkifekjcpnoclaaHldAliveP
import Derived.Test.YtkifekjcpnoclaaArrEq
namespace Go.Proofs.Ytkifekjcpnoclaa.Hld
open Go Go.RowKit Go.Maps Go.Proofs.YtkifekjcpnoclaaW.PrintWords Go.Proofs.Ytkifekjcpnoclaa.Mp Go.Proofs.Ytkifekjcpnoclaa.Sep Go.Proofs.Ytkifekjcpnoclaa.Obj
set_option linter.unusedVariables false
set_option linter.unusedSimpArgs false
def litB (k : Int) (v : List Int) (t : ByteArray) : List Lit := .int .i64 k :: (v.map (Lit.int .u16) ++ [.string t.data.toList])
theorem cellsBod : Try.prog.cellsOf 41 = 18 := by kernel_rfl
theorem cellsBodR : Try.prog.cellsOf 29 = 18 := by kernel_rfl
theorem cellsS : Try.prog.cellsOf 9 = 1 := by kernel_rfl
/-- what else must hold of an item that is compared -/
def okK (x : It) : Prop := WI .i64 x.seq ∧ WI .i64 x.kind
def litI (x : It) : List Lit := .int .u8 x.frm :: .int .i64 x.seq :: litB x.kind x.past x.text
def eqI (x y : It) : Bool := decide (x.frm = y.frm) && decide (x.seq = y.seq) && decide (x.kind = y.kind) && decide (x.past = y.past) && decide (x.text.data.toList = y.text.data.toList)
theorem eqI_iff (x y : It) : eqI x y = true ↔ x = y := by
  obtain ⟨f, s, k, v, t⟩ := x
  obtain ⟨f', s', k', v', t'⟩ := y
  simp only [eqI, Bool.and_eq_true, decide_eq_true_eq, It.mk.injEq, Array.toList_inj, and_assoc]
  constructor
  · rintro ⟨h1, h2, h3, h4, h5⟩; exact ⟨h1, h2, h3, h4, ByteArray.ext h5⟩
  · rintro ⟨h1, h2, h3, h4, h5⟩; exact ⟨h1, h2, h3, h4, congrArg ByteArray.data h5⟩
theorem litI_inj {x y : It} (hx : x.past.length = 16) (hy : y.past.length = 16) : litI x = litI y ↔ x = y := by
  obtain ⟨f, s, k, v, t⟩ := x
  obtain ⟨f', s', k', v', t'⟩ := y
  simp only at hx hy
  constructor
  · intro h
    simp only [litI, litB, List.cons.injEq, Lit.int.injEq, true_and] at h
    obtain ⟨h1, h2, h3, h4⟩ := h
    obtain ⟨h5, h6⟩ := List.append_inj h4 (by simp [hx, hy])
    have h5' : v = v' := by
      have h' := congrArg (List.map fun (l : Lit) => match l with | .int _ x => x | _ => 0) h5
      simpa [Function.comp_def] using h'
    have h6' : t = t' := by
      simp only [List.cons.injEq, Lit.string.injEq, and_true] at h6
      exact ByteArray.ext (Array.toList_inj.1 h6)
    rw [h1, h2, h3, h5', h6']
  · rintro h; rw [h]
theorem lits_body (M : Nat) (k : Int) (v : List Int) (t : ByteArray) (hk : WI .i64 k) (hv : okV v) (ht : t.size ≤ maxLen) : Try.prog.keyLits (M + 3) 41 (bodC k v t).toList = some (litB k v t) := by
  obtain ⟨a0, a1, a2, a3, a4, a5, a6, a7, a8, a9, a10, a11, a12, a13, a14, a15, rfl⟩ := list16 v hv.1
  have e1 := (lits_int Try.underlying3 (M + 1) _ _).2 ⟨k, rfl, hk, rfl⟩
  have e2 := lits_arr Try.underlying24 Try.underlying22 cellsV cellsU M _ hv.1 (okV_wf hv)
  have e3 := (lits_str Try.underlying9 (M + 1) _ _).2 ⟨t, rfl, ht, rfl⟩
  unfold Program.keyLits
  simp only [Try.underlying41]
  simp only [nums, List.map_cons, List.map_nil] at e2
  simp [bodC, nums, cellsBod, cellsI, cellsV, cellsS, e1, e2, e3, litB]
theorem cellsIt : Try.prog.cellsOf 43 = 20 := by kernel_rfl
theorem keyIt : Try.prog.keyTypeAt 9 43 = true := by kernel_rfl
theorem lits_it (M : Nat) (x : It) (hx : okI x) (hs : okK x) : Try.prog.keyLits (M + 4) 43 (itC x).toList = some (litI x) := by
  obtain ⟨f, s, k, v, t⟩ := x
  have e4 := lits_body M k v t hs.2 hx.1 hx.2.2
  have hv := hx.1.1
  have hf := wi_u8 hx.2.1.1 hx.2.1.2
  have hq := hs.1
  clear hx hs
  obtain ⟨a0, a1, a2, a3, a4, a5, a6, a7, a8, a9, a10, a11, a12, a13, a14, a15, rfl⟩ := list16 v hv
  have e1 := (lits_int Try.underlying5 (M + 2) _ _).2 ⟨f, rfl, hf, rfl⟩
  have e2 := (lits_int Try.underlying3 (M + 2) _ _).2 ⟨s, rfl, hq, rfl⟩
  unfold Program.keyLits
  simp only [Try.underlying43]
  simp only [bodC, nums, List.map_cons, List.map_nil, List.cons_append, List.nil_append] at e4
  simp [itC, nums, cellsIt, cellsI, cellsB, cellsBod, e1, e2, e4, litI]
theorem eqIt (x y : It) (hx : okI x) (hy : okI y) (kx : okK x) (ky : okK y) (w : World) : (Op.equalIn 10000 43 (.agg (itC x)) (.agg (itC y))).run Try.prog w = .ok (eqI x y) w := by
  have hf : ∀ z : It, z.past.length = 16 → (Value.agg (itC z)).formed Try.prog 43 = true := fun z hz => by simp [Value.formed, Try.underlying43, cellsIt, itC_size z hz]
  obtain ⟨r, hr, hiff⟩ := run_equalIn_deep (10000 - 9) 9 43 keyIt w 4 4 (.agg (itC x)) (.agg (itC y)) (litI x) (litI y) (hf x hx.1.1) (hf y hy.1.1)
    (by simpa [Value.cells] using lits_it 0 x hx kx) (by simpa [Value.cells] using lits_it 0 y hy ky)
  rw [show (10000 : Nat) = 10000 - 9 + 9 from rfl, hr]
  congr 1
  rw [Bool.eq_iff_iff, hiff, eqI_iff, litI_inj hx.1.1 hy.1.1]
theorem lits_bodyR (M : Nat) (k : Int) (v : List Int) (t : ByteArray) (hk : WI .i64 k) (hv : okV v) (ht : t.size ≤ maxLen) : Try.prog.keyLits (M + 3) 29 (bodC k v t).toList = some (litB k v t) := by
  obtain ⟨a0, a1, a2, a3, a4, a5, a6, a7, a8, a9, a10, a11, a12, a13, a14, a15, rfl⟩ := list16 v hv.1
  have e1 := (lits_int Try.underlying3 (M + 1) _ _).2 ⟨k, rfl, hk, rfl⟩
  have e2 := lits_arr Try.underlying24 Try.underlying22 cellsV cellsU M _ hv.1 (okV_wf hv)
  have e3 := (lits_str Try.underlying9 (M + 1) _ _).2 ⟨t, rfl, ht, rfl⟩
  unfold Program.keyLits
  simp only [Try.underlying29]
  simp only [nums, List.map_cons, List.map_nil] at e2
  simp [bodC, nums, cellsBodR, cellsI, cellsV, cellsS, e1, e2, e3, litB]
theorem cellsItR : Try.prog.cellsOf 31 = 20 := by kernel_rfl
theorem keyItR : Try.prog.keyTypeAt 9 31 = true := by kernel_rfl
theorem lits_itR (M : Nat) (x : It) (hx : okI x) (hs : okK x) : Try.prog.keyLits (M + 4) 31 (itC x).toList = some (litI x) := by
  obtain ⟨f, s, k, v, t⟩ := x
  have e4 := lits_bodyR M k v t hs.2 hx.1 hx.2.2
  have hv := hx.1.1
  have hf := wi_u8 hx.2.1.1 hx.2.1.2
  have hq := hs.1
  clear hx hs
  obtain ⟨a0, a1, a2, a3, a4, a5, a6, a7, a8, a9, a10, a11, a12, a13, a14, a15, rfl⟩ := list16 v hv
  have e1 := (lits_int Try.underlying5 (M + 2) _ _).2 ⟨f, rfl, hf, rfl⟩
  have e2 := (lits_int Try.underlying3 (M + 2) _ _).2 ⟨s, rfl, hq, rfl⟩
  unfold Program.keyLits
  simp only [Try.underlying31]
  simp only [bodC, nums, List.map_cons, List.map_nil, List.cons_append, List.nil_append] at e4
  simp [itC, nums, cellsItR, cellsI, cellsB, cellsBodR, e1, e2, e4, litI]
theorem eqItR (x y : It) (hx : okI x) (hy : okI y) (kx : okK x) (ky : okK y) (w : World) : (Op.equalIn 10000 31 (.agg (itC x)) (.agg (itC y))).run Try.prog w = .ok (eqI x y) w := by
  have hf : ∀ z : It, z.past.length = 16 → (Value.agg (itC z)).formed Try.prog 31 = true := fun z hz => by simp [Value.formed, Try.underlying31, cellsItR, itC_size z hz]
  obtain ⟨r, hr, hiff⟩ := run_equalIn_deep (10000 - 9) 9 31 keyItR w 4 4 (.agg (itC x)) (.agg (itC y)) (litI x) (litI y) (hf x hx.1.1) (hf y hy.1.1)
    (by simpa [Value.cells] using lits_itR 0 x hx kx) (by simpa [Value.cells] using lits_itR 0 y hy ky)
  rw [show (10000 : Nat) = 10000 - 9 + 9 from rfl, hr]
  congr 1
  rw [Bool.eq_iff_iff, hiff, eqI_iff, litI_inj hx.1.1 hy.1.1]
end Go.Proofs.Ytkifekjcpnoclaa.Hld
