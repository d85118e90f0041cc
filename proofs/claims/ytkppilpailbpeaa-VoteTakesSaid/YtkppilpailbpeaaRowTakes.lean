/- VoteTakes: what comes of any vote in any case, and which members voted for a body, is the document's. Conditions: none. -/
import Derived.Test.YtkppilpailbpeaaVotTakes
import Derived.Test.YtkppilpailbpeaaVotOpen2
import Derived.Test.YtkppilpailbpeaaRows
import Derived.WalkKit
import Derived.ProofKit
import Derived.OpenShut
import Derived.ShutString
import Derived.ChangeOld
import Derived.Below
import Derived.SizedLaws
namespace Go.Proofs.Ytkppilpailbpeaa.RowTakes
open Go.ChangeShapes Go.WideShapes Go.ChangeAt Go.RowKit Go.Proofs.Ytkppilpailbpeaa.Vot Go.Proofs.Ytkppilpailbpeaa.Opn Go.Proofs.YtkppilpailbpeaaW.PrintWords
open Go.ChangeMaps (open_string shut_string)

theorem own : ownKnob Try.prog.godebug = none := by kernel_rfl
theorem laidOut : laidOutB Try.prog = true := by kernel_rfl
set_option maxRecDepth 100000 in
theorem contract (H : Type) (enc : TypeId × Value → H) (W : World) (base : Nat) (args : Array Value) (ds gs : List (DataW H)) (before : List MemPlace)
    (hval : ∀ (j : Nat) t v, Try.f3.params[j]? = some t → args[j]? = some v → Value.okWide Try.prog W .any base t v)
    (hW : DataW.Whole enc Try.prog Try.f3.params.toList Rows.voteTakesSpec.vars false W args.toList ds gs before) :
    Calls Try.prog 3 args W fun e W' => ∃ v, e = .returned v ∧ Rows.voteTakesSpec.post enc Try.prog Try.f3 false true false false W args v W' := by
  have hW' := hW
  obtain ⟨p, q, hA0, hV, rfl, hfz, hnd⟩ := hW
  have hA : DataW.TrodAll enc Try.prog W 0 (fun _ => true) true Try.f3.params.toList args.toList ds p := hA0
  rw [Try.params3] at hA hval
  obtain ⟨v0, vs0, d0, ds0, p0, q0, hargs, rfl, rfl, h0, r0⟩ := trodAll_cons hA
  obtain ⟨v1, vs1, d1, ds1, p1, q1, rfl, rfl, rfl, h1, r1⟩ := trodAll_cons r0
  obtain ⟨v2, vs2, d2, ds2, p2, q2, rfl, rfl, rfl, h2, r2⟩ := trodAll_cons r1
  obtain ⟨rfl, rfl, rfl⟩ := trodAll_nil r2
  obtain rfl : args = #[v0, v1, v2] := by cases args; simp_all
  obtain ⟨rfl, rfl⟩ := trodVars_none hV
  have k0 := h0
  have lt0 : ∀ x ∈ p0, x.block < W.heap.size := by obtain ⟨m, hm⟩ := k0; exact DataW.trod_lt m _ _ _ hm
  have k1 := h1
  have lt1 : ∀ x ∈ p1, x.block < W.heap.size := by obtain ⟨m, hm⟩ := k1; exact DataW.trod_lt m _ _ _ hm
  have k2 := h2
  have lt2 : ∀ x ∈ p2, x.block < W.heap.size := by obtain ⟨m, hm⟩ := k2; exact DataW.trod_lt m _ _ _ hm
  obtain ⟨cs0, rfl, hz0⟩ : ∃ cs, v0 = .agg cs ∧ cs.size = 5 := by
    have hv := (hval 0 24 v0 rfl rfl)
    unfold Value.okWide at hv
    rw [Try.underlying24] at hv
    obtain ⟨cs, h1, h2, _⟩ := hv
    exact ⟨cs, h1, h2.trans (by kernel_rfl)⟩
  obtain ⟨x0, kx0, g0⟩ : ∃ x, Kd.K kCr W x cs0.toList ∧ ((x.2.2.2.1.length ≤ maxLen ∧ ∀ b ∈ x.2.2.2.1, b.body.size ≤ maxLen ∧ b.who < 65536) ∧ (x.2.2.2.2.length ≤ maxLen ∧ ∀ b ∈ x.2.2.2.2, b.body.size ≤ maxLen ∧ b.who < 65536)) := by
    obtain ⟨m, hm⟩ := h0
    obtain ⟨x, hx, g⟩ := opensCr hm
    exact ⟨x, by simpa [Value.cells] using hx, g⟩
  obtain ⟨ec, rc, dc, E, R⟩ := x0
  obtain ⟨AE, cE, AR, cR, hcs, hlE, hCE, hlR, hCR⟩ := kCr_open kx0
  obtain rfl : cs0 = #[.bool ec, .bool rc, .bool dc, .slice AE E.length cE, .slice AR R.length cR] := by rw [← Array.toList_inj]; exact hcs
  obtain ⟨cs1, rfl, hz1⟩ : ∃ cs, v1 = .agg cs ∧ cs.size = 2 := by
    have hv := (hval 1 28 v1 rfl rfl)
    unfold Value.okWide at hv
    rw [Try.underlying28] at hv
    obtain ⟨cs, h1, h2, _⟩ := hv
    exact ⟨cs, h1, h2.trans (by kernel_rfl)⟩
  obtain ⟨x1, kx1, g1⟩ : ∃ x, Kd.K kP W x cs1.toList ∧ (WI .u16 x.1 ∧ WI .u8 x.2) := by
    obtain ⟨m, hm⟩ := h1
    obtain ⟨x, hx, g⟩ := opensP hm
    exact ⟨x, by simpa [Value.cells] using hx, g⟩
  obtain ⟨mmx1, ffx1⟩ := x1
  obtain ⟨ssx1, rfl, hltx1⟩ := nat_u16 g1.1
  obtain rfl : cs1 = #[.int .u16 (ssx1 : Int), .int .u8 ffx1] := by rw [← Array.toList_inj]; exact kP_open kx1
  obtain ⟨cs2, rfl, hz2⟩ : ∃ cs, v2 = .agg cs ∧ cs.size = 3 := by
    have hv := (hval 2 30 v2 rfl rfl)
    unfold Value.okWide at hv
    rw [Try.underlying30] at hv
    obtain ⟨cs, h1, h2, _⟩ := hv
    exact ⟨cs, h1, h2.trans (by kernel_rfl)⟩
  obtain ⟨x2, kx2, g2⟩ : ∃ x, Kd.K kV W x cs2.toList ∧ (VtOk x ∧ x.body.size ≤ 9223372036854775807) := by
    obtain ⟨m, hm⟩ := h2
    obtain ⟨x, hx, g⟩ := opensV hm
    exact ⟨x, by simpa [Value.cells] using hx, g⟩
  obtain rfl : cs2 = #[.int .i64 x2.kind, .int .u8 x2.who, .string x2.body] := by rw [← Array.toList_inj]; exact kV_open kx2
  clear hA0
  refine (takes_calls ⟨ec, rc, dc, E, R⟩ AE cE AR cR ssx1 ffx1 x2.kind x2.who x2.body W hCE hCR hltx1 (wf_u8 g1.2).1 (wf_u8 g1.2).2 g2.1.2.1 g2.1.2.2 g2.1.1.1 g2.1.1.2 g2.2 (fun x hx => (g0.1.2 x hx).2) (fun x hx => (g0.2.2 x hx).2) (by have := g0.1.1; unfold maxLen at this; omega) (by have := g0.2.1; unfold maxLen at this; omega)).mono fun e W' ⟨he, bel⟩ => ?_
  subst he
  exact ⟨_, rfl, _, _, _, [], _, [], hW', trodAll_mk1 (shut_bool Try.underlying4 _), (trodAll_cons_mk (Below.trod laidOut (by kernel_rfl) (of_decide_eq_true (by kernel_rfl)) k0 bel lt0) (trodAll_cons_mk (Below.trod laidOut (by kernel_rfl) (of_decide_eq_true (by kernel_rfl)) k1 bel lt1) (trodAll_cons_mk (Below.trod laidOut (by kernel_rfl) (of_decide_eq_true (by kernel_rfl)) k2 bel lt2) trodAll_mk0))), rfl, bel.frame _, fun h => by cases h⟩

set_option maxRecDepth 100000 in
theorem lifted (os : Os) (started : os.Started) (H : Type) (enc : TypeId × Value → H) :
    ReturnsInHanded {} Try.checked os 3 .any (Rows.voteTakesSpec.pre6 enc Try.prog Try.f3 Rows.voteTakesRow.domain false) (Rows.voteTakesSpec.post enc Try.prog Try.f3 false true false false) := by
  refine returnsInHanded_of_change_sized (C := Try.checked) own started (by kernel_rfl) Try.func3
    (ChangeSpec.witness6 (enc := enc) (C := Try.checked) false ⟨#[], #[.agg #[.bool false, .bool false, .bool false, .slice none 0 0, .slice none 0 0], .agg #[.int .u16 0, .int .u8 0], .agg #[.int .i64 0, .int .u8 0, .string ByteArray.empty]], []⟩ 8 (by kernel_rfl) (by kernel_rfl) (by kernel_rfl) (by kernel_rfl)) ?_
  intro W base args ds gs before hval hW _ _ _
  exact contract H enc W base args ds gs before hval hW

theorem said : Rows.VoteTakesSaid :=
  OpenClaim.holds_of_wide 3 Try.f3 rfl rfl rfl rfl rfl rfl rfl ⟨rfl, rfl, rfl, rfl, rfl⟩ rfl rfl rfl rfl rfl (by kernel_rfl) Try.func3 (by kernel_rfl)
    (of_decide_eq_true (by kernel_rfl)) (by unfold Func.isWrapper; first | (rw [if_pos (by decide +kernel)]; kernel_rfl) | (rw [if_neg (by decide +kernel)]; exact ⟨rfl, rfl⟩))
    (fun os started H enc _ => lifted os started H enc)
#print axioms said
end Go.Proofs.Ytkppilpailbpeaa.RowTakes
