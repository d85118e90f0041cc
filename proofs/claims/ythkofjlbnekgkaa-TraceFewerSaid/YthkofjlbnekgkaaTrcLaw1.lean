/- The walk of TraceAgrees. -/
import Derived.Test.YthkofjlbnekgkaaTrcAlive
namespace Go.Proofs.Ythkofjlbnekgkaa.Trc
open Go Go.RowKit Go.Maps Go.Proofs.YthkofjlbnekgkaaW.PrintWords Go.Proofs.Ythkofjlbnekgkaa.PTraceAgrees Go.Proofs.Ythkofjlbnekgkaa.Mp
set_option linter.unusedVariables false
set_option linter.unusedSimpArgs false
attribute [local go_sem high] eqA50 eqA52 eqA54

theorem fewL_iff (l : List (List S52)) : fewL l = true ↔ (∀ x ∈ l, x.length ≤ 30) ∧ l.length ≤ 6 := by simp [fewL]
theorem allconv_len {l : List (List S52)} (h : ∀ x ∈ l, x.length ≤ 30) : ∀ x ∈ l.map (fun x => x.map conv), x.length ≤ 30 := by
  intro x hx
  obtain ⟨y, hy, rfl⟩ := List.mem_map.1 hx
  simpa using h y hy
theorem allconv_ok {l : List (List S52)} (h : ∀ x ∈ l, ∀ y ∈ x, okE (conv y)) : ∀ x ∈ l.map (fun x => x.map conv), ∀ y ∈ x, okE y := by
  intro x hx y hy
  obtain ⟨x', hx', rfl⟩ := List.mem_map.1 hx
  obtain ⟨y', hy', rfl⟩ := List.mem_map.1 hy
  exact h x' hx' y' hy'

set_option maxHeartbeats 4000000 in
set_option maxRecDepth 100000 in
theorem agrees_calls (A : Option Addr) (c : Nat) (l : List (List S52)) (w : World) (hr : Kd.C (Kd.slice 52 k52) w A l.length l) (hc : l.length ≤ c) (hl : l.length ≤ 9223372036854775807) (hok : ∀ x ∈ l, ∀ y ∈ x, okE (conv y)) :
    Calls Try.prog 4 #[.slice A l.length c] w (Kept (.bool true) w) := by
  have HR := Aside0.mk hr
  have HK := Aside0.mk hok
  clear hr hok
  have HB := Aside0.mk (Below.refl w.heap.size w)
  cases hf : fewL l with
  | false =>
    have HF := Aside0.mk hf
    clear hf
    go_enter Try.func4, Try.ntmps4
    go_wp2_with (first
      | (go_at_call 9; refine (alive_calls _).mono ?_; rintro e w1 ⟨rfl, hb⟩; have HBx : Aside0 (Below w.heap.size w w1) := ⟨below_back hb (by repeat (first | exact HB.out | (with_reducible refine below_alloc ?_ _) | (with_reducible refine pw_below_drewN ?_ _)))⟩; clear HB hb; have HB := HBx; clear HBx)
      | (go_at_call 21; refine (few_calls _ _ l _ (Kd.C_below HR.out HB.out) hl).mono ?_; rw [HF.out]; rintro e w2 ⟨rfl, m, rfl⟩))
    go_ret
    exact ⟨rfl, (by repeat (first | exact HB.out | (with_reducible refine below_alloc ?_ _) | (with_reducible refine pw_below_drewN ?_ _)))⟩
  | true =>
    have HF := Aside0.mk hf
    obtain ⟨h30, h6⟩ := (fewL_iff l).1 hf
    have HL := Aside0.mk h30
    have HLm : Aside0 (∀ x ∈ l, x.length < 3518437208883) := ⟨fun x hx => by have := h30 x hx; omega⟩
    obtain ⟨k, hk⟩ := (ev_agree l (by omega) HLm.out).rounds
    have HKk := Aside0.mk hk
    clear hf h30 hk
    go_enter Try.func4, Try.ntmps4
    go_wp2_with (first
      | (go_at_call 9; refine (alive_calls _).mono ?_; rintro e w1 ⟨rfl, hb⟩; have HBx : Aside0 (Below w.heap.size w w1) := ⟨below_back hb (by repeat (first | exact HB.out | (with_reducible refine below_alloc ?_ _) | (with_reducible refine pw_below_drewN ?_ _)))⟩; clear HB hb; have HB := HBx; clear HBx)
      | (go_at_call 21; refine (few_calls _ _ l _ (Kd.C_below HR.out HB.out) hl).mono ?_; rw [HF.out]; rintro e w2 ⟨rfl, m, rfl⟩)
      | (go_at_call 23; refine (all_calls _ _ l _ (Kd.C_below HR.out (by repeat (first | exact HB.out | (with_reducible refine below_alloc ?_ _) | (with_reducible refine pw_below_drewN ?_ _)))) (by omega) HLm.out).mono ?_; rintro e w3 ⟨v, rfl, ho, hb⟩; obtain ⟨A1, c1, ev, hle1, hC1⟩ := Kd.R_reads ho; have HC1 := Aside0.mk hC1; rw [List.length_map] at ev; subst ev; clear ho hC1; have HBx : Aside0 (Below w.heap.size w w3) := ⟨below_back hb (by repeat (first | exact HB.out | (with_reducible refine below_alloc ?_ _) | (with_reducible refine pw_below_drewN ?_ _)))⟩; clear HB hb; have HB := HBx; clear HBx)
      | (go_at_call 22; have hag := agree_calls A1 c1 (l.map fun x => x.map conv) _ HC1.out (by rw [List.length_map]; omega) (allconv_len HL.out) (allconv_ok HK.out); rw [List.length_map, agL_conv] at hag; refine hag.mono ?_; clear hag; rintro e w4 ⟨rfl, hb⟩; have HBx : Aside0 (Below w.heap.size w w4) := ⟨below_back hb (by repeat (first | exact HB.out | (with_reducible refine below_alloc ?_ _) | (with_reducible refine pw_below_drewN ?_ _)))⟩; clear HB hb; have HB := HBx; clear HBx)
      | (go_at_call 24; refine (chantryref22_Agree.calls k _ _ l (agrB l) _ (Kd.C_below HR.out HB.out) hc HKk.out).mono ?_; rintro e w5 ⟨rfl, hb⟩; have HBx : Aside0 (Below w.heap.size w w5) := ⟨below_back hb (by repeat (first | exact HB.out | (with_reducible refine below_alloc ?_ _) | (with_reducible refine pw_below_drewN ?_ _)))⟩; clear HB hb; have HB := HBx; clear HBx))
    go_ret
    exact ⟨by simp, HB.out⟩
end Go.Proofs.Ythkofjlbnekgkaa.Trc
