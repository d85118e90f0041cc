/- The walk of TraceFirst. -/
import Derived.Test.YthkofjlbnekgkaaTrcLaw2
namespace Go.Proofs.Ythkofjlbnekgkaa.Trc
open Go Go.RowKit Go.Maps Go.Proofs.YthkofjlbnekgkaaW.PrintWords Go.Proofs.Ythkofjlbnekgkaa.PTraceAgrees Go.Proofs.Ythkofjlbnekgkaa.Mp
set_option linter.unusedVariables false
set_option linter.unusedSimpArgs false
attribute [local go_sem high] eqA50 eqA52 eqA54

theorem first_range {α : Type} {l o : List α} {r : Int} (h : IsFirst l o r) : -1 ≤ r ∧ r < (l.length : Int) := by
  rcases h with ⟨rfl, _⟩ | ⟨i, hi, rfl, _⟩
  · omega
  · omega
theorem first_self {α : Type} {l : List α} {r : Int} (h : IsFirst l l r) : r = -1 := h.uniq (.inl ⟨rfl, fun x hx => hx⟩)
theorem first_sing {α : Type} {x : α} {o : List α} {r : Int} (h : IsFirst [x] o r) : (x ∈ o → r = -1) ∧ (x ∉ o → r = 0) :=
  ⟨fun hx => h.uniq (.inl ⟨rfl, by simpa using hx⟩), fun hx => h.uniq (.inr ⟨0, by simp, rfl, by simpa using hx, fun j hj => by omega⟩)⟩
theorem first_facts {α : Type} {l o : List α} {r : Int} (h : IsFirst l o r) (i : Nat) (hi : i < l.length) : (r < 0 → l[i] ∈ o) ∧ ((i : Int) < r → l[i] ∈ o) ∧ ((i : Int) = r → l[i] ∉ o) := by
  rcases h with ⟨rfl, h⟩ | ⟨m, hm, rfl, hn, hb⟩
  · exact ⟨fun _ => h _ (List.getElem_mem _), fun h => by omega, fun h => by omega⟩
  · refine ⟨fun h => by omega, fun h => hb i (by omega), fun h => ?_⟩
    obtain rfl : i = m := by omega
    exact hn

set_option maxHeartbeats 4000000 in
set_option maxRecDepth 100000 in
theorem tfirst_calls (A B : Option Addr) (ca cb : Nat) (a b : List S52) (w : World) (hr : Kd.C k52 w A a.length a) (hr' : Kd.C k52 w B b.length b) (hca : a.length ≤ ca) (hcb : b.length ≤ cb) (hla : a.length ≤ 9223372036854775807) (hlb : b.length ≤ 9223372036854775807)
    (hok : ∀ x ∈ a, okE (conv x)) (hok' : ∀ x ∈ b, okE (conv x)) :
    Calls Try.prog 7 #[.slice A a.length ca, .slice B b.length cb] w (Kept (.bool true) w) := by
  have HR := Aside0.mk hr
  have HR' := Aside0.mk hr'
  have HK := Aside0.mk hok
  have HK' := Aside0.mk hok'
  clear hr hr' hok hok'
  have HB := Aside0.mk (Below.refl w.heap.size w)
  by_cases h30 : 30 < a.length
  · go_enter Try.func7, Try.ntmps7
    go_wp2_with (go_at_call 9; refine (alive_calls _).mono ?_; rintro e w1 ⟨rfl, hb⟩; have HBx : Aside0 (Below w.heap.size w w1) := ⟨below_back hb (by repeat (first | (with_reducible exact HB.out) | (with_reducible refine below_alloc ?_ _) | (with_reducible refine pw_below_drewN ?_ _) | (with_reducible refine below_drew ?_)))⟩; clear HB hb; have HB := HBx; clear HBx)
    all_goals go_ret
    all_goals exact ⟨rfl, (by repeat (first | (with_reducible exact HB.out) | (with_reducible refine below_alloc ?_ _) | (with_reducible refine pw_below_drewN ?_ _) | (with_reducible refine below_drew ?_)))⟩
  by_cases h31 : 30 < b.length
  · go_enter Try.func7, Try.ntmps7
    go_wp2_with (go_at_call 9; refine (alive_calls _).mono ?_; rintro e w1 ⟨rfl, hb⟩; have HBx : Aside0 (Below w.heap.size w w1) := ⟨below_back hb (by repeat (first | (with_reducible exact HB.out) | (with_reducible refine below_alloc ?_ _) | (with_reducible refine pw_below_drewN ?_ _) | (with_reducible refine below_drew ?_)))⟩; clear HB hb; have HB := HBx; clear HBx)
    all_goals go_ret
    all_goals exact ⟨rfl, (by repeat (first | (with_reducible exact HB.out) | (with_reducible refine below_alloc ?_ _) | (with_reducible refine pw_below_drewN ?_ _) | (with_reducible refine below_drew ?_)))⟩
  obtain ⟨X, hX⟩ : ∃ X, a.map conv = X := ⟨_, rfl⟩
  obtain ⟨Y, hY⟩ : ∃ Y, b.map conv = Y := ⟨_, rfl⟩
  have HlX : Aside0 (X.length = a.length) := ⟨by rw [← hX]; simp⟩
  have HlY : Aside0 (Y.length = b.length) := ⟨by rw [← hY]; simp⟩
  have HOX : Aside0 (∀ x ∈ X, okE x) := ⟨by rw [← hX]; exact conv_oks HK.out⟩
  have HOY : Aside0 (∀ x ∈ Y, okE x) := ⟨by rw [← hY]; exact conv_oks HK'.out⟩
  have hX30 : X.length ≤ 30 := by have := HlX.out; omega
  have HhX := Aside0.mk hX
  have HhY := Aside0.mk hY
  clear hX hY
  obtain ⟨i0, hi0, hz0, hz1, hz2⟩ := info_parts info50
  have tokA : True := trivial
  have tokF : True := trivial
  go_enter Try.func7, Try.ntmps7
  go_wp2_with (first
    | (go_at_call 9; refine (alive_calls _).mono ?_; rintro e w1 ⟨rfl, hb⟩; have HBx : Aside0 (Below w.heap.size w w1) := ⟨below_back hb (by repeat (first | (with_reducible exact HB.out) | (with_reducible refine below_alloc ?_ _) | (with_reducible refine pw_below_drewN ?_ _) | (with_reducible refine below_drew ?_)))⟩; clear HB hb; have HB := HBx; clear HBx)
    | (go_at_call 10; have _t := tokA; clear _t tokA; have ht := theirs_calls A ca a _ (Kd.C_below HR.out (by repeat (first | (with_reducible exact HB.out) | (with_reducible refine below_alloc ?_ _) | (with_reducible refine pw_below_drewN ?_ _) | (with_reducible refine below_drew ?_)))) (by omega); rw [HhX.out] at ht; refine ht.mono ?_; clear ht; rintro e w2 ⟨v, rfl, ho, hb⟩; obtain ⟨A1, c1, ev, hle1, hC1⟩ := Kd.R_reads ho; have HX := Aside0.mk hC1; subst ev; clear ho hC1; have HBx : Aside0 (Below w.heap.size w w2) := ⟨below_back hb (by repeat (first | (with_reducible exact HB.out) | (with_reducible refine below_alloc ?_ _) | (with_reducible refine pw_below_drewN ?_ _) | (with_reducible refine below_drew ?_)))⟩; clear HB hb; have HB := HBx; clear HBx)
    | (go_at_call 10; have ht := theirs_calls B cb b _ (Kd.C_below HR'.out (by repeat (first | (with_reducible exact HB.out) | (with_reducible refine below_alloc ?_ _) | (with_reducible refine pw_below_drewN ?_ _) | (with_reducible refine below_drew ?_)))) (by omega); rw [HhY.out] at ht; refine ht.mono ?_; clear ht; rintro e w3 ⟨v, rfl, ho, hb⟩; obtain ⟨A2, c2, ev, hle2, hC2⟩ := Kd.R_reads ho; have HY := Aside0.mk hC2; subst ev; clear ho hC2; have HBx : Aside0 (Below w.heap.size w w3) := ⟨below_back hb (by repeat (first | (with_reducible exact HB.out) | (with_reducible refine below_alloc ?_ _) | (with_reducible refine pw_below_drewN ?_ _) | (with_reducible refine below_drew ?_)))⟩; have HXx : Aside0 (Kd.C k50 w3 A1 X.length X) := ⟨Kd.C_below (by repeat (first | (with_reducible exact HX.out) | (with_reducible refine Kd.C_alloc ?_ _) | (with_reducible refine Kd.C_drewN ?_ _) | (with_reducible refine Kd.C_drew ?_))) hb⟩; clear HB hb HX; have HB := HBx; clear HBx; have HX := HXx; clear HXx)
    | (go_at_call 19; have _t := tokF; clear _t tokF; refine (first_calls A1 A2 c1 c2 X Y _ (by repeat (first | (with_reducible exact HX.out) | (with_reducible refine Kd.C_alloc ?_ _) | (with_reducible refine Kd.C_drewN ?_ _) | (with_reducible refine Kd.C_drew ?_))) (by repeat (first | (with_reducible exact HY.out) | (with_reducible refine Kd.C_alloc ?_ _) | (with_reducible refine Kd.C_drewN ?_ _) | (with_reducible refine Kd.C_drew ?_))) (by omega) (by have := HlY.out; omega) HOX.out HOY.out).mono ?_; rintro e w4 ⟨r, rfl, hF, hb⟩; obtain ⟨hr1, hr2⟩ := first_range hF; have HF := Aside0.mk hF; clear hF; have HBx : Aside0 (Below w.heap.size w w4) := ⟨below_back hb (by repeat (first | (with_reducible exact HB.out) | (with_reducible refine below_alloc ?_ _) | (with_reducible refine pw_below_drewN ?_ _) | (with_reducible refine below_drew ?_)))⟩; have HXx : Aside0 (Kd.C k50 w4 A1 X.length X) := ⟨Kd.C_below (by repeat (first | (with_reducible exact HX.out) | (with_reducible refine Kd.C_alloc ?_ _) | (with_reducible refine Kd.C_drewN ?_ _) | (with_reducible refine Kd.C_drew ?_))) hb⟩; have HYx : Aside0 (Kd.C k50 w4 A2 Y.length Y) := ⟨Kd.C_below (by repeat (first | (with_reducible exact HY.out) | (with_reducible refine Kd.C_alloc ?_ _) | (with_reducible refine Kd.C_drewN ?_ _) | (with_reducible refine Kd.C_drew ?_))) hb⟩; clear HB hb HX HY; have HB := HBx; clear HBx; have HX := HXx; clear HXx; have HY := HYx; clear HYx)
    | (go_at_call 19; refine (first_calls A1 A1 c1 c1 X X _ (by repeat (first | (with_reducible exact HX.out) | (with_reducible refine Kd.C_alloc ?_ _) | (with_reducible refine Kd.C_drewN ?_ _) | (with_reducible refine Kd.C_drew ?_))) (by repeat (first | (with_reducible exact HX.out) | (with_reducible refine Kd.C_alloc ?_ _) | (with_reducible refine Kd.C_drewN ?_ _) | (with_reducible refine Kd.C_drew ?_))) (by omega) (by omega) HOX.out HOX.out).mono ?_; rintro e w5 ⟨r2, rfl, hF, hb⟩; obtain rfl := first_self hF; clear hF; have HBx : Aside0 (Below w.heap.size w w5) := ⟨below_back hb (by repeat (first | (with_reducible exact HB.out) | (with_reducible refine below_alloc ?_ _) | (with_reducible refine pw_below_drewN ?_ _) | (with_reducible refine below_drew ?_)))⟩; have HXx : Aside0 (Kd.C k50 w5 A1 X.length X) := ⟨Kd.C_below (by repeat (first | (with_reducible exact HX.out) | (with_reducible refine Kd.C_alloc ?_ _) | (with_reducible refine Kd.C_drewN ?_ _) | (with_reducible refine Kd.C_drew ?_))) hb⟩; have HYx : Aside0 (Kd.C k50 w5 A2 Y.length Y) := ⟨Kd.C_below (by repeat (first | (with_reducible exact HY.out) | (with_reducible refine Kd.C_alloc ?_ _) | (with_reducible refine Kd.C_drewN ?_ _) | (with_reducible refine Kd.C_drew ?_))) hb⟩; clear HB hb HX HY; have HB := HBx; clear HBx; have HX := HXx; clear HXx; have HY := HYx; clear HYx)
    | fail)
  go_loopw [43] (fun v43 w' => ∃ (i : Nat), v43 = .int .i64 (i : Int) ∧ i ≤ X.length ∧ Aside0 (Kd.C k50 w' A1 X.length X) ∧ Aside0 (Kd.C k50 w' A2 Y.length Y) ∧ Aside0 (Below w.heap.size w w')) (fun v43 _ => X.length - (intOf v43).toNat)
  case atStart => exact ⟨0, rfl, by omega, HX, HY, HB⟩
  case round =>
    clear HX HY HB
    obtain ⟨i, rfl, hi, HX, HY, HB⟩ := hrel
    by_cases hlt : i < X.length
    · obtain ⟨f1, f2, f3⟩ := first_facts HF.out i hlt
      have hcut0 := cut_mid (P := Try.prog) 26 50 .i64 .i64 Try.underlying26 hi0 4 hz1 A1 X.length c1 (i : Int) ((i : Int) + 1) (by omega) (by omega) (by omega) hle1
      obtain ⟨AD, hAD⟩ : ∃ AD, (if c1 = i then A1 else A1.map (·.add (i * 4))) = AD := ⟨_, rfl⟩
      have hcut : ∀ W : World, (Instr.slice 26 (.slice A1 X.length c1) (some (.int .i64 (i : Int))) (some (.int .i64 ((i : Int) + 1))) none).run Try.prog W = .ok (.slice AD 1 (c1 - i)) W := by
        intro W
        have := hcut0 W
        rw [show ((i : Int) + 1).toNat - (i : Int).toNat = 1 from by omega, Int.toNat_natCast, hAD] at this
        exact this
      have hC1 : Kd.C k50 wr AD [X[i]].length [X[i]] := by
        have h1 := Kd.C_drop HX.out (m := i) (by omega) hle1
        have h2 := Kd.C_take h1 (m := 1) (by simp; omega)
        have e : (X.drop i).take 1 = [X[i]] := by rw [List.drop_eq_getElem_cons hlt, List.take_succ_cons, List.take_zero]
        rw [e] at h2
        rw [← hAD]
        exact h2
      have HC1 := Aside0.mk hC1
      have HKx : Aside0 (∀ x ∈ [X[i]], okE x) := ⟨by intro x hx; rw [List.mem_singleton.1 hx]; exact HOX.out _ (List.getElem_mem _)⟩
      have hcl : 1 ≤ c1 - i := by omega
      clear hcut0 hAD hC1
      generalize X[i] = xi at *
      have HF1 := Aside0.mk f1
      have HF2 := Aside0.mk f2
      have HF3 := Aside0.mk f3
      clear f1 f2 f3
      by_cases hm : xi ∈ Y
      · have HM := Aside0.mk hm
        have hne : ((i : Int) == r) = false := by
          simp only [beq_eq_false_iff_ne]
          exact fun e => HF3.out e hm
        clear hm
        by_cases hr0 : r < 0
        · go_wp2_with (go_at_call 19; refine (first_calls AD A2 (c1 - i) c2 [xi] Y _ (by repeat (first | (with_reducible exact HC1.out) | (with_reducible refine Kd.C_alloc ?_ _) | (with_reducible refine Kd.C_drewN ?_ _) | (with_reducible refine Kd.C_drew ?_))) (by repeat (first | (with_reducible exact HY.out) | (with_reducible refine Kd.C_alloc ?_ _) | (with_reducible refine Kd.C_drewN ?_ _) | (with_reducible refine Kd.C_drew ?_))) (by simp) (by have := HlY.out; omega) HKx.out HOY.out).mono ?_; rintro e w6 ⟨r3, rfl, hF3, hb⟩; obtain rfl := (first_sing hF3).1 HM.out; clear hF3; have HBx : Aside0 (Below w.heap.size w w6) := ⟨below_back hb (by repeat (first | (with_reducible exact HB.out) | (with_reducible refine below_alloc ?_ _) | (with_reducible refine pw_below_drewN ?_ _) | (with_reducible refine below_drew ?_)))⟩; have HXx : Aside0 (Kd.C k50 w6 A1 X.length X) := ⟨Kd.C_below (by repeat (first | (with_reducible exact HX.out) | (with_reducible refine Kd.C_alloc ?_ _) | (with_reducible refine Kd.C_drewN ?_ _) | (with_reducible refine Kd.C_drew ?_))) hb⟩; have HYx : Aside0 (Kd.C k50 w6 A2 Y.length Y) := ⟨Kd.C_below (by repeat (first | (with_reducible exact HY.out) | (with_reducible refine Kd.C_alloc ?_ _) | (with_reducible refine Kd.C_drewN ?_ _) | (with_reducible refine Kd.C_drew ?_))) hb⟩; clear HB hb HX HY; have HB := HBx; clear HBx; have HX := HXx; clear HXx; have HY := HYx; clear HYx)
          go_roundw
          case rel => exact ⟨i + 1, by go_num, by omega, HX, HY, HB⟩
          case measure => simp [intOf]; omega
        · by_cases hir : (i : Int) < r
          · go_wp2_with (go_at_call 19; refine (first_calls AD A2 (c1 - i) c2 [xi] Y _ (by repeat (first | (with_reducible exact HC1.out) | (with_reducible refine Kd.C_alloc ?_ _) | (with_reducible refine Kd.C_drewN ?_ _) | (with_reducible refine Kd.C_drew ?_))) (by repeat (first | (with_reducible exact HY.out) | (with_reducible refine Kd.C_alloc ?_ _) | (with_reducible refine Kd.C_drewN ?_ _) | (with_reducible refine Kd.C_drew ?_))) (by simp) (by have := HlY.out; omega) HKx.out HOY.out).mono ?_; rintro e w6 ⟨r3, rfl, hF3, hb⟩; obtain rfl := (first_sing hF3).1 HM.out; clear hF3; have HBx : Aside0 (Below w.heap.size w w6) := ⟨below_back hb (by repeat (first | (with_reducible exact HB.out) | (with_reducible refine below_alloc ?_ _) | (with_reducible refine pw_below_drewN ?_ _) | (with_reducible refine below_drew ?_)))⟩; have HXx : Aside0 (Kd.C k50 w6 A1 X.length X) := ⟨Kd.C_below (by repeat (first | (with_reducible exact HX.out) | (with_reducible refine Kd.C_alloc ?_ _) | (with_reducible refine Kd.C_drewN ?_ _) | (with_reducible refine Kd.C_drew ?_))) hb⟩; have HYx : Aside0 (Kd.C k50 w6 A2 Y.length Y) := ⟨Kd.C_below (by repeat (first | (with_reducible exact HY.out) | (with_reducible refine Kd.C_alloc ?_ _) | (with_reducible refine Kd.C_drewN ?_ _) | (with_reducible refine Kd.C_drew ?_))) hb⟩; clear HB hb HX HY; have HB := HBx; clear HBx; have HX := HXx; clear HXx; have HY := HYx; clear HYx)
            go_roundw
            case rel => exact ⟨i + 1, by go_num, by omega, HX, HY, HB⟩
            case measure => simp [intOf]; omega
          · go_wp2_with (go_at_call 19; refine (first_calls AD A2 (c1 - i) c2 [xi] Y _ (by repeat (first | (with_reducible exact HC1.out) | (with_reducible refine Kd.C_alloc ?_ _) | (with_reducible refine Kd.C_drewN ?_ _) | (with_reducible refine Kd.C_drew ?_))) (by repeat (first | (with_reducible exact HY.out) | (with_reducible refine Kd.C_alloc ?_ _) | (with_reducible refine Kd.C_drewN ?_ _) | (with_reducible refine Kd.C_drew ?_))) (by simp) (by have := HlY.out; omega) HKx.out HOY.out).mono ?_; rintro e w6 ⟨r3, rfl, hF3, hb⟩; obtain rfl := (first_sing hF3).1 HM.out; clear hF3; have HBx : Aside0 (Below w.heap.size w w6) := ⟨below_back hb (by repeat (first | (with_reducible exact HB.out) | (with_reducible refine below_alloc ?_ _) | (with_reducible refine pw_below_drewN ?_ _) | (with_reducible refine below_drew ?_)))⟩; have HXx : Aside0 (Kd.C k50 w6 A1 X.length X) := ⟨Kd.C_below (by repeat (first | (with_reducible exact HX.out) | (with_reducible refine Kd.C_alloc ?_ _) | (with_reducible refine Kd.C_drewN ?_ _) | (with_reducible refine Kd.C_drew ?_))) hb⟩; have HYx : Aside0 (Kd.C k50 w6 A2 Y.length Y) := ⟨Kd.C_below (by repeat (first | (with_reducible exact HY.out) | (with_reducible refine Kd.C_alloc ?_ _) | (with_reducible refine Kd.C_drewN ?_ _) | (with_reducible refine Kd.C_drew ?_))) hb⟩; clear HB hb HX HY; have HB := HBx; clear HBx; have HX := HXx; clear HXx; have HY := HYx; clear HYx)
            go_roundw
            case rel => exact ⟨i + 1, by go_num, by omega, HX, HY, HB⟩
            case measure => simp [intOf]; omega
      · have HM := Aside0.mk hm
        have hr0 : ¬ r < 0 := fun h => hm (HF1.out h)
        have hir : ¬ (i : Int) < r := fun h => hm (HF2.out h)
        clear hm
        go_wp2_with (go_at_call 19; refine (first_calls AD A2 (c1 - i) c2 [xi] Y _ (by repeat (first | (with_reducible exact HC1.out) | (with_reducible refine Kd.C_alloc ?_ _) | (with_reducible refine Kd.C_drewN ?_ _) | (with_reducible refine Kd.C_drew ?_))) (by repeat (first | (with_reducible exact HY.out) | (with_reducible refine Kd.C_alloc ?_ _) | (with_reducible refine Kd.C_drewN ?_ _) | (with_reducible refine Kd.C_drew ?_))) (by simp) (by have := HlY.out; omega) HKx.out HOY.out).mono ?_; rintro e w6 ⟨r3, rfl, hF3, hb⟩; obtain rfl := (first_sing hF3).2 HM.out; clear hF3; have HBx : Aside0 (Below w.heap.size w w6) := ⟨below_back hb (by repeat (first | (with_reducible exact HB.out) | (with_reducible refine below_alloc ?_ _) | (with_reducible refine pw_below_drewN ?_ _) | (with_reducible refine below_drew ?_)))⟩; have HXx : Aside0 (Kd.C k50 w6 A1 X.length X) := ⟨Kd.C_below (by repeat (first | (with_reducible exact HX.out) | (with_reducible refine Kd.C_alloc ?_ _) | (with_reducible refine Kd.C_drewN ?_ _) | (with_reducible refine Kd.C_drew ?_))) hb⟩; have HYx : Aside0 (Kd.C k50 w6 A2 Y.length Y) := ⟨Kd.C_below (by repeat (first | (with_reducible exact HY.out) | (with_reducible refine Kd.C_alloc ?_ _) | (with_reducible refine Kd.C_drewN ?_ _) | (with_reducible refine Kd.C_drew ?_))) hb⟩; clear HB hb HX HY; have HB := HBx; clear HBx; have HX := HXx; clear HXx; have HY := HYx; clear HYx)
        all_goals go_roundw
        case rel | rel => exact ⟨i + 1, by go_num, by omega, HX, HY, HB⟩
        all_goals (simp [intOf]; omega)
    · go_wp2_with fail
      go_ret
      exact ⟨rfl, HB.out⟩
end Go.Proofs.Ythkofjlbnekgkaa.Trc
