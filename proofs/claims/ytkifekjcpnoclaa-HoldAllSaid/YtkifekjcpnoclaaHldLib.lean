/- slices.Clone, Max and Delete, of items. -/
import Derived.Test.YtkifekjcpnoclaaHldRow
namespace Go.Proofs.Ytkifekjcpnoclaa.Hld
open Go Go.RowKit Go.Proofs.YtkifekjcpnoclaaW.PrintWords Go.Proofs.Ytkifekjcpnoclaa.Sep Go.Proofs.Ytkifekjcpnoclaa.Obj
set_option linter.unusedVariables false
set_option linter.unusedSimpArgs false

theorem infoI : (Try.prog.info? 43).map (fun i => (i.zero, i.size, i.bytes)) = some (some (.agg (itC zI)), 20, 72) := by kernel_rfl
theorem infoR : (Try.prog.info? 31).map (fun i => (i.zero, i.size, i.bytes)) = some (some (.agg (itC zI)), 20, 72) := by kernel_rfl
theorem R_empty {α : Type} (d : Kd α) (e : TypeId) (W : World) (base : Nat) (hb : base ≤ W.heap.size) : d.R e (W.alloc (.cells #[] e)) base (fun _ => True) (.slice (some ⟨W.heap.size, 0, none⟩) 0 0) [] :=
  ⟨fun _ _ => trivial, [], by simpa using World.ownsRow_lit (base := base) (e := e) (size := d.sz) W #[] 0 hb (by simp [maxLen]) (by simp), Reps.none _ _⟩
theorem row_made {α : Type} {d : Kd α} {e : Nat} {v : Value} {xs : List α} {w w' : World} (hb : Below w.heap.size w w') (h : d.R e w' w.heap.size (fun _ => True) v xs) : Own [Sep.row d e v xs] w w' :=
  (Own.start w).add hb (Kd.R_mono (Kd.R_bound (Kd.R_lower (Kd.R_bound h) (Nat.zero_le _))) (fun k hk => ⟨hk.1.2.1, hk.1.2.2.1⟩))
set_option maxHeartbeats 1000000 in
set_option maxRecDepth 100000 in
theorem clone_calls (A : Option Addr) (c : Nat) (l : List It) (w : World) (hr : kIt.C w A l.length l) (hl : l.length ≤ 1000000) :
    Calls Try.prog 26 #[.slice A l.length c] w (fun e w' => ∃ A' c', e = .returned (.slice A' l.length c') ∧ Own [Sep.row kIt 43 (.slice A' l.length c') l] w w') := by
  have HR := Aside0.mk hr
  clear hr
  have HB := Aside0.mk (Below.refl w.heap.size w)
  cases A with
  | none =>
    have h0 : l = [] := by
      have := HR.out
      cases l with
      | nil => rfl
      | cons x r =>
        obtain ⟨ad, h, _⟩ := this.2.2 (by simp)
        cases h
    subst h0
    have hq : ∀ W, (binOp .eql 34 (.slice none 0 c) (.slice none 0 0)).run Try.prog W = .ok (.bool true) W := fun (W : World) => Lib.run_eql_slice_nil (P := Try.prog) W 34 43 none 0 c 0 0 Try.underlying34
    go_enter Try.func26, Try.ntmps26
    go_wp2_with fail
    go_ret
    exact ⟨_, _, rfl, Own.nil (Own.start w)⟩
  | some ad =>
    have hq : ∀ W, (binOp .eql 34 (.slice (some ad) l.length c) (.slice none 0 0)).run Try.prog W = .ok (.bool false) W := fun (W : World) => Lib.run_eql_slice_nil (P := Try.prog) W 34 43 (some ad) l.length c 0 0 Try.underlying34
    go_enter Try.func26, Try.ntmps26
    go_wp2_with (first
      | (at_builtin; refine Kd.R_append_rows kIt (Rr := kIt.K w) (w0 := w) w.heap.size rfl (.tmp 5) (.tmp 6) 34 43 (.agg (itC zI)) 72 rfl Try.underlying34 infoI rfl (by decide) (by omega) _ [] l (some ad) l.length c (fun _ => True) (fun _ => False) rfl rfl ?aO ?aR ?aM (fun _ hk => hk.elim) (fun _ _ => trivial) ?aB ?aS ?aL ?_; (case aO => exact R_empty kIt 43 w w.heap.size (Nat.le_refl _)); (case aR => exact (ReadsRow.imp_ (Kd.C_alloc HR.out _) (Below.refl _ _) (fun p c hp => hp))); (case aM => intro x cs hx; exact hx); (case aB => exact (by repeat (first | (with_reducible exact HB.out) | (with_reducible refine below_alloc ?_ _) | (with_reducible refine pw_below_drewN ?_ _) | (with_reducible refine below_drew ?_)))); (case aS => simp); (case aL => simp; omega); intro v1 w1 ho hb hg hat; have HO1 := Aside0.mk ho; have HB1 := Aside0.mk hb; clear ho hb hg hat)
      | fail)
    go_ret
    have h1 := row_made HB1.out (by simpa using HO1.out)
    obtain ⟨A', c', e⟩ := h1.slice 0 rfl
    subst e
    exact ⟨_, _, rfl, h1⟩

set_option maxHeartbeats 1000000 in
set_option maxRecDepth 100000 in
theorem max_calls (w : World) (g : Nat) (v : List Int) (s : Value) (T : TypeId) (hv : v.length = 16) (hg : w.heap[g]? = some (.cells (hoC v s) T (0, 0))) :
    Calls Try.prog 38 #[.slice (some ⟨g, 0, none⟩) 16 16] w (fun e w' => ∃ m, e = .returned (.int .u16 m) ∧ decide (1000 < m) = !(v.all fun n => decide (n ≤ 1000)) ∧ Below w.heap.size w w') := by
  have HG : Aside0 (∀ i, i < 16 → w.cell? ⟨g, i, none⟩ = some (.int .u16 (v.getD i 0))) := ⟨fun i hi => (blk_cell hg i).trans (hoC_at _ _ i (by omega))⟩
  have HV := Aside0.mk hv
  obtain ⟨x0, hx0⟩ : ∃ x, v.getD 0 0 = x := ⟨_, rfl⟩
  have f0 := HG.out 0 (by decide)
  rw [hx0] at f0
  have HX0 := Aside0.mk hx0
  clear hg hv hx0
  go_enter Try.func38, Try.ntmps38
  go_wp2_with fail
  go_loopw [3, 4] (fun v3 v4 W => ∃ (i : Nat) (m : Int), v3 = .int .u16 m ∧ v4 = .int .i64 (i : Int) ∧ 1 ≤ i ∧ i ≤ 16 ∧ Aside0 ((∀ j, j < i → v.getD j 0 ≤ m) ∧ ∃ j, j < i ∧ v.getD j 0 = m) ∧ W = w) (fun _ v4 _ => 16 - (intOf v4).toNat)
  case atStart => exact ⟨1, x0, rfl, rfl, by omega, by omega, ⟨fun j hj => by (have : j = 0 := (by omega)); subst this; exact Int.le_of_eq HX0.out, 0, by omega, HX0.out⟩, rfl⟩
  case round =>
    obtain ⟨i, m, rfl, rfl, h1, hi, HM, rfl⟩ := hrel
    by_cases hlt : i < 16
    · obtain ⟨x, hx⟩ : ∃ x, v.getD i 0 = x := ⟨_, rfl⟩
      have fi := HG.out i hlt
      rw [hx] at fi
      have HX := Aside0.mk hx
      clear hx
      have q0 : 0 ≤ (i : Int) := by omega
      have q1 : (i : Int) < 16 := by omega
      have HS : Aside0 ((∀ j, j < i + 1 → v.getD j 0 ≤ (if m < x then x else m)) ∧ ∃ j, j < i + 1 ∧ v.getD j 0 = (if m < x then x else m)) := ⟨by
        obtain ⟨ha, j0, hj0, he⟩ := HM.out
        refine ⟨fun j hj => ?_, ?_⟩
        · rcases Nat.lt_or_ge j i with h | h
          · have := ha j h; split <;> omega
          · have : j = i := by omega
            subst this
            rw [HX.out]; split <;> omega
        · split
          · exact ⟨i, by omega, HX.out⟩
          · exact ⟨j0, by omega, he⟩⟩
      go_wp2_with fail
      go_roundw
      case rel => exact ⟨i + 1, if m < x then x else m, rfl, by go_num, by omega, by omega, HS, by trivial⟩
      case measure => simp [intOf]; omega
    · have hi16 : i = 16 := by omega
      subst hi16
      have HE : Aside0 (decide (1000 < m) = !(v.all fun n => decide (n ≤ 1000))) := ⟨by
        obtain ⟨ha, j0, hj0, he⟩ := HM.out
        by_cases hm : 1000 < m
        · have : v.all (fun n => decide (n ≤ 1000)) = false := by
            rw [List.all_eq_false]
            have hl : j0 < v.length := by rw [HV.out]; exact hj0
            refine ⟨v[j0], List.getElem_mem _, ?_⟩
            have : v.getD j0 0 = v[j0] := by simp [List.getD_eq_getElem?_getD, hl]
            rw [this] at he
            simp; omega
          rw [this]; simp [hm]
        · have : v.all (fun n => decide (n ≤ 1000)) = true := by
            rw [List.all_eq_true]
            intro x hx
            obtain ⟨j, hj, rfl⟩ := List.getElem_of_mem hx
            have h2 := ha j (by rw [← HV.out]; exact hj)
            have : v.getD j 0 = v[j] := by simp [List.getD_eq_getElem?_getD, hj]
            rw [this] at h2
            simp; omega
          rw [this]; simp [hm]⟩
      go_wp2_with fail
      go_ret
      exact ⟨m, rfl, HE.out, Below.refl _ _⟩

theorem infoS : (Try.prog.info? 43).map (·.size) = some kIt.sz := by kernel_rfl
theorem zeroIt (w : World) : (zeroValue 43).run Try.prog w = .ok (.agg (itC zI)) w := by kernel_rfl
theorem del_at (g c i : Nat) : (if c = i + 1 then some (⟨g, 0, none⟩ : Addr) else some ⟨g, (i + 1) * 20, none⟩) = if c = i + 1 then some ⟨g, 0, none⟩ else (some (⟨g, 0, none⟩ : Addr)).map (·.add ((i + 1) * kIt.sz)) := by
  rw [Option.map_some, add_plain]; rfl
set_option maxHeartbeats 2000000 in
set_option maxRecDepth 100000 in
theorem delete_calls (S : Nat → Prop) (g n c : Nat) (xs : List It) (w : World) (hT : OwnS S [Sep.row kIt 43 (.slice (some ⟨g, 0, none⟩) n c) xs] w w) (i : Nat) (hi : i < n) (hnc : n ≤ c) (hc : c ≤ 9223372036854775807) :
    Calls Try.prog 32 #[.slice (some ⟨g, 0, none⟩) n c, .int .i64 (i : Int), .int .i64 ((i : Int) + 1)] w (fun e w' => e = .returned (.slice (some ⟨g, 0, none⟩) (n - 1) c) ∧ OwnS S [Sep.row kIt 43 (.slice (some ⟨g, 0, none⟩) (n - 1) c) (xs.eraseIdx i)] w w') := by
  have HH := Aside0.mk hT
  clear hT
  have hne : ((i : Int) == ((i + 1 : Nat) : Int)) = false := by simp; omega
  have g1 : 0 ≤ (i : Int) := by omega
  have g2 : (i : Int) ≤ ((i + 1 : Nat) : Int) := by omega
  have g3 : ((i + 1 : Nat) : Int) ≤ (n : Int) := by omega
  have g4 : (i : Int) ≤ (c : Int) := by omega
  have g5 : ((i + 1 : Nat) : Int) ≤ (c : Int) := by omega
  have g8 : 0 ≤ (i : Int) + 1 := by omega
  have g9 : (i : Int) + 1 ≤ (n : Int) := by omega
  have g10 : (i : Int) + 1 ≤ (c : Int) := by omega
  have g6 : i ≤ c := by omega
  have g7 : i + 1 ≤ c := by omega
  show Calls Try.prog 32 #[.slice (some ⟨g, 0, none⟩) n c, .int .i64 (i : Int), .int .i64 ((i + 1 : Nat) : Int)] w _
  go_enter Try.func32, Try.ntmps32
  go_wp2_with fail
  go_region_law (refine evS_delete_step kIt (S := S) (w0 := w) (As := [Sep.row kIt 43 (.slice (some ⟨g, 0, none⟩) n c) xs]) ?_ 0 rfl (.tmp 22) (.tmp 25) 34 43 rfl Try.underlying34 infoS (n := n) (c := c) (k := i) (A := if c = i + 1 then some ⟨g, 0, none⟩ else some ⟨g, (i + 1) * 20, none⟩) (m := n - (i + 1)) (c2 := c - (i + 1)) rfl ?_ ?_ (del_at g c i) rfl hi ?_; (focus first | with_reducible exact HH.out | ((with_reducible repeat first | refine OwnS.alloc ?_ _ | refine OwnS.drewN ?_ _ | refine OwnS.drew ?_); with_reducible exact HH.out)); (focus first | rfl | (simp [Act.eval]; done) | fail); (focus first | rfl | (simp [Act.eval]; done) | fail); intro w2 hh; have HHx : Aside0 (OwnS S [Sep.row kIt 43 (.slice (some ⟨g, 0, none⟩) (n - 1) c) (xs.eraseIdx i)] w w2) := ⟨hh⟩; clear HH; have HH := HHx; clear HHx; clear hh)
  go_wp2_with (first
    | ((with_reducible refine gate_ (.call { callee := .builtin .clear, args := #[.tmp 31], argTypes := #[34] }) rfl ?_); refine evS_clear kIt (S := S) (w0 := w) (As := [Sep.row kIt 43 (.slice (some ⟨g, 0, none⟩) (n - 1) c) (xs.eraseIdx i)]) ?_ 0 rfl rfl (.tmp 31) 34 43 rfl (.agg (itC zI)) Try.underlying34 zeroIt rfl (by decide) (n := n - 1) (c := c) (q := n - (n - 1)) (c2 := c - (n - 1)) rfl ?_ ?_ ?_ ?_; (focus first | with_reducible exact HH.out | ((with_reducible repeat first | refine OwnS.alloc ?_ _ | refine OwnS.drewN ?_ _ | refine OwnS.drew ?_); with_reducible exact HH.out)); (focus first | rfl | (simp [Act.eval]; done) | fail); (focus omega); (focus omega); intro w3 hh; have HHx : Aside0 (OwnS S [Sep.row kIt 43 (.slice (some ⟨g, 0, none⟩) (n - 1) c) (xs.eraseIdx i)] w w3) := ⟨hh⟩; clear HH; have HH := HHx; clear HHx; clear hh)
    | fail)
  all_goals (go_ret; first | exact ⟨rfl, HH.out⟩ | (subst_vars; exact ⟨rfl, HH.out⟩))
end Go.Proofs.Ytkifekjcpnoclaa.Hld
