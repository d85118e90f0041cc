/- What may be; below; ready. -/
import Derived.Test.YtkifekjcpnoclaaHldFns
namespace Go.Proofs.Ytkifekjcpnoclaa.Hld
open Go Go.RowKit Go.Proofs.YtkifekjcpnoclaaW.PrintWords Go.Proofs.Ytkifekjcpnoclaa.Sep Go.Proofs.Ytkifekjcpnoclaa.Obj
set_option linter.unusedVariables false
set_option linter.unusedSimpArgs false

def mayB (k : Int) (v : List Int) (t : ByteArray) : Bool := v.all (fun n => decide (n ≤ 1000)) && decide (1 ≤ k) && decide (k ≤ 3) && decide (t.size ≤ 400)
theorem all_take {v : List Int} {i : Nat} (h : i < v.length) (ha : ∀ x ∈ v.take i, x ≤ 1000) (hi : v.getD i 0 ≤ 1000) : ∀ x ∈ v.take (i + 1), x ≤ 1000 := by
  intro x hx
  rw [← List.take_append_getElem h] at hx
  rcases List.mem_append.1 hx with hx | hx
  · exact ha x hx
  · rw [List.mem_singleton.1 hx]
    simpa [List.getD_eq_getElem?_getD, h] using hi
theorem mayB_bad {k : Int} {v : List Int} {t : ByteArray} {i : Nat} (h : i < v.length) (hi : 1000 < v.getD i 0) : mayB k v t = false := by
  have h1 : v.all (fun n => decide (n ≤ 1000)) = false := by
    rw [List.all_eq_false]
    refine ⟨v[i], List.getElem_mem _, ?_⟩
    have : v.getD i 0 = v[i] := by simp [List.getD_eq_getElem?_getD, h]
    rw [this] at hi
    simp
    omega
  simp [mayB, h1]
theorem mayB_all {k : Int} {v : List Int} {t : ByteArray} (h : ∀ x ∈ v, x ≤ 1000) : mayB k v t = (decide (1 ≤ k) && decide (k ≤ 3) && decide (t.size ≤ 400)) := by
  have h1 : v.all (fun n => decide (n ≤ 1000)) = true := by
    rw [List.all_eq_true]
    intro x hx
    simpa using h x hx
  simp [mayB, h1]

theorem vec_index (v : List Int) (i : Nat) (hv : v.length = 16) (h : i < 16) : ∀ W : World, (Instr.index 24 (.agg (vecC v)) (.int .i64 (i : Int))).run Try.prog W = .ok (.int .u16 (v.getD i 0)) W := by
  intro W
  obtain ⟨a0, a1, a2, a3, a4, a5, a6, a7, a8, a9, a10, a11, a12, a13, a14, a15, rfl⟩ := list16 v hv
  rcases lt16 h with rfl | rfl | rfl | rfl | rfl | rfl | rfl | rfl | rfl | rfl | rfl | rfl | rfl | rfl | rfl | rfl <;> kernel_rfl

set_option maxHeartbeats 2000000 in
set_option maxRecDepth 100000 in
theorem may_calls (w : World) (k : Int) (v : List Int) (t : ByteArray) (hv : v.length = 16) (htx : t.size ≤ 9223372036854775807) : Calls Try.prog 40 #[.agg (bodC k v t)] w (Kept (.bool (mayB k v t)) w) := by
  have HH : Aside0 (OwnS (fun _ => False) [] w w) := ⟨OwnS.of_own (Own.start w)⟩
  go_enter Try.func40, Try.ntmps40
  go_wp2_with (first
    | ((with_reducible refine gate_dst (N := 1) rfl ?_); refine evS_box (S := fun _ => False) (w0 := w) (As := []) ?_ rfl (cs := bodC k v t) (T := 41) ?_ ?_; (focus first | with_reducible exact HH.out | ((with_reducible repeat first | refine OwnS.alloc ?_ _ | refine OwnS.drewN ?_ _ | refine OwnS.drew ?_); with_reducible exact HH.out)); (focus first | (go_simp; done) | (go_simp; rfl)); intro g1 w1 he hh; clear he; have HHx : Aside0 (OwnS (fun _ => False) [Sep.blk g1 (bodC k v t) 41] w w1) := ⟨hh⟩; clear HH; have HH := HHx; clear HHx; clear hh)
    | ((with_reducible refine gate_ (.load 24 (.tmp 5)) rfl ?_); refine ev_loadA (OwnS.blk (S := fun _ => False) (w0 := w) (As := [Sep.blk g1 (bodC k v t) 41]) ?_ 0 rfl) 1 16 (vecC v) (bodC_vec _ _ _ hv) rfl rfl (by rfl) Try.underlying24 rfl (vecC_size _ hv) (by kernel_rfl) ?_; (focus first | with_reducible exact HH.out | ((with_reducible repeat first | refine OwnS.alloc ?_ _ | refine OwnS.drewN ?_ _ | refine OwnS.drew ?_); with_reducible exact HH.out)))
    | fail
    | fail)
  go_loopw [7] (fun vi W => ∃ (i : Nat), vi = .int .i64 (i : Int) ∧ i ≤ 16 ∧ Aside0 (∀ x ∈ v.take i, x ≤ 1000) ∧ Aside0 (OwnS (fun _ => False) [Sep.blk g1 (bodC k v t) 41] w W)) (fun vi _ => 16 - (intOf vi).toNat)
  case atStart => exact ⟨0, rfl, by omega, ⟨by simp⟩, HH⟩
  case round =>
    clear HH
    obtain ⟨i, rfl, hi, HA, HH⟩ := hrel
    by_cases hlt : i < 16
    · have HV : Aside0 (i < v.length) := ⟨by omega⟩
      obtain ⟨n, hn⟩ : ∃ n, v.getD i 0 = n := ⟨_, rfl⟩
      have hix := vec_index v i hv hlt
      rw [hn] at hix
      have HN := Aside0.mk hn
      clear hn
      have q0 : 0 ≤ (i : Int) := by omega
      have q1 : (i : Int) < 16 := by omega
      by_cases hbig : 1000 < n
      · have HBIG : Aside0 (1000 < v.getD i 0) := ⟨by rw [HN.out]; exact hbig⟩
        go_wp2_with fail
        go_ret
        exact ⟨by rw [mayB_bad HV.out HBIG.out]; rfl, below_frm (OwnS.frm HH.out)⟩
      · have HBIG : Aside0 (v.getD i 0 ≤ 1000) := ⟨by rw [HN.out]; omega⟩
        go_wp2_with fail
        go_roundw
        case rel => exact ⟨i + 1, by go_num, by omega, ⟨all_take HV.out HA.out HBIG.out⟩, HH⟩
        case measure => simp [intOf]; omega
    · have hi16 : i = 16 := by omega
      subst hi16
      have HAL : Aside0 (mayB k v t = (decide (1 ≤ k) && decide (k ≤ 3) && decide (t.size ≤ 400))) := ⟨mayB_all (by have := HA.out; rw [List.take_of_length_le (by omega)] at this; exact this)⟩
      have fc1 : wr.cell? ⟨g1, 0, none⟩ = some (.int .i64 k) := ((blk_cell (OwnS.blk (S := fun _ => False) (w0 := w) (As := [Sep.blk g1 (bodC k v t) 41]) HH.out 0 rfl) 0).trans rfl)
      have fc2 : wr.cell? ⟨g1, 17, none⟩ = some (.string t) := ((blk_cell (OwnS.blk (S := fun _ => False) (w0 := w) (As := [Sep.blk g1 (bodC k v t) 41]) HH.out 0 rfl) 17).trans (bodC_last _ _ _ hv))
      go_wp2_with (first
        | ((with_reducible refine gate_ (.load 3 (.tmp 13)) rfl ?_); refine ev_cell (v := .int .i64 k) ((blk_cell (OwnS.blk (S := fun _ => False) (w0 := w) (As := [Sep.blk g1 (bodC k v t) 41]) ?_ 0 rfl) 0).trans rfl) rfl rfl (by rfl) Try.underlying3 rfl ?_; (focus first | with_reducible exact HH.out | ((with_reducible repeat first | refine OwnS.alloc ?_ _ | refine OwnS.drewN ?_ _ | refine OwnS.drew ?_); with_reducible exact HH.out)))
        | fail
        | fail)
      all_goals go_ret
      all_goals exact ⟨by rw [HAL.out]; simp [*]; try (first | omega | exact decide_eq_decide.2 (by omega)), below_frm (OwnS.frm HH.out)⟩

set_option maxHeartbeats 2000000 in
set_option maxRecDepth 100000 in
theorem rmay_calls (w : World) (k : Int) (v : List Int) (t : ByteArray) (hv : v.length = 16) (htx : t.size ≤ 9223372036854775807) : Calls Try.prog 43 #[.agg (bodC k v t)] w (Kept (.bool (mayB k v t)) w) := by
  have HH : Aside0 (OwnS (fun _ => False) [] w w) := ⟨OwnS.of_own (Own.start w)⟩
  go_enter Try.func43, Try.ntmps43
  go_wp2_with (first
    | ((with_reducible refine gate_dst (N := 1) rfl ?_); refine evS_box (S := fun _ => False) (w0 := w) (As := []) ?_ rfl (cs := bodC k v t) (T := 29) ?_ ?_; (focus first | with_reducible exact HH.out | ((with_reducible repeat first | refine OwnS.alloc ?_ _ | refine OwnS.drewN ?_ _ | refine OwnS.drew ?_); with_reducible exact HH.out)); (focus first | (go_simp; done) | (go_simp; rfl)); intro g1 w1 he hh; clear he; have HHx : Aside0 (OwnS (fun _ => False) [Sep.blk g1 (bodC k v t) 29] w w1) := ⟨hh⟩; clear HH; have HH := HHx; clear HHx; clear hh)
    | fail
    | fail)
  go_loopw [3] (fun vi W => ∃ (i : Nat), vi = .int .i64 (i : Int) ∧ i ≤ 16 ∧ Aside0 (∀ x ∈ v.take i, x ≤ 1000) ∧ Aside0 (OwnS (fun _ => False) [Sep.blk g1 (bodC k v t) 29] w W)) (fun vi _ => 16 - (intOf vi).toNat)
  case atStart => exact ⟨0, rfl, by omega, ⟨by simp⟩, HH⟩
  case round =>
    clear HH
    obtain ⟨i, rfl, hi, HA, HH⟩ := hrel
    by_cases hlt : i < 16
    · have HV : Aside0 (i < v.length) := ⟨by omega⟩
      obtain ⟨n, hn⟩ : ∃ n, v.getD i 0 = n := ⟨_, rfl⟩
      have fi : wr.cell? ⟨g1, 1 + i, none⟩ = some (.int .u16 (v.getD i 0)) := (by rw [Nat.add_comm 1 i]; exact  (blk_cell (OwnS.blk (S := fun _ => False) (w0 := w) (As := [Sep.blk g1 (bodC k v t) 29]) HH.out 0 rfl) (i + 1)).trans (bodC_at _ _ _ i HV.out))
      rw [hn] at fi
      have HN := Aside0.mk hn
      clear hn
      have q0 : 0 ≤ (i : Int) := by omega
      have q1 : (i : Int) < 16 := by omega
      by_cases hbig : 1000 < n
      · have HBIG : Aside0 (1000 < v.getD i 0) := ⟨by rw [HN.out]; exact hbig⟩
        go_wp2_with fail
        go_ret
        exact ⟨by rw [mayB_bad HV.out HBIG.out]; rfl, below_frm (OwnS.frm HH.out)⟩
      · have HBIG : Aside0 (v.getD i 0 ≤ 1000) := ⟨by rw [HN.out]; omega⟩
        go_wp2_with fail
        go_roundw
        case rel => exact ⟨i + 1, by go_num, by omega, ⟨all_take HV.out HA.out HBIG.out⟩, HH⟩
        case measure => simp [intOf]; omega
    · have hi16 : i = 16 := by omega
      subst hi16
      have HAL : Aside0 (mayB k v t = (decide (1 ≤ k) && decide (k ≤ 3) && decide (t.size ≤ 400))) := ⟨mayB_all (by have := HA.out; rw [List.take_of_length_le (by omega)] at this; exact this)⟩
      have fc1 : wr.cell? ⟨g1, 0, none⟩ = some (.int .i64 k) := ((blk_cell (OwnS.blk (S := fun _ => False) (w0 := w) (As := [Sep.blk g1 (bodC k v t) 29]) HH.out 0 rfl) 0).trans rfl)
      have fc2 : wr.cell? ⟨g1, 17, none⟩ = some (.string t) := ((blk_cell (OwnS.blk (S := fun _ => False) (w0 := w) (As := [Sep.blk g1 (bodC k v t) 29]) HH.out 0 rfl) 17).trans (bodC_last _ _ _ hv))
      go_wp2_with (first
        | ((with_reducible refine gate_ (.load 3 (.tmp 13)) rfl ?_); refine ev_cell (v := .int .i64 k) ((blk_cell (OwnS.blk (S := fun _ => False) (w0 := w) (As := [Sep.blk g1 (bodC k v t) 29]) ?_ 0 rfl) 0).trans rfl) rfl rfl (by rfl) Try.underlying3 rfl ?_; (focus first | with_reducible exact HH.out | ((with_reducible repeat first | refine OwnS.alloc ?_ _ | refine OwnS.drewN ?_ _ | refine OwnS.drew ?_); with_reducible exact HH.out)))
        | fail
        | fail)
      all_goals go_ret
      all_goals exact ⟨by rw [HAL.out]; simp [*]; try (first | omega | exact decide_eq_decide.2 (by omega)), below_frm (OwnS.frm HH.out)⟩

def rightB (k : Int) (v : List Int) (t : ByteArray) (f q : Int) : Bool := mayB k v t && decide (f < 16) && decide (v.getD f.toNat 0 = q)
def okV (v : List Int) : Prop := v.length = 16 ∧ ∀ x ∈ v, 0 ≤ x ∧ x ≤ 65535
theorem okV_at {v : List Int} (h : okV v) (i : Nat) (hi : i < 16) : 0 ≤ v.getD i 0 ∧ v.getD i 0 ≤ 65535 := by
  have hl : i < v.length := by have := h.1; omega
  have e : v.getD i 0 = v[i] := by simp [List.getD_eq_getElem?_getD, hl]
  rw [e]
  exact h.2 _ (List.getElem_mem _)
theorem wrap_u16 {n : Int} (h0 : 0 ≤ n) (h1 : n ≤ 65535) : IntKind.i64.wrap n = n := by rw [IntKind.wrap_i64]; omega

set_option maxHeartbeats 2000000 in
set_option maxRecDepth 100000 in
theorem right_calls (w : World) (k : Int) (v : List Int) (t : ByteArray) (f q : Int) (hv : okV v) (htx : t.size ≤ 9223372036854775807) (hf0 : 0 ≤ f) : Calls Try.prog 25 #[.agg (bodC k v t), .int .u8 f, .int .i64 q] w (Kept (.bool (rightB k v t f q)) w) := by
  have HH : Aside0 (OwnS (fun _ => False) [] w w) := ⟨OwnS.of_own (Own.start w)⟩
  cases hm : mayB k v t with
  | false =>
    go_enter Try.func25, Try.ntmps25
    go_wp2_with (first
        | ((with_reducible refine gate_dst (N := 3) rfl ?_); refine evS_box (S := fun _ => False) (w0 := w) (As := []) ?_ rfl (cs := bodC k v t) (T := 41) ?_ ?_; (focus first | with_reducible exact HH.out | ((with_reducible repeat first | refine OwnS.alloc ?_ _ | refine OwnS.drewN ?_ _ | refine OwnS.drew ?_); with_reducible exact HH.out)); (focus first | (go_simp; done) | (go_simp; rfl)); intro g1 w1 he hh; clear he; have HHx : Aside0 (OwnS (fun _ => False) [Sep.blk g1 (bodC k v t) 41] w w1) := ⟨hh⟩; clear HH; have HH := HHx; clear HHx; clear hh)
        | ((with_reducible refine gate_ (.load 41 (.tmp 3)) rfl ?_); refine ev_loadA (OwnS.blk (S := fun _ => False) (w0 := w) (As := [Sep.blk g1 (bodC k v t) 41]) ?_ 0 rfl) 0 18 (bodC k v t) (all_of _ 18 (bodC_size _ _ _ hv.1)) rfl rfl (by rfl) Try.underlying41 rfl (bodC_size _ _ _ hv.1) (by kernel_rfl) ?_; (focus first | with_reducible exact HH.out | ((with_reducible repeat first | refine OwnS.alloc ?_ _ | refine OwnS.drewN ?_ _ | refine OwnS.drew ?_); with_reducible exact HH.out)))
        | (go_at_call 40; refine ownS_call (S := fun _ => False) (w0 := w) (As := [Sep.blk g1 (bodC k v t) 41]) ?_ ?_; (focus first | with_reducible exact HH.out | ((with_reducible repeat first | refine OwnS.alloc ?_ _ | refine OwnS.drewN ?_ _ | refine OwnS.drew ?_); with_reducible exact HH.out)); intro ht; refine (may_calls _ k v t hv.1 htx).mono ?_; rintro e w2 ⟨rfl, hb⟩; rw [hm]; have HHx : Aside0 (OwnS (fun _ => False) [Sep.blk g1 (bodC k v t) 41] w w2) := ⟨OwnS.step ht hb⟩; clear HH; have HH := HHx; clear HHx; clear hb; clear ht)
        | fail
        | fail)
    go_ret
    exact ⟨by simp [rightB, hm], below_frm (OwnS.frm HH.out)⟩
  | true =>
    by_cases hf : f < 16
    · obtain ⟨n, hn⟩ : ∃ n, v.getD f.toNat 0 = n := ⟨_, rfl⟩
      have HN := Aside0.mk hn
      have hr := okV_at hv f.toNat (by omega)
      rw [hn] at hr
      have hw := wrap_u16 hr.1 hr.2
      have hnn : 0 ≤ n := hr.1
      have HRB : Aside0 (rightB k v t f q = (n == q)) := ⟨by unfold rightB; rw [hm, decide_eq_true hf, HN.out]; simp [Bool.beq_eq_decide_eq]⟩
      clear hn hr
      go_enter Try.func25, Try.ntmps25
      go_wp2_with (first
        | ((with_reducible refine gate_dst (N := 3) rfl ?_); refine evS_box (S := fun _ => False) (w0 := w) (As := []) ?_ rfl (cs := bodC k v t) (T := 41) ?_ ?_; (focus first | with_reducible exact HH.out | ((with_reducible repeat first | refine OwnS.alloc ?_ _ | refine OwnS.drewN ?_ _ | refine OwnS.drew ?_); with_reducible exact HH.out)); (focus first | (go_simp; done) | (go_simp; rfl)); intro g1 w1 he hh; clear he; have HHx : Aside0 (OwnS (fun _ => False) [Sep.blk g1 (bodC k v t) 41] w w1) := ⟨hh⟩; clear HH; have HH := HHx; clear HHx; clear hh)
        | ((with_reducible refine gate_ (.load 41 (.tmp 3)) rfl ?_); refine ev_loadA (OwnS.blk (S := fun _ => False) (w0 := w) (As := [Sep.blk g1 (bodC k v t) 41]) ?_ 0 rfl) 0 18 (bodC k v t) (all_of _ 18 (bodC_size _ _ _ hv.1)) rfl rfl (by rfl) Try.underlying41 rfl (bodC_size _ _ _ hv.1) (by kernel_rfl) ?_; (focus first | with_reducible exact HH.out | ((with_reducible repeat first | refine OwnS.alloc ?_ _ | refine OwnS.drewN ?_ _ | refine OwnS.drew ?_); with_reducible exact HH.out)))
        | (go_at_call 40; refine ownS_call (S := fun _ => False) (w0 := w) (As := [Sep.blk g1 (bodC k v t) 41]) ?_ ?_; (focus first | with_reducible exact HH.out | ((with_reducible repeat first | refine OwnS.alloc ?_ _ | refine OwnS.drewN ?_ _ | refine OwnS.drew ?_); with_reducible exact HH.out)); intro ht; refine (may_calls _ k v t hv.1 htx).mono ?_; rintro e w2 ⟨rfl, hb⟩; rw [hm]; have HHx : Aside0 (OwnS (fun _ => False) [Sep.blk g1 (bodC k v t) 41] w w2) := ⟨OwnS.step ht hb⟩; clear HH; have HH := HHx; clear HHx; clear hb; clear ht; have fi : w2.cell? ⟨g1, 1 + f.toNat, none⟩ = some (.int .u16 n) := (by rw [Nat.add_comm 1 f.toNat, ← HN.out]; exact (blk_cell (OwnS.blk (S := fun _ => False) (w0 := w) (As := [Sep.blk g1 (bodC k v t) 41]) HH.out 0 rfl) (f.toNat + 1)).trans (bodC_at _ _ _ f.toNat (by rw [hv.1]; omega))))
        | fail
        | fail)
      go_ret
      exact ⟨by rw [HRB.out]; rfl, below_frm (OwnS.frm HH.out)⟩
    · have HRB : Aside0 (rightB k v t f q = false) := ⟨by unfold rightB; rw [hm, decide_eq_false hf]; rfl⟩
      go_enter Try.func25, Try.ntmps25
      go_wp2_with (first
        | ((with_reducible refine gate_dst (N := 3) rfl ?_); refine evS_box (S := fun _ => False) (w0 := w) (As := []) ?_ rfl (cs := bodC k v t) (T := 41) ?_ ?_; (focus first | with_reducible exact HH.out | ((with_reducible repeat first | refine OwnS.alloc ?_ _ | refine OwnS.drewN ?_ _ | refine OwnS.drew ?_); with_reducible exact HH.out)); (focus first | (go_simp; done) | (go_simp; rfl)); intro g1 w1 he hh; clear he; have HHx : Aside0 (OwnS (fun _ => False) [Sep.blk g1 (bodC k v t) 41] w w1) := ⟨hh⟩; clear HH; have HH := HHx; clear HHx; clear hh)
        | ((with_reducible refine gate_ (.load 41 (.tmp 3)) rfl ?_); refine ev_loadA (OwnS.blk (S := fun _ => False) (w0 := w) (As := [Sep.blk g1 (bodC k v t) 41]) ?_ 0 rfl) 0 18 (bodC k v t) (all_of _ 18 (bodC_size _ _ _ hv.1)) rfl rfl (by rfl) Try.underlying41 rfl (bodC_size _ _ _ hv.1) (by kernel_rfl) ?_; (focus first | with_reducible exact HH.out | ((with_reducible repeat first | refine OwnS.alloc ?_ _ | refine OwnS.drewN ?_ _ | refine OwnS.drew ?_); with_reducible exact HH.out)))
        | (go_at_call 40; refine ownS_call (S := fun _ => False) (w0 := w) (As := [Sep.blk g1 (bodC k v t) 41]) ?_ ?_; (focus first | with_reducible exact HH.out | ((with_reducible repeat first | refine OwnS.alloc ?_ _ | refine OwnS.drewN ?_ _ | refine OwnS.drew ?_); with_reducible exact HH.out)); intro ht; refine (may_calls _ k v t hv.1 htx).mono ?_; rintro e w2 ⟨rfl, hb⟩; rw [hm]; have HHx : Aside0 (OwnS (fun _ => False) [Sep.blk g1 (bodC k v t) 41] w w2) := ⟨OwnS.step ht hb⟩; clear HH; have HH := HHx; clear HHx; clear hb; clear ht)
        | fail
        | fail)
      go_ret
      exact ⟨by rw [HRB.out]; rfl, below_frm (OwnS.frm HH.out)⟩

set_option maxHeartbeats 2000000 in
set_option maxRecDepth 100000 in
theorem rright_calls (w : World) (k : Int) (v : List Int) (t : ByteArray) (f q : Int) (hv : okV v) (htx : t.size ≤ 9223372036854775807) (hf0 : 0 ≤ f) : Calls Try.prog 41 #[.agg (bodC k v t), .int .u8 f, .int .i64 q] w (Kept (.bool (rightB k v t f q)) w) := by
  have HH : Aside0 (OwnS (fun _ => False) [] w w) := ⟨OwnS.of_own (Own.start w)⟩
  cases hm : mayB k v t with
  | false =>
    go_enter Try.func41, Try.ntmps41
    go_wp2_with (first
        | ((with_reducible refine gate_dst (N := 3) rfl ?_); refine evS_box (S := fun _ => False) (w0 := w) (As := []) ?_ rfl (cs := bodC k v t) (T := 29) ?_ ?_; (focus first | with_reducible exact HH.out | ((with_reducible repeat first | refine OwnS.alloc ?_ _ | refine OwnS.drewN ?_ _ | refine OwnS.drew ?_); with_reducible exact HH.out)); (focus first | (go_simp; done) | (go_simp; rfl)); intro g1 w1 he hh; clear he; have HHx : Aside0 (OwnS (fun _ => False) [Sep.blk g1 (bodC k v t) 29] w w1) := ⟨hh⟩; clear HH; have HH := HHx; clear HHx; clear hh)
        | ((with_reducible refine gate_ (.load 29 (.tmp 3)) rfl ?_); refine ev_loadA (OwnS.blk (S := fun _ => False) (w0 := w) (As := [Sep.blk g1 (bodC k v t) 29]) ?_ 0 rfl) 0 18 (bodC k v t) (all_of _ 18 (bodC_size _ _ _ hv.1)) rfl rfl (by rfl) Try.underlying29 rfl (bodC_size _ _ _ hv.1) (by kernel_rfl) ?_; (focus first | with_reducible exact HH.out | ((with_reducible repeat first | refine OwnS.alloc ?_ _ | refine OwnS.drewN ?_ _ | refine OwnS.drew ?_); with_reducible exact HH.out)))
        | (go_at_call 43; refine ownS_call (S := fun _ => False) (w0 := w) (As := [Sep.blk g1 (bodC k v t) 29]) ?_ ?_; (focus first | with_reducible exact HH.out | ((with_reducible repeat first | refine OwnS.alloc ?_ _ | refine OwnS.drewN ?_ _ | refine OwnS.drew ?_); with_reducible exact HH.out)); intro ht; refine (rmay_calls _ k v t hv.1 htx).mono ?_; rintro e w2 ⟨rfl, hb⟩; rw [hm]; have HHx : Aside0 (OwnS (fun _ => False) [Sep.blk g1 (bodC k v t) 29] w w2) := ⟨OwnS.step ht hb⟩; clear HH; have HH := HHx; clear HHx; clear hb; clear ht)
        | fail
        | fail)
    go_ret
    exact ⟨by simp [rightB, hm], below_frm (OwnS.frm HH.out)⟩
  | true =>
    by_cases hf : f < 16
    · obtain ⟨n, hn⟩ : ∃ n, v.getD f.toNat 0 = n := ⟨_, rfl⟩
      have HN := Aside0.mk hn
      have hr := okV_at hv f.toNat (by omega)
      rw [hn] at hr
      have hw := wrap_u16 hr.1 hr.2
      have hnn : 0 ≤ n := hr.1
      have HRB : Aside0 (rightB k v t f q = (n == q)) := ⟨by unfold rightB; rw [hm, decide_eq_true hf, HN.out]; simp [Bool.beq_eq_decide_eq]⟩
      clear hn hr
      go_enter Try.func41, Try.ntmps41
      go_wp2_with (first
        | ((with_reducible refine gate_dst (N := 3) rfl ?_); refine evS_box (S := fun _ => False) (w0 := w) (As := []) ?_ rfl (cs := bodC k v t) (T := 29) ?_ ?_; (focus first | with_reducible exact HH.out | ((with_reducible repeat first | refine OwnS.alloc ?_ _ | refine OwnS.drewN ?_ _ | refine OwnS.drew ?_); with_reducible exact HH.out)); (focus first | (go_simp; done) | (go_simp; rfl)); intro g1 w1 he hh; clear he; have HHx : Aside0 (OwnS (fun _ => False) [Sep.blk g1 (bodC k v t) 29] w w1) := ⟨hh⟩; clear HH; have HH := HHx; clear HHx; clear hh)
        | ((with_reducible refine gate_ (.load 29 (.tmp 3)) rfl ?_); refine ev_loadA (OwnS.blk (S := fun _ => False) (w0 := w) (As := [Sep.blk g1 (bodC k v t) 29]) ?_ 0 rfl) 0 18 (bodC k v t) (all_of _ 18 (bodC_size _ _ _ hv.1)) rfl rfl (by rfl) Try.underlying29 rfl (bodC_size _ _ _ hv.1) (by kernel_rfl) ?_; (focus first | with_reducible exact HH.out | ((with_reducible repeat first | refine OwnS.alloc ?_ _ | refine OwnS.drewN ?_ _ | refine OwnS.drew ?_); with_reducible exact HH.out)))
        | (go_at_call 43; refine ownS_call (S := fun _ => False) (w0 := w) (As := [Sep.blk g1 (bodC k v t) 29]) ?_ ?_; (focus first | with_reducible exact HH.out | ((with_reducible repeat first | refine OwnS.alloc ?_ _ | refine OwnS.drewN ?_ _ | refine OwnS.drew ?_); with_reducible exact HH.out)); intro ht; refine (rmay_calls _ k v t hv.1 htx).mono ?_; rintro e w2 ⟨rfl, hb⟩; rw [hm]; have HHx : Aside0 (OwnS (fun _ => False) [Sep.blk g1 (bodC k v t) 29] w w2) := ⟨OwnS.step ht hb⟩; clear HH; have HH := HHx; clear HHx; clear hb; clear ht; have fi : w2.cell? ⟨g1, 1 + f.toNat, none⟩ = some (.int .u16 n) := (by rw [Nat.add_comm 1 f.toNat, ← HN.out]; exact (blk_cell (OwnS.blk (S := fun _ => False) (w0 := w) (As := [Sep.blk g1 (bodC k v t) 29]) HH.out 0 rfl) (f.toNat + 1)).trans (bodC_at _ _ _ f.toNat (by rw [hv.1]; omega))))
        | fail
        | fail)
      go_ret
      exact ⟨by rw [HRB.out]; rfl, below_frm (OwnS.frm HH.out)⟩
    · have HRB : Aside0 (rightB k v t f q = false) := ⟨by unfold rightB; rw [hm, decide_eq_false hf]; rfl⟩
      go_enter Try.func41, Try.ntmps41
      go_wp2_with (first
        | ((with_reducible refine gate_dst (N := 3) rfl ?_); refine evS_box (S := fun _ => False) (w0 := w) (As := []) ?_ rfl (cs := bodC k v t) (T := 29) ?_ ?_; (focus first | with_reducible exact HH.out | ((with_reducible repeat first | refine OwnS.alloc ?_ _ | refine OwnS.drewN ?_ _ | refine OwnS.drew ?_); with_reducible exact HH.out)); (focus first | (go_simp; done) | (go_simp; rfl)); intro g1 w1 he hh; clear he; have HHx : Aside0 (OwnS (fun _ => False) [Sep.blk g1 (bodC k v t) 29] w w1) := ⟨hh⟩; clear HH; have HH := HHx; clear HHx; clear hh)
        | ((with_reducible refine gate_ (.load 29 (.tmp 3)) rfl ?_); refine ev_loadA (OwnS.blk (S := fun _ => False) (w0 := w) (As := [Sep.blk g1 (bodC k v t) 29]) ?_ 0 rfl) 0 18 (bodC k v t) (all_of _ 18 (bodC_size _ _ _ hv.1)) rfl rfl (by rfl) Try.underlying29 rfl (bodC_size _ _ _ hv.1) (by kernel_rfl) ?_; (focus first | with_reducible exact HH.out | ((with_reducible repeat first | refine OwnS.alloc ?_ _ | refine OwnS.drewN ?_ _ | refine OwnS.drew ?_); with_reducible exact HH.out)))
        | (go_at_call 43; refine ownS_call (S := fun _ => False) (w0 := w) (As := [Sep.blk g1 (bodC k v t) 29]) ?_ ?_; (focus first | with_reducible exact HH.out | ((with_reducible repeat first | refine OwnS.alloc ?_ _ | refine OwnS.drewN ?_ _ | refine OwnS.drew ?_); with_reducible exact HH.out)); intro ht; refine (rmay_calls _ k v t hv.1 htx).mono ?_; rintro e w2 ⟨rfl, hb⟩; rw [hm]; have HHx : Aside0 (OwnS (fun _ => False) [Sep.blk g1 (bodC k v t) 29] w w2) := ⟨OwnS.step ht hb⟩; clear HH; have HH := HHx; clear HHx; clear hb; clear ht)
        | fail
        | fail)
      go_ret
      exact ⟨by rw [HRB.out]; rfl, below_frm (OwnS.frm HH.out)⟩

def okI (x : It) : Prop := okV x.past ∧ (0 ≤ x.frm ∧ x.frm ≤ 255) ∧ x.text.size ≤ 9223372036854775807
def rightI (x : It) : Bool := rightB x.kind x.past x.text x.frm x.seq

set_option maxRecDepth 100000 in
theorem imay_calls (w : World) (x : It) (hx : okI x) : Calls Try.prog 28 #[.agg (itC x)] w (Kept (.bool (rightI x)) w) := by
  have HH : Aside0 (OwnS (fun _ => False) [] w w) := ⟨OwnS.of_own (Own.start w)⟩
  go_enter Try.func28, Try.ntmps28
  go_wp2_with (first
    | ((with_reducible refine gate_dst (N := 1) rfl ?_); refine evS_box (S := fun _ => False) (w0 := w) (As := []) ?_ rfl (cs := itC x) (T := 43) ?_ ?_; (focus first | with_reducible exact HH.out | ((with_reducible repeat first | refine OwnS.alloc ?_ _ | refine OwnS.drewN ?_ _ | refine OwnS.drew ?_); with_reducible exact HH.out)); (focus first | (go_simp; done) | (go_simp; rfl)); intro g1 w1 he hh; clear he; have HHx : Aside0 (OwnS (fun _ => False) [Sep.blk g1 (itC x) 43] w w1) := ⟨hh⟩; clear HH; have HH := HHx; clear HHx; clear hh)
    | ((with_reducible refine gate_ (.load 41 (.tmp 3)) rfl ?_); refine ev_loadA (OwnS.blk (S := fun _ => False) (w0 := w) (As := [Sep.blk g1 (itC x) 43]) ?_ 0 rfl) 2 18 (bodC (x.kind) (x.past) (x.text)) (itC_bod _ hx.1.1) rfl rfl (by rfl) Try.underlying41 rfl (bodC_size _ _ _ hx.1.1) (by kernel_rfl) ?_; (focus first | with_reducible exact HH.out | ((with_reducible repeat first | refine OwnS.alloc ?_ _ | refine OwnS.drewN ?_ _ | refine OwnS.drew ?_); with_reducible exact HH.out)))
    | ((with_reducible refine gate_ (.load 5 (.tmp 5)) rfl ?_); refine ev_cell (v := .int .u8 x.frm) ((blk_cell (OwnS.blk (S := fun _ => False) (w0 := w) (As := [Sep.blk g1 (itC x) 43]) ?_ 0 rfl) 0).trans rfl) rfl rfl (by rfl) Try.underlying5 rfl ?_; (focus first | with_reducible exact HH.out | ((with_reducible repeat first | refine OwnS.alloc ?_ _ | refine OwnS.drewN ?_ _ | refine OwnS.drew ?_); with_reducible exact HH.out)))
    | ((with_reducible refine gate_ (.load 3 (.tmp 7)) rfl ?_); refine ev_cell (v := .int .i64 x.seq) ((blk_cell (OwnS.blk (S := fun _ => False) (w0 := w) (As := [Sep.blk g1 (itC x) 43]) ?_ 0 rfl) 1).trans rfl) rfl rfl (by rfl) Try.underlying3 rfl ?_; (focus first | with_reducible exact HH.out | ((with_reducible repeat first | refine OwnS.alloc ?_ _ | refine OwnS.drewN ?_ _ | refine OwnS.drew ?_); with_reducible exact HH.out)))
    | (go_at_call 25; refine ownS_call (S := fun _ => False) (w0 := w) (As := [Sep.blk g1 (itC x) 43]) ?_ ?_; (focus first | with_reducible exact HH.out | ((with_reducible repeat first | refine OwnS.alloc ?_ _ | refine OwnS.drewN ?_ _ | refine OwnS.drew ?_); with_reducible exact HH.out)); intro ht; refine (right_calls _ x.kind x.past x.text x.frm x.seq hx.1 hx.2.2 hx.2.1.1).mono ?_; rintro e w2 ⟨rfl, hb⟩; have HHx : Aside0 (OwnS (fun _ => False) [Sep.blk g1 (itC x) 43] w w2) := ⟨OwnS.step ht hb⟩; clear HH; have HH := HHx; clear HHx; clear hb; clear ht)
    | fail
    | fail)
  go_ret
  exact ⟨rfl, below_frm (OwnS.frm HH.out)⟩

set_option maxRecDepth 100000 in
theorem rimay_calls (w : World) (x : It) (hx : okI x) : Calls Try.prog 33 #[.agg (itC x)] w (Kept (.bool (rightI x)) w) := by
  have HH : Aside0 (OwnS (fun _ => False) [] w w) := ⟨OwnS.of_own (Own.start w)⟩
  go_enter Try.func33, Try.ntmps33
  go_wp2_with (first
    | ((with_reducible refine gate_dst (N := 1) rfl ?_); refine evS_box (S := fun _ => False) (w0 := w) (As := []) ?_ rfl (cs := itC x) (T := 31) ?_ ?_; (focus first | with_reducible exact HH.out | ((with_reducible repeat first | refine OwnS.alloc ?_ _ | refine OwnS.drewN ?_ _ | refine OwnS.drew ?_); with_reducible exact HH.out)); (focus first | (go_simp; done) | (go_simp; rfl)); intro g1 w1 he hh; clear he; have HHx : Aside0 (OwnS (fun _ => False) [Sep.blk g1 (itC x) 31] w w1) := ⟨hh⟩; clear HH; have HH := HHx; clear HHx; clear hh)
    | ((with_reducible refine gate_ (.load 29 (.tmp 3)) rfl ?_); refine ev_loadA (OwnS.blk (S := fun _ => False) (w0 := w) (As := [Sep.blk g1 (itC x) 31]) ?_ 0 rfl) 2 18 (bodC (x.kind) (x.past) (x.text)) (itC_bod _ hx.1.1) rfl rfl (by rfl) Try.underlying29 rfl (bodC_size _ _ _ hx.1.1) (by kernel_rfl) ?_; (focus first | with_reducible exact HH.out | ((with_reducible repeat first | refine OwnS.alloc ?_ _ | refine OwnS.drewN ?_ _ | refine OwnS.drew ?_); with_reducible exact HH.out)))
    | ((with_reducible refine gate_ (.load 5 (.tmp 5)) rfl ?_); refine ev_cell (v := .int .u8 x.frm) ((blk_cell (OwnS.blk (S := fun _ => False) (w0 := w) (As := [Sep.blk g1 (itC x) 31]) ?_ 0 rfl) 0).trans rfl) rfl rfl (by rfl) Try.underlying5 rfl ?_; (focus first | with_reducible exact HH.out | ((with_reducible repeat first | refine OwnS.alloc ?_ _ | refine OwnS.drewN ?_ _ | refine OwnS.drew ?_); with_reducible exact HH.out)))
    | ((with_reducible refine gate_ (.load 3 (.tmp 7)) rfl ?_); refine ev_cell (v := .int .i64 x.seq) ((blk_cell (OwnS.blk (S := fun _ => False) (w0 := w) (As := [Sep.blk g1 (itC x) 31]) ?_ 0 rfl) 1).trans rfl) rfl rfl (by rfl) Try.underlying3 rfl ?_; (focus first | with_reducible exact HH.out | ((with_reducible repeat first | refine OwnS.alloc ?_ _ | refine OwnS.drewN ?_ _ | refine OwnS.drew ?_); with_reducible exact HH.out)))
    | (go_at_call 41; refine ownS_call (S := fun _ => False) (w0 := w) (As := [Sep.blk g1 (itC x) 31]) ?_ ?_; (focus first | with_reducible exact HH.out | ((with_reducible repeat first | refine OwnS.alloc ?_ _ | refine OwnS.drewN ?_ _ | refine OwnS.drew ?_); with_reducible exact HH.out)); intro ht; refine (rright_calls _ x.kind x.past x.text x.frm x.seq hx.1 hx.2.2 hx.2.1.1).mono ?_; rintro e w2 ⟨rfl, hb⟩; have HHx : Aside0 (OwnS (fun _ => False) [Sep.blk g1 (itC x) 31] w w2) := ⟨OwnS.step ht hb⟩; clear HH; have HH := HHx; clear HHx; clear hb; clear ht)
    | fail
    | fail)
  go_ret
  exact ⟨rfl, below_frm (OwnS.frm HH.out)⟩
end Go.Proofs.Ytkifekjcpnoclaa.Hld
