/- The reference: is, first, Right. -/
import Derived.Test.YtkifekjcpnoclaaHldOurs
namespace Go.Proofs.Ytkifekjcpnoclaa.Hld
open Go Go.RowKit Go.Proofs.YtkifekjcpnoclaaW.PrintWords Go.Proofs.Ytkifekjcpnoclaa.Sep Go.Proofs.Ytkifekjcpnoclaa.Obj
set_option linter.unusedVariables false
set_option linter.unusedSimpArgs false

set_option maxHeartbeats 4000000 in
set_option maxRecDepth 100000 in
theorem is_calls (w : World) (A : Option Addr) (c : Nat) (l : List It) (x : It) (hr : kIt.C w A l.length l) (hx0 : okI x) : Calls Try.prog 34 #[.slice A l.length c, .agg (itC x)] w (Kept (.bool (isIn l x)) w) := by
  have hlm : l.length ≤ 9223372036854775807 := hr.2.1
  have HR := Aside0.mk hr
  have HX := Aside0.mk hx0
  have HH : Aside0 (OwnS (fun _ => False) [] w w) := ⟨OwnS.of_own (Own.start w)⟩
  obtain ⟨f, hfx⟩ : ∃ f, x.frm = f := ⟨_, rfl⟩
  obtain ⟨q, hqx⟩ : ∃ q, x.seq = q := ⟨_, rfl⟩
  have HFX := Aside0.mk hfx
  have HQX := Aside0.mk hqx
  clear hr hx0 hfx hqx
  go_enter Try.func34, Try.ntmps34
  go_wp2_with (first
    | ((with_reducible refine gate_dst (N := 3) rfl ?_); refine evS_box (S := fun _ => False) (w0 := w) (As := []) ?_ rfl (cs := itC x) (T := 31) ?_ ?_; (focus first | with_reducible exact HH.out | ((with_reducible repeat first | refine OwnS.alloc ?_ _ | refine OwnS.drewN ?_ _ | refine OwnS.drew ?_); with_reducible exact HH.out)); (focus first | (go_simp; done) | (go_simp; rfl)); intro g1 w1 he hh; clear he; have HHx : Aside0 (OwnS (fun _ => False) [Sep.blk g1 (itC x) 31] w w1) := ⟨hh⟩; clear HH; have HH := HHx; clear HHx; clear hh)
    | fail
    | fail)
  go_loopw [5] (fun vi W => ∃ (i : Nat), vi = .int .i64 (i : Int) ∧ i ≤ l.length ∧ Aside0 (∀ j (h : j < l.length), j < i → same l[j] x = false) ∧ Aside0 (OwnS (fun _ => False) [Sep.blk g1 (itC x) 31] w W)) (fun vi _ => l.length - (intOf vi).toNat)
  case atStart => exact ⟨0, rfl, by omega, ⟨fun j h hj => by omega⟩, HH⟩
  case round =>
    clear HH
    obtain ⟨i, rfl, hi, HD, HH⟩ := hrel
    by_cases hlt : i < l.length
    · obtain ⟨g0, o0, ea, hox, _⟩ := at_It HR.out i hlt
      subst ea
      obtain ⟨y, hy⟩ : ∃ y, l[i] = y := ⟨_, rfl⟩
      rw [hy] at hox
      have HOX := Aside0.mk hox
      have HY := Aside0.mk hy
      have HRX : Aside0 (∀ {W : World}, Below w.heap.size w W → W.rangeAt g0 (o0 + i * 20) (itC y).toList) := ⟨row_at (A := none) HR.out hlt hy⟩
      have q0 : 0 ≤ (i : Int) := by omega
      have q1 : (i : Int) < (l.length : Int) := by omega
      clear hox hy
      obtain ⟨f2, hf2⟩ : ∃ f, y.frm = f := ⟨_, rfl⟩
      obtain ⟨q2, hq2⟩ : ∃ q, y.seq = q := ⟨_, rfl⟩
      have HF2 := Aside0.mk hf2
      have HQ2 := Aside0.mk hq2
      have HSM : Aside0 (same l[i] x = (decide (f2 = f) && decide (q2 = q))) := ⟨by rw [HY.out]; unfold same; rw [hf2, hq2, HFX.out, HQX.out]⟩
      clear hf2 hq2
      by_cases hff : f2 = f
      · by_cases hqq : q2 = q
        · have HT : Aside0 (isIn l x = true) := ⟨List.any_eq_true.2 ⟨l[i], List.getElem_mem hlt, by rw [HSM.out]; simp [hff, hqq]⟩⟩
          have hb1 : (f2 == f) = true := by simp [hff]
          have hb2 : (q2 == q) = true := by simp [hqq]
          clear hff hqq
          go_wp2_with fail
          have HKV : Aside0 (∀ w' : World, OwnS (fun _ => False) [Sep.blk g1 (itC x) 31] w w' → (w'.cell? ⟨g0, o0 + i * 20, none⟩ = some (.int .u8 f2) ∧ w'.cell? ⟨g0, o0 + i * 20 + 1, none⟩ = some (.int .i64 q2) ∧ w'.cell? ⟨g1, 0, none⟩ = some (.int .u8 f) ∧ w'.cell? ⟨g1, 1, none⟩ = some (.int .i64 q))) := ⟨fun W h => ⟨(by rw [← HF2.out]; exact (range_at (HRX.out (below_frm (OwnS.frm h)))).1), (by rw [← HQ2.out]; exact (range_at (HRX.out (below_frm (OwnS.frm h)))).2), (by rw [← HFX.out]; exact blk_cell (OwnS.blk (S := fun _ => False) (w0 := w) (As := [Sep.blk g1 (itC x) 31]) h 0 rfl) 0), (by rw [← HQX.out]; exact blk_cell (OwnS.blk (S := fun _ => False) (w0 := w) (As := [Sep.blk g1 (itC x) 31]) h 0 rfl) 1)⟩⟩
          refine wp_region_held_drew (S := fun w' => w'.cell? ⟨g0, o0 + i * 20, none⟩ = some (.int .u8 f2) ∧ w'.cell? ⟨g0, o0 + i * 20 + 1, none⟩ = some (.int .i64 q2) ∧ w'.cell? ⟨g1, 0, none⟩ = some (.int .u8 f) ∧ w'.cell? ⟨g1, 1, none⟩ = some (.int .i64 q)) (by kernel_rfl) ?_ (fun hHeld => ?_)
          focus (try dsimp only); (refine HKV.out _ ?_; (focus first | with_reducible exact HH.out | ((with_reducible repeat first | refine OwnS.alloc ?_ _ | refine OwnS.drewN ?_ _ | refine OwnS.drew ?_); with_reducible exact HH.out)))
          (try dsimp only at hHeld)
          refine tk (i := 0) (v := .slice (some ⟨g0, o0, none⟩) l.length c) (hy := Or.inl ⟨by rfl, ?_⟩) (h := ?_); (focus (intro w hSw; (try dsimp only at hSw); go_simp; try with_reducible rfl)); (try simp only [Act.put, List.setIfInBounds_toArray, List.set_cons_zero, List.set_cons_succ])
          refine tk (i := 1) (v := .int .i64 (i : Int)) (hy := Or.inl ⟨by rfl, ?_⟩) (h := ?_); (focus (intro w hSw; (try dsimp only at hSw); go_simp; try with_reducible rfl)); (try simp only [Act.put, List.setIfInBounds_toArray, List.set_cons_zero, List.set_cons_succ])
          refine tk (i := 2) (v := ?_) (hy := Or.inl ⟨by rfl, ?_⟩) (h := ?_); rotate_left; (focus (intro w hSw; (try dsimp only at hSw); go_simp; try with_reducible rfl)); (try simp only [Act.put, List.setIfInBounds_toArray, List.set_cons_zero, List.set_cons_succ])
          refine tk (i := 3) (v := ?_) (hy := Or.inl ⟨by rfl, ?_⟩) (h := ?_); rotate_left; (focus (intro w hSw; (try dsimp only at hSw); go_simp; try with_reducible rfl)); (try simp only [Act.put, List.setIfInBounds_toArray, List.set_cons_zero, List.set_cons_succ])
          refine tk (i := 4) (v := .int .u8 f2) (hy := Or.inl ⟨by rfl, ?_⟩) (h := ?_); (focus (intro w hSw; (try dsimp only at hSw); go_simp; try with_reducible rfl)); (try simp only [Act.put, List.setIfInBounds_toArray, List.set_cons_zero, List.set_cons_succ])
          refine tk (i := 5) (v := ?_) (hy := Or.inl ⟨by rfl, ?_⟩) (h := ?_); rotate_left; (focus (intro w hSw; (try dsimp only at hSw); go_simp; try with_reducible rfl)); (try simp only [Act.put, List.setIfInBounds_toArray, List.set_cons_zero, List.set_cons_succ])
          refine tk (i := 6) (v := .int .u8 f) (hy := Or.inl ⟨by rfl, ?_⟩) (h := ?_); (focus (intro w hSw; (try dsimp only at hSw); go_simp; try with_reducible rfl)); (try simp only [Act.put, List.setIfInBounds_toArray, List.set_cons_zero, List.set_cons_succ])
          refine tk (i := 7) (v := .bool true) (hy := Or.inl ⟨by rfl, ?_⟩) (h := ?_); (focus (intro w hSw; (try dsimp only at hSw); go_simp; try with_reducible rfl)); (try simp only [Act.put, List.setIfInBounds_toArray, List.set_cons_zero, List.set_cons_succ])
          refine tk (i := 8) (v := .bool true) (hy := Or.inl ⟨by rfl, ?_⟩) (h := ?_); (focus (intro w hSw; (try dsimp only at hSw); go_simp; try with_reducible rfl)); (try simp only [Act.put, List.setIfInBounds_toArray, List.set_cons_zero, List.set_cons_succ])
          refine tk (i := 9) (v := .slice (some ⟨g0, o0, none⟩) l.length c) (hy := Or.inl ⟨by rfl, ?_⟩) (h := ?_); (focus (intro w hSw; (try dsimp only at hSw); go_simp; try with_reducible rfl)); (try simp only [Act.put, List.setIfInBounds_toArray, List.set_cons_zero, List.set_cons_succ])
          refine tk (i := 10) (v := .int .i64 (i : Int)) (hy := Or.inl ⟨by rfl, ?_⟩) (h := ?_); (focus (intro w hSw; (try dsimp only at hSw); go_simp; try with_reducible rfl)); (try simp only [Act.put, List.setIfInBounds_toArray, List.set_cons_zero, List.set_cons_succ])
          refine tk (i := 11) (v := ?_) (hy := Or.inl ⟨by rfl, ?_⟩) (h := ?_); rotate_left; (focus (intro w hSw; (try dsimp only at hSw); go_simp; try with_reducible rfl)); (try simp only [Act.put, List.setIfInBounds_toArray, List.set_cons_zero, List.set_cons_succ])
          refine tk (i := 12) (v := ?_) (hy := Or.inl ⟨by rfl, ?_⟩) (h := ?_); rotate_left; (focus (intro w hSw; (try dsimp only at hSw); go_simp; try with_reducible rfl)); (try simp only [Act.put, List.setIfInBounds_toArray, List.set_cons_zero, List.set_cons_succ])
          refine tk (i := 13) (v := .int .i64 q2) (hy := Or.inl ⟨by rfl, ?_⟩) (h := ?_); (focus (intro w hSw; (try dsimp only at hSw); go_simp; try with_reducible rfl)); (try simp only [Act.put, List.setIfInBounds_toArray, List.set_cons_zero, List.set_cons_succ])
          refine tk (i := 14) (v := ?_) (hy := Or.inl ⟨by rfl, ?_⟩) (h := ?_); rotate_left; (focus (intro w hSw; (try dsimp only at hSw); go_simp; try with_reducible rfl)); (try simp only [Act.put, List.setIfInBounds_toArray, List.set_cons_zero, List.set_cons_succ])
          refine tk (i := 15) (v := .int .i64 q) (hy := Or.inl ⟨by rfl, ?_⟩) (h := ?_); (focus (intro w hSw; (try dsimp only at hSw); go_simp; try with_reducible rfl)); (try simp only [Act.put, List.setIfInBounds_toArray, List.set_cons_zero, List.set_cons_succ])
          refine tk (i := 16) (v := .bool true) (hy := Or.inl ⟨by rfl, ?_⟩) (h := ?_); (focus (intro w hSw; (try dsimp only at hSw); go_simp; try with_reducible rfl)); (try simp only [Act.put, List.setIfInBounds_toArray, List.set_cons_zero, List.set_cons_succ])
          refine tk (i := 17) (v := .bool true) (hy := Or.inl ⟨by rfl, ?_⟩) (h := ?_); (focus (intro w hSw; (try dsimp only at hSw); go_simp; try with_reducible rfl)); (try simp only [Act.put, List.setIfInBounds_toArray, List.set_cons_zero, List.set_cons_succ])
          refine wpAnyH_done (by kernel_rfl) ?_ _
          go_wp2_with fail
          go_ret
          exact ⟨by rw [HT.out]; rfl, below_frm (OwnS.frm (OwnS.drew HH.out))⟩
        · have HS : Aside0 (∀ j (h : j < l.length), j < i + 1 → same l[j] x = false) := ⟨fun j h hj => by
            rcases Nat.lt_or_eq_of_le (Nat.le_of_lt_succ hj) with h1 | h1
            · exact HD.out j h h1
            · subst h1; rw [HSM.out]; simp [hqq]⟩
          have hb1 : (f2 == f) = true := by simp [hff]
          have hb2 : (q2 == q) = false := by simp [hqq]
          clear hff hqq
          go_wp2_with fail
          have HKV : Aside0 (∀ w' : World, OwnS (fun _ => False) [Sep.blk g1 (itC x) 31] w w' → (w'.cell? ⟨g0, o0 + i * 20, none⟩ = some (.int .u8 f2) ∧ w'.cell? ⟨g0, o0 + i * 20 + 1, none⟩ = some (.int .i64 q2) ∧ w'.cell? ⟨g1, 0, none⟩ = some (.int .u8 f) ∧ w'.cell? ⟨g1, 1, none⟩ = some (.int .i64 q))) := ⟨fun W h => ⟨(by rw [← HF2.out]; exact (range_at (HRX.out (below_frm (OwnS.frm h)))).1), (by rw [← HQ2.out]; exact (range_at (HRX.out (below_frm (OwnS.frm h)))).2), (by rw [← HFX.out]; exact blk_cell (OwnS.blk (S := fun _ => False) (w0 := w) (As := [Sep.blk g1 (itC x) 31]) h 0 rfl) 0), (by rw [← HQX.out]; exact blk_cell (OwnS.blk (S := fun _ => False) (w0 := w) (As := [Sep.blk g1 (itC x) 31]) h 0 rfl) 1)⟩⟩
          refine wp_region_held_drew (S := fun w' => w'.cell? ⟨g0, o0 + i * 20, none⟩ = some (.int .u8 f2) ∧ w'.cell? ⟨g0, o0 + i * 20 + 1, none⟩ = some (.int .i64 q2) ∧ w'.cell? ⟨g1, 0, none⟩ = some (.int .u8 f) ∧ w'.cell? ⟨g1, 1, none⟩ = some (.int .i64 q)) (by kernel_rfl) ?_ (fun hHeld => ?_)
          focus (try dsimp only); (refine HKV.out _ ?_; (focus first | with_reducible exact HH.out | ((with_reducible repeat first | refine OwnS.alloc ?_ _ | refine OwnS.drewN ?_ _ | refine OwnS.drew ?_); with_reducible exact HH.out)))
          (try dsimp only at hHeld)
          refine tk (i := 0) (v := .slice (some ⟨g0, o0, none⟩) l.length c) (hy := Or.inl ⟨by rfl, ?_⟩) (h := ?_); (focus (intro w hSw; (try dsimp only at hSw); go_simp; try with_reducible rfl)); (try simp only [Act.put, List.setIfInBounds_toArray, List.set_cons_zero, List.set_cons_succ])
          refine tk (i := 1) (v := .int .i64 (i : Int)) (hy := Or.inl ⟨by rfl, ?_⟩) (h := ?_); (focus (intro w hSw; (try dsimp only at hSw); go_simp; try with_reducible rfl)); (try simp only [Act.put, List.setIfInBounds_toArray, List.set_cons_zero, List.set_cons_succ])
          refine tk (i := 2) (v := ?_) (hy := Or.inl ⟨by rfl, ?_⟩) (h := ?_); rotate_left; (focus (intro w hSw; (try dsimp only at hSw); go_simp; try with_reducible rfl)); (try simp only [Act.put, List.setIfInBounds_toArray, List.set_cons_zero, List.set_cons_succ])
          refine tk (i := 3) (v := ?_) (hy := Or.inl ⟨by rfl, ?_⟩) (h := ?_); rotate_left; (focus (intro w hSw; (try dsimp only at hSw); go_simp; try with_reducible rfl)); (try simp only [Act.put, List.setIfInBounds_toArray, List.set_cons_zero, List.set_cons_succ])
          refine tk (i := 4) (v := .int .u8 f2) (hy := Or.inl ⟨by rfl, ?_⟩) (h := ?_); (focus (intro w hSw; (try dsimp only at hSw); go_simp; try with_reducible rfl)); (try simp only [Act.put, List.setIfInBounds_toArray, List.set_cons_zero, List.set_cons_succ])
          refine tk (i := 5) (v := ?_) (hy := Or.inl ⟨by rfl, ?_⟩) (h := ?_); rotate_left; (focus (intro w hSw; (try dsimp only at hSw); go_simp; try with_reducible rfl)); (try simp only [Act.put, List.setIfInBounds_toArray, List.set_cons_zero, List.set_cons_succ])
          refine tk (i := 6) (v := .int .u8 f) (hy := Or.inl ⟨by rfl, ?_⟩) (h := ?_); (focus (intro w hSw; (try dsimp only at hSw); go_simp; try with_reducible rfl)); (try simp only [Act.put, List.setIfInBounds_toArray, List.set_cons_zero, List.set_cons_succ])
          refine tk (i := 7) (v := .bool true) (hy := Or.inl ⟨by rfl, ?_⟩) (h := ?_); (focus (intro w hSw; (try dsimp only at hSw); go_simp; try with_reducible rfl)); (try simp only [Act.put, List.setIfInBounds_toArray, List.set_cons_zero, List.set_cons_succ])
          refine tk (i := 8) (v := .bool true) (hy := Or.inl ⟨by rfl, ?_⟩) (h := ?_); (focus (intro w hSw; (try dsimp only at hSw); go_simp; try with_reducible rfl)); (try simp only [Act.put, List.setIfInBounds_toArray, List.set_cons_zero, List.set_cons_succ])
          refine tk (i := 9) (v := .slice (some ⟨g0, o0, none⟩) l.length c) (hy := Or.inl ⟨by rfl, ?_⟩) (h := ?_); (focus (intro w hSw; (try dsimp only at hSw); go_simp; try with_reducible rfl)); (try simp only [Act.put, List.setIfInBounds_toArray, List.set_cons_zero, List.set_cons_succ])
          refine tk (i := 10) (v := .int .i64 (i : Int)) (hy := Or.inl ⟨by rfl, ?_⟩) (h := ?_); (focus (intro w hSw; (try dsimp only at hSw); go_simp; try with_reducible rfl)); (try simp only [Act.put, List.setIfInBounds_toArray, List.set_cons_zero, List.set_cons_succ])
          refine tk (i := 11) (v := ?_) (hy := Or.inl ⟨by rfl, ?_⟩) (h := ?_); rotate_left; (focus (intro w hSw; (try dsimp only at hSw); go_simp; try with_reducible rfl)); (try simp only [Act.put, List.setIfInBounds_toArray, List.set_cons_zero, List.set_cons_succ])
          refine tk (i := 12) (v := ?_) (hy := Or.inl ⟨by rfl, ?_⟩) (h := ?_); rotate_left; (focus (intro w hSw; (try dsimp only at hSw); go_simp; try with_reducible rfl)); (try simp only [Act.put, List.setIfInBounds_toArray, List.set_cons_zero, List.set_cons_succ])
          refine tk (i := 13) (v := .int .i64 q2) (hy := Or.inl ⟨by rfl, ?_⟩) (h := ?_); (focus (intro w hSw; (try dsimp only at hSw); go_simp; try with_reducible rfl)); (try simp only [Act.put, List.setIfInBounds_toArray, List.set_cons_zero, List.set_cons_succ])
          refine tk (i := 14) (v := ?_) (hy := Or.inl ⟨by rfl, ?_⟩) (h := ?_); rotate_left; (focus (intro w hSw; (try dsimp only at hSw); go_simp; try with_reducible rfl)); (try simp only [Act.put, List.setIfInBounds_toArray, List.set_cons_zero, List.set_cons_succ])
          refine tk (i := 15) (v := .int .i64 q) (hy := Or.inl ⟨by rfl, ?_⟩) (h := ?_); (focus (intro w hSw; (try dsimp only at hSw); go_simp; try with_reducible rfl)); (try simp only [Act.put, List.setIfInBounds_toArray, List.set_cons_zero, List.set_cons_succ])
          refine tk (i := 16) (v := .bool false) (hy := Or.inl ⟨by rfl, ?_⟩) (h := ?_); (focus (intro w hSw; (try dsimp only at hSw); go_simp; try with_reducible rfl)); (try simp only [Act.put, List.setIfInBounds_toArray, List.set_cons_zero, List.set_cons_succ])
          refine tk (i := 17) (v := .bool false) (hy := Or.inl ⟨by rfl, ?_⟩) (h := ?_); (focus (intro w hSw; (try dsimp only at hSw); go_simp; try with_reducible rfl)); (try simp only [Act.put, List.setIfInBounds_toArray, List.set_cons_zero, List.set_cons_succ])
          refine wpAnyH_done (by kernel_rfl) ?_ _
          go_wp2_with fail
          go_roundw
          case rel => exact ⟨i + 1, by go_num, by omega, HS, ⟨OwnS.drew HH.out⟩⟩
          case measure => simp [intOf]; omega
      · have HS : Aside0 (∀ j (h : j < l.length), j < i + 1 → same l[j] x = false) := ⟨fun j h hj => by
          rcases Nat.lt_or_eq_of_le (Nat.le_of_lt_succ hj) with h1 | h1
          · exact HD.out j h h1
          · subst h1; rw [HSM.out]; simp [hff]⟩
        have hb1 : (f2 == f) = false := by simp [hff]
        clear hff
        · go_wp2_with fail
          have HKV : Aside0 (∀ w' : World, OwnS (fun _ => False) [Sep.blk g1 (itC x) 31] w w' → (w'.cell? ⟨g0, o0 + i * 20, none⟩ = some (.int .u8 f2) ∧ w'.cell? ⟨g0, o0 + i * 20 + 1, none⟩ = some (.int .i64 q2) ∧ w'.cell? ⟨g1, 0, none⟩ = some (.int .u8 f) ∧ w'.cell? ⟨g1, 1, none⟩ = some (.int .i64 q))) := ⟨fun W h => ⟨(by rw [← HF2.out]; exact (range_at (HRX.out (below_frm (OwnS.frm h)))).1), (by rw [← HQ2.out]; exact (range_at (HRX.out (below_frm (OwnS.frm h)))).2), (by rw [← HFX.out]; exact blk_cell (OwnS.blk (S := fun _ => False) (w0 := w) (As := [Sep.blk g1 (itC x) 31]) h 0 rfl) 0), (by rw [← HQX.out]; exact blk_cell (OwnS.blk (S := fun _ => False) (w0 := w) (As := [Sep.blk g1 (itC x) 31]) h 0 rfl) 1)⟩⟩
          refine wp_region_held_drew (S := fun w' => w'.cell? ⟨g0, o0 + i * 20, none⟩ = some (.int .u8 f2) ∧ w'.cell? ⟨g0, o0 + i * 20 + 1, none⟩ = some (.int .i64 q2) ∧ w'.cell? ⟨g1, 0, none⟩ = some (.int .u8 f) ∧ w'.cell? ⟨g1, 1, none⟩ = some (.int .i64 q)) (by kernel_rfl) ?_ (fun hHeld => ?_)
          focus (try dsimp only); (refine HKV.out _ ?_; (focus first | with_reducible exact HH.out | ((with_reducible repeat first | refine OwnS.alloc ?_ _ | refine OwnS.drewN ?_ _ | refine OwnS.drew ?_); with_reducible exact HH.out)))
          (try dsimp only at hHeld)
          refine tk (i := 0) (v := .slice (some ⟨g0, o0, none⟩) l.length c) (hy := Or.inl ⟨by rfl, ?_⟩) (h := ?_); (focus (intro w hSw; (try dsimp only at hSw); go_simp; try with_reducible rfl)); (try simp only [Act.put, List.setIfInBounds_toArray, List.set_cons_zero, List.set_cons_succ])
          refine tk (i := 1) (v := .int .i64 (i : Int)) (hy := Or.inl ⟨by rfl, ?_⟩) (h := ?_); (focus (intro w hSw; (try dsimp only at hSw); go_simp; try with_reducible rfl)); (try simp only [Act.put, List.setIfInBounds_toArray, List.set_cons_zero, List.set_cons_succ])
          refine tk (i := 2) (v := ?_) (hy := Or.inl ⟨by rfl, ?_⟩) (h := ?_); rotate_left; (focus (intro w hSw; (try dsimp only at hSw); go_simp; try with_reducible rfl)); (try simp only [Act.put, List.setIfInBounds_toArray, List.set_cons_zero, List.set_cons_succ])
          refine tk (i := 3) (v := ?_) (hy := Or.inl ⟨by rfl, ?_⟩) (h := ?_); rotate_left; (focus (intro w hSw; (try dsimp only at hSw); go_simp; try with_reducible rfl)); (try simp only [Act.put, List.setIfInBounds_toArray, List.set_cons_zero, List.set_cons_succ])
          refine tk (i := 4) (v := .int .u8 f2) (hy := Or.inl ⟨by rfl, ?_⟩) (h := ?_); (focus (intro w hSw; (try dsimp only at hSw); go_simp; try with_reducible rfl)); (try simp only [Act.put, List.setIfInBounds_toArray, List.set_cons_zero, List.set_cons_succ])
          refine tk (i := 5) (v := ?_) (hy := Or.inl ⟨by rfl, ?_⟩) (h := ?_); rotate_left; (focus (intro w hSw; (try dsimp only at hSw); go_simp; try with_reducible rfl)); (try simp only [Act.put, List.setIfInBounds_toArray, List.set_cons_zero, List.set_cons_succ])
          refine tk (i := 6) (v := .int .u8 f) (hy := Or.inl ⟨by rfl, ?_⟩) (h := ?_); (focus (intro w hSw; (try dsimp only at hSw); go_simp; try with_reducible rfl)); (try simp only [Act.put, List.setIfInBounds_toArray, List.set_cons_zero, List.set_cons_succ])
          refine tk (i := 7) (v := .bool false) (hy := Or.inl ⟨by rfl, ?_⟩) (h := ?_); (focus (intro w hSw; (try dsimp only at hSw); go_simp; try with_reducible rfl)); (try simp only [Act.put, List.setIfInBounds_toArray, List.set_cons_zero, List.set_cons_succ])
          refine tk (i := 8) (v := .bool false) (hy := Or.inl ⟨by rfl, ?_⟩) (h := ?_); (focus (intro w hSw; (try dsimp only at hSw); go_simp; try with_reducible rfl)); (try simp only [Act.put, List.setIfInBounds_toArray, List.set_cons_zero, List.set_cons_succ])
          refine tk (i := 9) (v := undef) (hy := Or.inr ⟨by rfl, rfl⟩) (h := ?_); (try simp only [Act.put, List.setIfInBounds_toArray, List.set_cons_zero, List.set_cons_succ])
          refine tk (i := 10) (v := undef) (hy := Or.inr ⟨by rfl, rfl⟩) (h := ?_); (try simp only [Act.put, List.setIfInBounds_toArray, List.set_cons_zero, List.set_cons_succ])
          refine tk (i := 11) (v := undef) (hy := Or.inr ⟨by rfl, rfl⟩) (h := ?_); (try simp only [Act.put, List.setIfInBounds_toArray, List.set_cons_zero, List.set_cons_succ])
          refine tk (i := 12) (v := undef) (hy := Or.inr ⟨by rfl, rfl⟩) (h := ?_); (try simp only [Act.put, List.setIfInBounds_toArray, List.set_cons_zero, List.set_cons_succ])
          refine tk (i := 13) (v := undef) (hy := Or.inr ⟨by rfl, rfl⟩) (h := ?_); (try simp only [Act.put, List.setIfInBounds_toArray, List.set_cons_zero, List.set_cons_succ])
          refine tk (i := 14) (v := undef) (hy := Or.inr ⟨by rfl, rfl⟩) (h := ?_); (try simp only [Act.put, List.setIfInBounds_toArray, List.set_cons_zero, List.set_cons_succ])
          refine tk (i := 15) (v := undef) (hy := Or.inr ⟨by rfl, rfl⟩) (h := ?_); (try simp only [Act.put, List.setIfInBounds_toArray, List.set_cons_zero, List.set_cons_succ])
          refine tk (i := 16) (v := undef) (hy := Or.inr ⟨by rfl, rfl⟩) (h := ?_); (try simp only [Act.put, List.setIfInBounds_toArray, List.set_cons_zero, List.set_cons_succ])
          refine tk (i := 17) (v := .bool false) (hy := Or.inl ⟨by rfl, ?_⟩) (h := ?_); (focus (intro w hSw; (try dsimp only at hSw); go_simp; try with_reducible rfl)); (try simp only [Act.put, List.setIfInBounds_toArray, List.set_cons_zero, List.set_cons_succ])
          refine wpAnyH_done (by kernel_rfl) ?_ _
          go_wp2_with fail
          go_roundw
          case rel => exact ⟨i + 1, by go_num, by omega, HS, ⟨OwnS.drew HH.out⟩⟩
          case measure => simp [intOf]; omega
    · have hge : i = l.length := by omega
      subst hge
      have HN : Aside0 (isIn l x = false) := ⟨isIn_no.2 (fun z hz => by obtain ⟨j, hj, rfl⟩ := List.getElem_of_mem hz; exact HD.out j hj hj)⟩
      go_wp2_with fail
      go_ret
      exact ⟨by rw [HN.out]; rfl, below_frm (OwnS.frm HH.out)⟩

set_option maxHeartbeats 4000000 in
set_option maxRecDepth 100000 in
theorem first_calls (w : World) (told : List Int) (A : Option Addr) (c : Nat) (l : List It) (ht0 : okV told) (hr : kIt.C w A l.length l) : Calls Try.prog 36 #[.agg (hoC told (.slice A l.length c))] w (Kept (.int .i64 (idxI (readyB told) l)) w) := by
  have hlm : l.length ≤ 9223372036854775807 := hr.2.1
  have HR := Aside0.mk hr
  have HT := Aside0.mk ht0
  have HH : Aside0 (OwnS (fun _ => False) [] w w) := ⟨OwnS.of_own (Own.start w)⟩
  clear hr ht0
  go_enter Try.func36, Try.ntmps36
  go_wp2_with (first
    | ((with_reducible refine gate_dst (N := 1) rfl ?_); refine evS_box (S := fun _ => False) (w0 := w) (As := []) ?_ rfl (cs := hoC told (.slice A l.length c)) (T := 27) ?_ ?_; (focus first | with_reducible exact HH.out | ((with_reducible repeat first | refine OwnS.alloc ?_ _ | refine OwnS.drewN ?_ _ | refine OwnS.drew ?_); with_reducible exact HH.out)); (focus first | (go_simp; done) | (go_simp; rfl)); intro g1 w1 he hh; clear he; have HHx : Aside0 (OwnS (fun _ => False) [Sep.blk g1 (hoC told (.slice A l.length c)) 27] w w1) := ⟨hh⟩; clear HH; have HH := HHx; clear HHx; clear hh)
    | fail
    | fail)
  go_loopw [3] (fun vi W => ∃ (i : Nat), vi = .int .i64 (i : Int) ∧ i ≤ l.length ∧ Aside0 (∀ j (h : j < l.length), j < i → readyB told l[j] = false) ∧ Aside0 (OwnS (fun _ => False) [Sep.blk g1 (hoC told (.slice A l.length c)) 27] w W)) (fun vi _ => l.length - (intOf vi).toNat)
  case atStart => exact ⟨0, rfl, by omega, ⟨fun j h hj => by omega⟩, HH⟩
  case round =>
    clear HH
    obtain ⟨i, rfl, hi, HD, HH⟩ := hrel
    by_cases hlt : i < l.length
    · obtain ⟨g0, o0, ea, hox, _⟩ := at_It HR.out i hlt
      subst ea
      obtain ⟨y, hy⟩ : ∃ y, l[i] = y := ⟨_, rfl⟩
      rw [hy] at hox
      have HOX := Aside0.mk hox
      have HY := Aside0.mk hy
      have HRX : Aside0 (∀ {W : World}, Below w.heap.size w W → W.rangeAt g0 (o0 + i * 20) (itC y).toList) := ⟨row_at (A := none) HR.out hlt hy⟩
      have q0 : 0 ≤ (i : Int) := by omega
      have q1 : (i : Int) < (l.length : Int) := by omega
      clear hox hy
      cases hp : readyB told y with
      | true =>
        have HP := Aside0.mk hp
        have HT2 : Aside0 (idxI (readyB told) l = (i : Int)) := ⟨idxI_yes hlt (by rw [HY.out]; exact hp) HD.out⟩
        clear hp
        go_wp2_with (first
          | ((with_reducible refine gate_ (.load 25 (.tmp 5)) rfl ?_); refine ev_cell (v := .slice (some ⟨g0, o0, none⟩) l.length c) ((blk_cell (OwnS.blk (S := fun _ => False) (w0 := w) (As := [Sep.blk g1 (hoC told (.slice (some ⟨g0, o0, none⟩) l.length c)) 27]) ?_ 0 rfl) 16).trans (hoC_last _ _ HT.out.1)) rfl rfl (by rfl) Try.underlying25 rfl ?_; (focus first | with_reducible exact HH.out | ((with_reducible repeat first | refine OwnS.alloc ?_ _ | refine OwnS.drewN ?_ _ | refine OwnS.drew ?_); with_reducible exact HH.out)))
          | fail
          | fail)
        have HKV : Aside0 (∀ w' : World, OwnS (fun _ => False) [Sep.blk g1 (hoC told (.slice (some ⟨g0, o0, none⟩) l.length c)) 27] w w' → (w'.rangeAt g1 0 (nums .u16 told) ∧ w'.cell? ⟨g1, 16, none⟩ = some (.slice (some ⟨g0, o0, none⟩) l.length c) ∧ w'.rangeAt g0 (o0 + i * 20) (itC y).toList)) := ⟨fun W h => ⟨range_hov HT.out.1 (OwnS.blk (S := fun _ => False) (w0 := w) (As := [Sep.blk g1 (hoC told (.slice (some ⟨g0, o0, none⟩) l.length c)) 27]) h 0 rfl), (blk_cell (OwnS.blk (S := fun _ => False) (w0 := w) (As := [Sep.blk g1 (hoC told (.slice (some ⟨g0, o0, none⟩) l.length c)) 27]) h 0 rfl) 16).trans (hoC_last _ _ HT.out.1), HRX.out (below_frm (OwnS.frm h))⟩⟩
        refine wp_region_held_drew (S := fun w' => w'.rangeAt g1 0 (nums .u16 told) ∧ w'.cell? ⟨g1, 16, none⟩ = some (.slice (some ⟨g0, o0, none⟩) l.length c) ∧ w'.rangeAt g0 (o0 + i * 20) (itC y).toList) (by kernel_rfl) ?_ (fun hHeld => ?_)
        focus (try dsimp only); (refine HKV.out _ ?_; (focus first | with_reducible exact HH.out | ((with_reducible repeat first | refine OwnS.alloc ?_ _ | refine OwnS.drewN ?_ _ | refine OwnS.drew ?_); with_reducible exact HH.out)))
        (try dsimp only at hHeld)
        refine tk (i := 0) (v := ?_) (hy := Or.inl ⟨by rfl, ?_⟩) (h := ?_); rotate_left; (focus (intro w hSw; (try dsimp only at hSw); go_simp; try with_reducible rfl)); (try simp only [Act.put, List.setIfInBounds_toArray, List.set_cons_zero, List.set_cons_succ])
        refine tk (i := 1) (hy := yieldsIf_load_mid (by rfl) _ _ rfl _ _ rfl (nums .u16 told) _ ?_ Try.underlying24 rfl (infoV HT.out.1)) (h := ?_); (focus (intro w hSw; (try dsimp only at hSw); go_split_ands; assumption)); (try simp only [Act.put, List.setIfInBounds_toArray, List.set_cons_zero, List.set_cons_succ])
        refine tk (i := 2) (v := ?_) (hy := Or.inl ⟨by rfl, ?_⟩) (h := ?_); rotate_left; (focus (intro w hSw; (try dsimp only at hSw); go_simp; try with_reducible rfl)); (try simp only [Act.put, List.setIfInBounds_toArray, List.set_cons_zero, List.set_cons_succ])
        refine tk (i := 3) (v := .slice (some ⟨g0, o0, none⟩) l.length c) (hy := Or.inl ⟨by rfl, ?_⟩) (h := ?_); (focus (intro w hSw; (try dsimp only at hSw); go_simp; try with_reducible rfl)); (try simp only [Act.put, List.setIfInBounds_toArray, List.set_cons_zero, List.set_cons_succ])
        refine tk (i := 4) (v := .int .i64 (i : Int)) (hy := Or.inl ⟨by rfl, ?_⟩) (h := ?_); (focus (intro w hSw; (try dsimp only at hSw); go_simp; try with_reducible rfl)); (try simp only [Act.put, List.setIfInBounds_toArray, List.set_cons_zero, List.set_cons_succ])
        refine tk (i := 5) (v := ?_) (hy := Or.inl ⟨by rfl, ?_⟩) (h := ?_); rotate_left; (focus (intro w hSw; (try dsimp only at hSw); go_simp; try with_reducible rfl)); (try simp only [Act.put, List.setIfInBounds_toArray, List.set_cons_zero, List.set_cons_succ])
        refine tk (i := 6) (hy := yieldsIf_load_mid (by rfl) _ _ rfl _ _ rfl ((itC y).toList) _ ?_ Try.underlying31 rfl (by rw [Array.length_toList, (itC_size _ HOX.out.1.1)]; kernel_rfl)) (h := ?_); (focus (intro w hSw; (try dsimp only at hSw); go_split_ands; assumption)); (try simp only [Act.put, List.setIfInBounds_toArray, List.set_cons_zero, List.set_cons_succ])
        refine wpAnyH_ready (rs := [7]) (by kernel_rfl) (by simp) ?_
        refine AllReadyH.cons (by simp only [List.getElem?_toArray, List.getElem?_cons_succ, List.getElem?_cons_zero]; rfl) (fun K hK => ?_) AllReadyH.nil; go_simp; go_at_call 16; refine ownS_call (S := fun _ => False) (w0 := w) (As := [Sep.blk g1 (hoC told (.slice (some ⟨g0, o0, none⟩) l.length c)) 27]) ?_ ?_; (focus first | with_reducible exact HH.out | ((with_reducible repeat first | refine OwnS.alloc ?_ _ | refine OwnS.drewN ?_ _ | refine OwnS.drew ?_); with_reducible exact HH.out)); intro ht; refine (rready_calls _ told y HT.out HOX.out).mono ?_; rintro e w21 ⟨rfl, hb⟩; rw [HP.out]; have HHx : Aside0 (OwnS (fun _ => False) [Sep.blk g1 (hoC told (.slice (some ⟨g0, o0, none⟩) l.length c)) 27] w w21) := ⟨OwnS.step ht hb⟩; clear HH; have HH := HHx; clear HHx; clear hb; clear ht; refine hK.out _ _ ?_ (fun hHeld2 => ?_); (focus (try dsimp only); (refine HKV.out _ ?_; (focus first | with_reducible exact HH.out | ((with_reducible repeat first | refine OwnS.alloc ?_ _ | refine OwnS.drewN ?_ _ | refine OwnS.drew ?_); with_reducible exact HH.out)))); clear hK K hHeld; rename _ => hHeld; (try dsimp only at hHeld); (try simp only [Act.put, List.setIfInBounds_toArray, List.set_cons_zero, List.set_cons_succ])
        refine wpAnyH_done (by kernel_rfl) ?_ _
        go_wp2_with fail
        go_ret
        exact ⟨by rw [HT2.out]; rfl, below_frm (OwnS.frm HH.out)⟩
      | false =>
        have HP := Aside0.mk hp
        have HS : Aside0 (∀ j (h : j < l.length), j < i + 1 → readyB told l[j] = false) := ⟨fun j h hj => by
          rcases Nat.lt_or_eq_of_le (Nat.le_of_lt_succ hj) with h1 | h1
          · exact HD.out j h h1
          · subst h1; rw [HY.out]; exact HP.out⟩
        clear hp
        go_wp2_with (first
          | ((with_reducible refine gate_ (.load 25 (.tmp 5)) rfl ?_); refine ev_cell (v := .slice (some ⟨g0, o0, none⟩) l.length c) ((blk_cell (OwnS.blk (S := fun _ => False) (w0 := w) (As := [Sep.blk g1 (hoC told (.slice (some ⟨g0, o0, none⟩) l.length c)) 27]) ?_ 0 rfl) 16).trans (hoC_last _ _ HT.out.1)) rfl rfl (by rfl) Try.underlying25 rfl ?_; (focus first | with_reducible exact HH.out | ((with_reducible repeat first | refine OwnS.alloc ?_ _ | refine OwnS.drewN ?_ _ | refine OwnS.drew ?_); with_reducible exact HH.out)))
          | fail
          | fail)
        have HKV : Aside0 (∀ w' : World, OwnS (fun _ => False) [Sep.blk g1 (hoC told (.slice (some ⟨g0, o0, none⟩) l.length c)) 27] w w' → (w'.rangeAt g1 0 (nums .u16 told) ∧ w'.cell? ⟨g1, 16, none⟩ = some (.slice (some ⟨g0, o0, none⟩) l.length c) ∧ w'.rangeAt g0 (o0 + i * 20) (itC y).toList)) := ⟨fun W h => ⟨range_hov HT.out.1 (OwnS.blk (S := fun _ => False) (w0 := w) (As := [Sep.blk g1 (hoC told (.slice (some ⟨g0, o0, none⟩) l.length c)) 27]) h 0 rfl), (blk_cell (OwnS.blk (S := fun _ => False) (w0 := w) (As := [Sep.blk g1 (hoC told (.slice (some ⟨g0, o0, none⟩) l.length c)) 27]) h 0 rfl) 16).trans (hoC_last _ _ HT.out.1), HRX.out (below_frm (OwnS.frm h))⟩⟩
        refine wp_region_held_drew (S := fun w' => w'.rangeAt g1 0 (nums .u16 told) ∧ w'.cell? ⟨g1, 16, none⟩ = some (.slice (some ⟨g0, o0, none⟩) l.length c) ∧ w'.rangeAt g0 (o0 + i * 20) (itC y).toList) (by kernel_rfl) ?_ (fun hHeld => ?_)
        focus (try dsimp only); (refine HKV.out _ ?_; (focus first | with_reducible exact HH.out | ((with_reducible repeat first | refine OwnS.alloc ?_ _ | refine OwnS.drewN ?_ _ | refine OwnS.drew ?_); with_reducible exact HH.out)))
        (try dsimp only at hHeld)
        refine tk (i := 0) (v := ?_) (hy := Or.inl ⟨by rfl, ?_⟩) (h := ?_); rotate_left; (focus (intro w hSw; (try dsimp only at hSw); go_simp; try with_reducible rfl)); (try simp only [Act.put, List.setIfInBounds_toArray, List.set_cons_zero, List.set_cons_succ])
        refine tk (i := 1) (hy := yieldsIf_load_mid (by rfl) _ _ rfl _ _ rfl (nums .u16 told) _ ?_ Try.underlying24 rfl (infoV HT.out.1)) (h := ?_); (focus (intro w hSw; (try dsimp only at hSw); go_split_ands; assumption)); (try simp only [Act.put, List.setIfInBounds_toArray, List.set_cons_zero, List.set_cons_succ])
        refine tk (i := 2) (v := ?_) (hy := Or.inl ⟨by rfl, ?_⟩) (h := ?_); rotate_left; (focus (intro w hSw; (try dsimp only at hSw); go_simp; try with_reducible rfl)); (try simp only [Act.put, List.setIfInBounds_toArray, List.set_cons_zero, List.set_cons_succ])
        refine tk (i := 3) (v := .slice (some ⟨g0, o0, none⟩) l.length c) (hy := Or.inl ⟨by rfl, ?_⟩) (h := ?_); (focus (intro w hSw; (try dsimp only at hSw); go_simp; try with_reducible rfl)); (try simp only [Act.put, List.setIfInBounds_toArray, List.set_cons_zero, List.set_cons_succ])
        refine tk (i := 4) (v := .int .i64 (i : Int)) (hy := Or.inl ⟨by rfl, ?_⟩) (h := ?_); (focus (intro w hSw; (try dsimp only at hSw); go_simp; try with_reducible rfl)); (try simp only [Act.put, List.setIfInBounds_toArray, List.set_cons_zero, List.set_cons_succ])
        refine tk (i := 5) (v := ?_) (hy := Or.inl ⟨by rfl, ?_⟩) (h := ?_); rotate_left; (focus (intro w hSw; (try dsimp only at hSw); go_simp; try with_reducible rfl)); (try simp only [Act.put, List.setIfInBounds_toArray, List.set_cons_zero, List.set_cons_succ])
        refine tk (i := 6) (hy := yieldsIf_load_mid (by rfl) _ _ rfl _ _ rfl ((itC y).toList) _ ?_ Try.underlying31 rfl (by rw [Array.length_toList, (itC_size _ HOX.out.1.1)]; kernel_rfl)) (h := ?_); (focus (intro w hSw; (try dsimp only at hSw); go_split_ands; assumption)); (try simp only [Act.put, List.setIfInBounds_toArray, List.set_cons_zero, List.set_cons_succ])
        refine wpAnyH_ready (rs := [7]) (by kernel_rfl) (by simp) ?_
        refine AllReadyH.cons (by simp only [List.getElem?_toArray, List.getElem?_cons_succ, List.getElem?_cons_zero]; rfl) (fun K hK => ?_) AllReadyH.nil; go_simp; go_at_call 16; refine ownS_call (S := fun _ => False) (w0 := w) (As := [Sep.blk g1 (hoC told (.slice (some ⟨g0, o0, none⟩) l.length c)) 27]) ?_ ?_; (focus first | with_reducible exact HH.out | ((with_reducible repeat first | refine OwnS.alloc ?_ _ | refine OwnS.drewN ?_ _ | refine OwnS.drew ?_); with_reducible exact HH.out)); intro ht; refine (rready_calls _ told y HT.out HOX.out).mono ?_; rintro e w21 ⟨rfl, hb⟩; rw [HP.out]; have HHx : Aside0 (OwnS (fun _ => False) [Sep.blk g1 (hoC told (.slice (some ⟨g0, o0, none⟩) l.length c)) 27] w w21) := ⟨OwnS.step ht hb⟩; clear HH; have HH := HHx; clear HHx; clear hb; clear ht; refine hK.out _ _ ?_ (fun hHeld2 => ?_); (focus (try dsimp only); (refine HKV.out _ ?_; (focus first | with_reducible exact HH.out | ((with_reducible repeat first | refine OwnS.alloc ?_ _ | refine OwnS.drewN ?_ _ | refine OwnS.drew ?_); with_reducible exact HH.out)))); clear hK K hHeld; rename _ => hHeld; (try dsimp only at hHeld); (try simp only [Act.put, List.setIfInBounds_toArray, List.set_cons_zero, List.set_cons_succ])
        refine wpAnyH_done (by kernel_rfl) ?_ _
        go_wp2_with fail
        go_roundw
        case rel => exact ⟨i + 1, by go_num, by omega, HS, HH⟩
        case measure => simp [intOf]; omega
    · have hge : i = l.length := by omega
      subst hge
      have HN : Aside0 (idxI (readyB told) l = -1) := ⟨idxI_no (fun j hj => HD.out j hj hj)⟩
      go_wp2_with (first
        | ((with_reducible refine gate_ (.load 25 (.tmp 5)) rfl ?_); refine ev_cell (v := .slice A l.length c) ((blk_cell (OwnS.blk (S := fun _ => False) (w0 := w) (As := [Sep.blk g1 (hoC told (.slice A l.length c)) 27]) ?_ 0 rfl) 16).trans (hoC_last _ _ HT.out.1)) rfl rfl (by rfl) Try.underlying25 rfl ?_; (focus first | with_reducible exact HH.out | ((with_reducible repeat first | refine OwnS.alloc ?_ _ | refine OwnS.drewN ?_ _ | refine OwnS.drew ?_); with_reducible exact HH.out)))
        | fail
        | fail)
      go_ret
      exact ⟨by rw [HN.out]; rfl, below_frm (OwnS.frm HH.out)⟩

set_option maxHeartbeats 8000000 in
set_option maxRecDepth 100000 in
theorem rright_h (w : World) (told : List Int) (A : Option Addr) (c : Nat) (l : List It) (ht0 : okV told) (hr : kIt.C w A l.length l) (hc : l.length ≤ c) : Calls Try.prog 18 #[.agg (hoC told (.slice A l.length c))] w (Kept (.bool (rightH told l)) w) := by
  have hlm : l.length ≤ 9223372036854775807 := hr.2.1
  have HR := Aside0.mk hr
  have HT := Aside0.mk ht0
  have HH : Aside0 (OwnS (fun _ => False) [] w w) := ⟨OwnS.of_own (Own.start w)⟩
  clear hr ht0
  go_enter Try.func18, Try.ntmps18
  go_wp2_with (first
    | ((with_reducible refine gate_dst (N := 1) rfl ?_); refine evS_box (S := fun _ => False) (w0 := w) (As := []) ?_ rfl (cs := hoC told (.slice A l.length c)) (T := 27) ?_ ?_; (focus first | with_reducible exact HH.out | ((with_reducible repeat first | refine OwnS.alloc ?_ _ | refine OwnS.drewN ?_ _ | refine OwnS.drew ?_); with_reducible exact HH.out)); (focus first | (go_simp; done) | (go_simp; rfl)); intro g1 w1 he hh; clear he; have HHx : Aside0 (OwnS (fun _ => False) [Sep.blk g1 (hoC told (.slice A l.length c)) 27] w w1) := ⟨hh⟩; clear HH; have HH := HHx; clear HHx; clear hh)
    | fail
    | fail)
  go_loopw [3] (fun vi W => ∃ (i : Nat), vi = .int .i64 (i : Int) ∧ i ≤ 16 ∧ Aside0 (∀ x ∈ told.take i, x ≤ 1000) ∧ Aside0 (OwnS (fun _ => False) [Sep.blk g1 (hoC told (.slice A l.length c)) 27] w W)) (fun vi _ => 16 - (intOf vi).toNat)
  case atStart => exact ⟨0, rfl, by omega, ⟨by simp⟩, HH⟩
  case round =>
    clear HH
    obtain ⟨i, rfl, hi, HA, HH⟩ := hrel
    by_cases hlt : i < 16
    · obtain ⟨p, hp⟩ : ∃ p, told.getD i 0 = p := ⟨_, rfl⟩
      have HP := Aside0.mk hp
      have hlt2 : i < told.length := by rw [HT.out.1]; exact hlt
      have fa : wr.cell? ⟨g1, i, none⟩ = some (.int .u16 p) := (by rw [← HP.out]; exact (blk_cell (OwnS.blk (S := fun _ => False) (w0 := w) (As := [Sep.blk g1 (hoC told (.slice A l.length c)) 27]) HH.out 0 rfl) i).trans (hoC_at _ _ i (by rw [HT.out.1]; exact hlt)))
      have q0 : 0 ≤ (i : Int) := by omega
      have q1 : (i : Int) < 16 := by omega
      by_cases hbig : 1000 < p
      · have hd : decide (1000 < p) = true := decide_eq_true hbig
        have HNO : Aside0 (rightH told l = false) := ⟨by
          unfold rightH
          have : told.all (fun n => decide (n ≤ 1000)) = false := by
            rw [List.all_eq_false]
            refine ⟨told[i], List.getElem_mem _, ?_⟩
            have e : told.getD i 0 = told[i] := by simp [List.getD_eq_getElem?_getD, hlt2]
            rw [← e, hp]
            simp
            omega
          rw [this]; rfl⟩
        clear hp hlt2
        go_wp2_with fail
        go_ret
        exact ⟨by rw [HNO.out]; rfl, below_frm (OwnS.frm HH.out)⟩
      · have hd : decide (1000 < p) = false := decide_eq_false hbig
        have HS : Aside0 (∀ x ∈ told.take (i + 1), x ≤ 1000) := ⟨all_take hlt2 HA.out (by rw [hp]; omega)⟩
        clear hp hlt2
        go_wp2_with fail
        go_roundw
        case rel => exact ⟨i + 1, by go_num, by omega, HS, HH⟩
        case measure => simp [intOf]; omega
    · have hi16 : i = 16 := by omega
      have HI16 := Aside0.mk hi16
      have hI : (i : Int) = 16 := by omega
      rw [hI]
      have HRT : Aside0 (rightH told l = (decide (l.length ≤ 64) && allOk told [] l)) := ⟨by
        unfold rightH
        have : told.all (fun n => decide (n ≤ 1000)) = true := by
          rw [List.all_eq_true]
          intro x hx
          have := HA.out
          rw [HI16.out, List.take_of_length_le (by rw [HT.out.1]; exact Nat.le_refl _)] at this
          exact decide_eq_true (this x hx)
        rw [this, Bool.true_and]⟩
      clear HA hi16 hI
      go_wp2_with fail
      go_loopw [4] (fun vi W => ∃ (i : Nat), vi = .int .i64 (i : Int) ∧ i ≤ l.length ∧ Aside0 (allOk told [] l = allOk told (l.take i) (l.drop i)) ∧ Aside0 (OwnS (fun _ => False) [Sep.blk g1 (hoC told (.slice A l.length c)) 27] w W)) (fun vi _ => l.length - (intOf vi).toNat)
      case atStart => exact ⟨0, rfl, by omega, ⟨allOk_start told l⟩, HH⟩
      case round =>
        clear HH
        obtain ⟨i, rfl, hi, HA, HH⟩ := hrel
        by_cases hlt : i < l.length
        · have HLT := Aside0.mk hlt
          obtain ⟨g0, o0, ea, hox, _⟩ := at_It HR.out i hlt
          subst ea
          obtain ⟨y, hy⟩ : ∃ y, l[i] = y := ⟨_, rfl⟩
          rw [hy] at hox
          have HOX := Aside0.mk hox
          have HY := Aside0.mk hy
          have HRX : Aside0 (∀ {W : World}, Below w.heap.size w W → W.rangeAt g0 (o0 + i * 20) (itC y).toList) := ⟨row_at (A := none) HR.out hlt hy⟩
          have q0 : 0 ≤ (i : Int) := by omega
          have q1 : (i : Int) < (l.length : Int) := by omega
          clear hox hy
          have q2 : (i : Int) ≤ (c : Int) := by omega
          have HTK : Aside0 ((l.take i).length = i) := ⟨by have := HLT.out; simp; omega⟩
          have HST : Aside0 (allOk told [] l = (oneOk told (l.take i) y && allOk told (l.take (i + 1)) (l.drop (i + 1)))) := ⟨by rw [HA.out, allOk_at told l i HLT.out, HY.out]⟩
          cases hm : rightI y with
          | false =>
            have HM := Aside0.mk hm
            have HNO : Aside0 (rightH told l = false) := ⟨by rw [HRT.out, HST.out]; unfold oneOk; rw [hm]; simp⟩
            clear hm
            go_wp2_with (first
          | ((with_reducible refine gate_ (.load 25 (.tmp 16)) rfl ?_); refine ev_cell (v := .slice (some ⟨g0, o0, none⟩) l.length c) ((blk_cell (OwnS.blk (S := fun _ => False) (w0 := w) (As := [Sep.blk g1 (hoC told (.slice (some ⟨g0, o0, none⟩) l.length c)) 27]) ?_ 0 rfl) 16).trans (hoC_last _ _ HT.out.1)) rfl rfl (by rfl) Try.underlying25 rfl ?_; (focus first | with_reducible exact HH.out | ((with_reducible repeat first | refine OwnS.alloc ?_ _ | refine OwnS.drewN ?_ _ | refine OwnS.drew ?_); with_reducible exact HH.out)))
          | ((with_reducible refine gate_ (.load 25 (.tmp 22)) rfl ?_); refine ev_cell (v := .slice (some ⟨g0, o0, none⟩) l.length c) ((blk_cell (OwnS.blk (S := fun _ => False) (w0 := w) (As := [Sep.blk g1 (hoC told (.slice (some ⟨g0, o0, none⟩) l.length c)) 27]) ?_ 0 rfl) 16).trans (hoC_last _ _ HT.out.1)) rfl rfl (by rfl) Try.underlying25 rfl ?_; (focus first | with_reducible exact HH.out | ((with_reducible repeat first | refine OwnS.alloc ?_ _ | refine OwnS.drewN ?_ _ | refine OwnS.drew ?_); with_reducible exact HH.out)))
          | ((with_reducible refine gate_ (.load 31 (.tmp 25)) rfl ?_); refine ev_loadR (b := g0) (p0 := o0 + i * 20) (n := 20) (cs := itC y) (HRX.out (below_frm (OwnS.frm (S := fun _ => False) (w0 := w) (As := [Sep.blk g1 (hoC told (.slice (some ⟨g0, o0, none⟩) l.length c)) 27]) ?_))) rfl rfl (by rfl) Try.underlying31 rfl (itC_size _ HOX.out.1.1) (by kernel_rfl) ?_; (focus first | with_reducible exact HH.out | ((with_reducible repeat first | refine OwnS.alloc ?_ _ | refine OwnS.drewN ?_ _ | refine OwnS.drew ?_); with_reducible exact HH.out)))
          | ((with_reducible refine gate_dst (N := 5) rfl ?_); refine evS_box (S := fun _ => False) (w0 := w) (As := [Sep.blk g1 (hoC told (.slice (some ⟨g0, o0, none⟩) l.length c)) 27]) ?_ rfl (cs := itC zI) (T := 31) ?_ ?_; (focus first | with_reducible exact HH.out | ((with_reducible repeat first | refine OwnS.alloc ?_ _ | refine OwnS.drewN ?_ _ | refine OwnS.drew ?_); with_reducible exact HH.out)); (focus first | (go_simp; done) | (go_simp; rfl)); intro g2 w21 he hh; clear he; have HHx : Aside0 (OwnS (fun _ => False) [Sep.blk g1 (hoC told (.slice (some ⟨g0, o0, none⟩) l.length c)) 27, Sep.blk g2 (itC zI) 31] w w21) := ⟨hh⟩; clear HH; have HH := HHx; clear HHx; clear hh)
          | ((with_reducible refine gate_ (.store 31 (.tmp 5) (.tmp 26)) rfl ?_); refine evS_storeA (S := fun _ => False) (w0 := w) (As := [Sep.blk g1 (hoC told (.slice (some ⟨g0, o0, none⟩) l.length c)) 27, Sep.blk g2 (itC zI) 31]) ?_ 1 rfl rfl rfl rfl (by rfl) (.agg (itC y)) (by rfl) (itC y) (by rfl) 20 20 (itC_size _ HOX.out.1.1) (itC_size _ zI_len) (by kernel_rfl) (by decide) (itC_one _) (itC y) (put_all _ _ (by rw [(itC_size _ HOX.out.1.1), (itC_size _ zI_len)])) ?_; (focus first | with_reducible exact HH.out | ((with_reducible repeat first | refine OwnS.alloc ?_ _ | refine OwnS.drewN ?_ _ | refine OwnS.drew ?_); with_reducible exact HH.out)); intro w22 hh; have HHx : Aside0 (OwnS (fun _ => False) [Sep.blk g1 (hoC told (.slice (some ⟨g0, o0, none⟩) l.length c)) 27, Sep.blk g2 (itC y) 31] w w22) := ⟨hh⟩; clear HH; have HH := HHx; clear HHx; clear hh)
          | fail
          | fail)
            have HKV : Aside0 (∀ w' : World, OwnS (fun _ => False) [Sep.blk g1 (hoC told (.slice (some ⟨g0, o0, none⟩) l.length c)) 27, Sep.blk g2 (itC y) 31] w w' → (w'.rangeAt g2 0 (itC y).toList)) := ⟨fun W h => range_blk (OwnS.blk (S := fun _ => False) (w0 := w) (As := [Sep.blk g1 (hoC told (.slice (some ⟨g0, o0, none⟩) l.length c)) 27, Sep.blk g2 (itC y) 31]) h 1 rfl)⟩
            refine wp_region_held_drew (S := fun w' => w'.rangeAt g2 0 (itC y).toList) (by kernel_rfl) ?_ (fun hHeld => ?_)
            focus (try dsimp only); (refine HKV.out _ ?_; (focus first | with_reducible exact HH.out | ((with_reducible repeat first | refine OwnS.alloc ?_ _ | refine OwnS.drewN ?_ _ | refine OwnS.drew ?_); with_reducible exact HH.out)))
            (try dsimp only at hHeld)
            refine tk (i := 0) (hy := yieldsIf_load_mid (by rfl) _ _ rfl _ _ rfl ((itC y).toList) _ ?_ Try.underlying31 rfl (by rw [Array.length_toList, (itC_size _ HOX.out.1.1)]; kernel_rfl)) (h := ?_); (focus (intro w hSw; (try dsimp only at hSw); go_split_ands; assumption)); (try simp only [Act.put, List.setIfInBounds_toArray, List.set_cons_zero, List.set_cons_succ])
            refine wpAnyH_ready (rs := [1]) (by kernel_rfl) (by simp) ?_
            refine AllReadyH.cons (by simp only [List.getElem?_toArray, List.getElem?_cons_succ, List.getElem?_cons_zero]; rfl) (fun K hK => ?_) AllReadyH.nil; go_simp; go_at_call 33; refine ownS_call (S := fun _ => False) (w0 := w) (As := [Sep.blk g1 (hoC told (.slice (some ⟨g0, o0, none⟩) l.length c)) 27, Sep.blk g2 (itC y) 31]) ?_ ?_; (focus first | with_reducible exact HH.out | ((with_reducible repeat first | refine OwnS.alloc ?_ _ | refine OwnS.drewN ?_ _ | refine OwnS.drew ?_); with_reducible exact HH.out)); intro ht; refine (rimay_calls _ y HOX.out).mono ?_; rintro e w61 ⟨rfl, hb⟩; rw [HM.out]; have HHx : Aside0 (OwnS (fun _ => False) [Sep.blk g1 (hoC told (.slice (some ⟨g0, o0, none⟩) l.length c)) 27, Sep.blk g2 (itC y) 31] w w61) := ⟨OwnS.step ht hb⟩; clear HH; have HH := HHx; clear HHx; clear hb; clear ht; refine hK.out _ _ ?_ (fun hHeld2 => ?_); (focus (try dsimp only); (refine HKV.out _ ?_; (focus first | with_reducible exact HH.out | ((with_reducible repeat first | refine OwnS.alloc ?_ _ | refine OwnS.drewN ?_ _ | refine OwnS.drew ?_); with_reducible exact HH.out)))); clear hK K hHeld; rename _ => hHeld; (try dsimp only at hHeld); (try simp only [Act.put, List.setIfInBounds_toArray, List.set_cons_zero, List.set_cons_succ])
            refine tk (i := 2) (v := .bool true) (hy := Or.inl ⟨by rfl, ?_⟩) (h := ?_); (focus (intro w hSw; (try dsimp only at hSw); go_simp; try with_reducible rfl)); (try simp only [Act.put, List.setIfInBounds_toArray, List.set_cons_zero, List.set_cons_succ])
            refine tk (i := 3) (v := .bool true) (hy := Or.inl ⟨by rfl, ?_⟩) (h := ?_); (focus (intro w hSw; (try dsimp only at hSw); go_simp; try with_reducible rfl)); (try simp only [Act.put, List.setIfInBounds_toArray, List.set_cons_zero, List.set_cons_succ])
            refine tk (i := 4) (v := undef) (hy := Or.inr ⟨by rfl, rfl⟩) (h := ?_); (try simp only [Act.put, List.setIfInBounds_toArray, List.set_cons_zero, List.set_cons_succ])
            refine tk (i := 5) (v := undef) (hy := Or.inr ⟨by rfl, rfl⟩) (h := ?_); (try simp only [Act.put, List.setIfInBounds_toArray, List.set_cons_zero, List.set_cons_succ])
            refine tk (i := 6) (v := undef) (hy := Or.inr ⟨by rfl, rfl⟩) (h := ?_); (try simp only [Act.put, List.setIfInBounds_toArray, List.set_cons_zero, List.set_cons_succ])
            refine tk (i := 7) (v := undef) (hy := Or.inr ⟨by rfl, rfl⟩) (h := ?_); (try simp only [Act.put, List.setIfInBounds_toArray, List.set_cons_zero, List.set_cons_succ])
            refine tk (i := 8) (v := undef) (hy := Or.inr ⟨by rfl, rfl⟩) (h := ?_); (try simp only [Act.put, List.setIfInBounds_toArray, List.set_cons_zero, List.set_cons_succ])
            refine tk (i := 9) (v := undef) (hy := Or.inr ⟨by rfl, rfl⟩) (h := ?_); (try simp only [Act.put, List.setIfInBounds_toArray, List.set_cons_zero, List.set_cons_succ])
            refine tk (i := 10) (v := undef) (hy := Or.inr ⟨by rfl, rfl⟩) (h := ?_); (try simp only [Act.put, List.setIfInBounds_toArray, List.set_cons_zero, List.set_cons_succ])
            refine tk (i := 11) (v := undef) (hy := Or.inr ⟨by rfl, rfl⟩) (h := ?_); (try simp only [Act.put, List.setIfInBounds_toArray, List.set_cons_zero, List.set_cons_succ])
            refine tk (i := 12) (v := undef) (hy := Or.inr ⟨by rfl, rfl⟩) (h := ?_); (try simp only [Act.put, List.setIfInBounds_toArray, List.set_cons_zero, List.set_cons_succ])
            refine tk (i := 13) (v := .bool true) (hy := Or.inl ⟨by rfl, ?_⟩) (h := ?_); (focus (intro w hSw; (try dsimp only at hSw); go_simp; try with_reducible rfl)); (try simp only [Act.put, List.setIfInBounds_toArray, List.set_cons_zero, List.set_cons_succ])
            refine tk (i := 14) (v := .bool true) (hy := Or.inl ⟨by rfl, ?_⟩) (h := ?_); (focus (intro w hSw; (try dsimp only at hSw); go_simp; try with_reducible rfl)); (try simp only [Act.put, List.setIfInBounds_toArray, List.set_cons_zero, List.set_cons_succ])
            refine tk (i := 15) (v := undef) (hy := Or.inr ⟨by rfl, rfl⟩) (h := ?_); (try simp only [Act.put, List.setIfInBounds_toArray, List.set_cons_zero, List.set_cons_succ])
            refine tk (i := 16) (v := undef) (hy := Or.inr ⟨by rfl, rfl⟩) (h := ?_); (try simp only [Act.put, List.setIfInBounds_toArray, List.set_cons_zero, List.set_cons_succ])
            refine tk (i := 17) (v := undef) (hy := Or.inr ⟨by rfl, rfl⟩) (h := ?_); (try simp only [Act.put, List.setIfInBounds_toArray, List.set_cons_zero, List.set_cons_succ])
            refine tk (i := 18) (v := undef) (hy := Or.inr ⟨by rfl, rfl⟩) (h := ?_); (try simp only [Act.put, List.setIfInBounds_toArray, List.set_cons_zero, List.set_cons_succ])
            refine tk (i := 19) (v := .bool true) (hy := Or.inl ⟨by rfl, ?_⟩) (h := ?_); (focus (intro w hSw; (try dsimp only at hSw); go_simp; try with_reducible rfl)); (try simp only [Act.put, List.setIfInBounds_toArray, List.set_cons_zero, List.set_cons_succ])
            refine tk (i := 20) (v := .bool true) (hy := Or.inl ⟨by rfl, ?_⟩) (h := ?_); (focus (intro w hSw; (try dsimp only at hSw); go_simp; try with_reducible rfl)); (try simp only [Act.put, List.setIfInBounds_toArray, List.set_cons_zero, List.set_cons_succ])
            refine tk (i := 21) (v := undef) (hy := Or.inr ⟨by rfl, rfl⟩) (h := ?_); (try simp only [Act.put, List.setIfInBounds_toArray, List.set_cons_zero, List.set_cons_succ])
            refine tk (i := 22) (v := undef) (hy := Or.inr ⟨by rfl, rfl⟩) (h := ?_); (try simp only [Act.put, List.setIfInBounds_toArray, List.set_cons_zero, List.set_cons_succ])
            refine tk (i := 23) (v := undef) (hy := Or.inr ⟨by rfl, rfl⟩) (h := ?_); (try simp only [Act.put, List.setIfInBounds_toArray, List.set_cons_zero, List.set_cons_succ])
            refine tk (i := 24) (v := undef) (hy := Or.inr ⟨by rfl, rfl⟩) (h := ?_); (try simp only [Act.put, List.setIfInBounds_toArray, List.set_cons_zero, List.set_cons_succ])
            refine tk (i := 25) (v := undef) (hy := Or.inr ⟨by rfl, rfl⟩) (h := ?_); (try simp only [Act.put, List.setIfInBounds_toArray, List.set_cons_zero, List.set_cons_succ])
            refine tk (i := 26) (v := undef) (hy := Or.inr ⟨by rfl, rfl⟩) (h := ?_); (try simp only [Act.put, List.setIfInBounds_toArray, List.set_cons_zero, List.set_cons_succ])
            refine tk (i := 27) (v := .bool true) (hy := Or.inl ⟨by rfl, ?_⟩) (h := ?_); (focus (intro w hSw; (try dsimp only at hSw); go_simp; try with_reducible rfl)); (try simp only [Act.put, List.setIfInBounds_toArray, List.set_cons_zero, List.set_cons_succ])
            refine wpAnyH_done (by kernel_rfl) ?_ _
            go_wp2_with fail
            go_ret
            exact ⟨by rw [HNO.out]; rfl, below_frm (OwnS.frm HH.out)⟩
          | true =>
            have HM := Aside0.mk hm
            have hf0 : 0 ≤ y.frm := HOX.out.2.1.1
            obtain ⟨f, hfx⟩ : ∃ f, y.frm = f := ⟨_, rfl⟩
            obtain ⟨q, hqx⟩ : ∃ q, y.seq = q := ⟨_, rfl⟩
            have HFX := Aside0.mk hfx
            have HQX := Aside0.mk hqx
            have hf16 := (right_frm HOX.out hm).2.2
            rw [hfx] at hf0 hf16
            have HF : Aside0 (f.toNat < 16) := ⟨by omega⟩
            obtain ⟨n, hn⟩ : ∃ n, told.getD f.toNat 0 = n := ⟨_, rfl⟩
            have hr := okV_at HT.out f.toNat HF.out
            rw [hn] at hr
            have HN := Aside0.mk hn
            have hw := wrap_u16 hr.1 hr.2
            have hnn : 0 ≤ n := hr.1
            have HOF : Aside0 (ofT told y = n) := ⟨by unfold ofT; rw [hfx, hn]⟩
            clear hn hr hfx hqx
            by_cases hlq : q < n
            · have hb1 : decide (q < n) = true := decide_eq_true hlq
              have HNO : Aside0 (rightH told l = false) := ⟨by rw [HRT.out, HST.out]; unfold oneOk; rw [HOF.out, HQX.out, hb1]; simp⟩
              clear hm
              go_wp2_with (first
          | ((with_reducible refine gate_ (.load 25 (.tmp 16)) rfl ?_); refine ev_cell (v := .slice (some ⟨g0, o0, none⟩) l.length c) ((blk_cell (OwnS.blk (S := fun _ => False) (w0 := w) (As := [Sep.blk g1 (hoC told (.slice (some ⟨g0, o0, none⟩) l.length c)) 27]) ?_ 0 rfl) 16).trans (hoC_last _ _ HT.out.1)) rfl rfl (by rfl) Try.underlying25 rfl ?_; (focus first | with_reducible exact HH.out | ((with_reducible repeat first | refine OwnS.alloc ?_ _ | refine OwnS.drewN ?_ _ | refine OwnS.drew ?_); with_reducible exact HH.out)))
          | ((with_reducible refine gate_ (.load 25 (.tmp 22)) rfl ?_); refine ev_cell (v := .slice (some ⟨g0, o0, none⟩) l.length c) ((blk_cell (OwnS.blk (S := fun _ => False) (w0 := w) (As := [Sep.blk g1 (hoC told (.slice (some ⟨g0, o0, none⟩) l.length c)) 27]) ?_ 0 rfl) 16).trans (hoC_last _ _ HT.out.1)) rfl rfl (by rfl) Try.underlying25 rfl ?_; (focus first | with_reducible exact HH.out | ((with_reducible repeat first | refine OwnS.alloc ?_ _ | refine OwnS.drewN ?_ _ | refine OwnS.drew ?_); with_reducible exact HH.out)))
          | ((with_reducible refine gate_ (.load 31 (.tmp 25)) rfl ?_); refine ev_loadR (b := g0) (p0 := o0 + i * 20) (n := 20) (cs := itC y) (HRX.out (below_frm (OwnS.frm (S := fun _ => False) (w0 := w) (As := [Sep.blk g1 (hoC told (.slice (some ⟨g0, o0, none⟩) l.length c)) 27]) ?_))) rfl rfl (by rfl) Try.underlying31 rfl (itC_size _ HOX.out.1.1) (by kernel_rfl) ?_; (focus first | with_reducible exact HH.out | ((with_reducible repeat first | refine OwnS.alloc ?_ _ | refine OwnS.drewN ?_ _ | refine OwnS.drew ?_); with_reducible exact HH.out)))
          | ((with_reducible refine gate_dst (N := 5) rfl ?_); refine evS_box (S := fun _ => False) (w0 := w) (As := [Sep.blk g1 (hoC told (.slice (some ⟨g0, o0, none⟩) l.length c)) 27]) ?_ rfl (cs := itC zI) (T := 31) ?_ ?_; (focus first | with_reducible exact HH.out | ((with_reducible repeat first | refine OwnS.alloc ?_ _ | refine OwnS.drewN ?_ _ | refine OwnS.drew ?_); with_reducible exact HH.out)); (focus first | (go_simp; done) | (go_simp; rfl)); intro g2 w21 he hh; clear he; have HHx : Aside0 (OwnS (fun _ => False) [Sep.blk g1 (hoC told (.slice (some ⟨g0, o0, none⟩) l.length c)) 27, Sep.blk g2 (itC zI) 31] w w21) := ⟨hh⟩; clear HH; have HH := HHx; clear HHx; clear hh)
          | ((with_reducible refine gate_ (.store 31 (.tmp 5) (.tmp 26)) rfl ?_); refine evS_storeA (S := fun _ => False) (w0 := w) (As := [Sep.blk g1 (hoC told (.slice (some ⟨g0, o0, none⟩) l.length c)) 27, Sep.blk g2 (itC zI) 31]) ?_ 1 rfl rfl rfl rfl (by rfl) (.agg (itC y)) (by rfl) (itC y) (by rfl) 20 20 (itC_size _ HOX.out.1.1) (itC_size _ zI_len) (by kernel_rfl) (by decide) (itC_one _) (itC y) (put_all _ _ (by rw [(itC_size _ HOX.out.1.1), (itC_size _ zI_len)])) ?_; (focus first | with_reducible exact HH.out | ((with_reducible repeat first | refine OwnS.alloc ?_ _ | refine OwnS.drewN ?_ _ | refine OwnS.drew ?_); with_reducible exact HH.out)); intro w22 hh; have HHx : Aside0 (OwnS (fun _ => False) [Sep.blk g1 (hoC told (.slice (some ⟨g0, o0, none⟩) l.length c)) 27, Sep.blk g2 (itC y) 31] w w22) := ⟨hh⟩; clear HH; have HH := HHx; clear HHx; clear hh)
          | fail
          | fail)
              have HKV : Aside0 (∀ w' : World, OwnS (fun _ => False) [Sep.blk g1 (hoC told (.slice (some ⟨g0, o0, none⟩) l.length c)) 27, Sep.blk g2 (itC y) 31] w w' → (w'.rangeAt g2 0 (itC y).toList ∧ w'.cell? ⟨g2, 0, none⟩ = some (.int .u8 f) ∧ w'.cell? ⟨g2, 1, none⟩ = some (.int .i64 q) ∧ w'.cell? ⟨g1, f.toNat, none⟩ = some (.int .u16 n))) := ⟨fun W h => ⟨range_blk (OwnS.blk (S := fun _ => False) (w0 := w) (As := [Sep.blk g1 (hoC told (.slice (some ⟨g0, o0, none⟩) l.length c)) 27, Sep.blk g2 (itC y) 31]) h 1 rfl), (by rw [← HFX.out]; exact blk_cell (OwnS.blk (S := fun _ => False) (w0 := w) (As := [Sep.blk g1 (hoC told (.slice (some ⟨g0, o0, none⟩) l.length c)) 27, Sep.blk g2 (itC y) 31]) h 1 rfl) 0), (by rw [← HQX.out]; exact blk_cell (OwnS.blk (S := fun _ => False) (w0 := w) (As := [Sep.blk g1 (hoC told (.slice (some ⟨g0, o0, none⟩) l.length c)) 27, Sep.blk g2 (itC y) 31]) h 1 rfl) 1), (by rw [← HN.out]; exact (blk_cell (OwnS.blk (S := fun _ => False) (w0 := w) (As := [Sep.blk g1 (hoC told (.slice (some ⟨g0, o0, none⟩) l.length c)) 27, Sep.blk g2 (itC y) 31]) h 0 rfl) f.toNat).trans (hoC_at _ _ f.toNat (by rw [HT.out.1]; exact HF.out)))⟩⟩
              refine wp_region_held_drew (S := fun w' => w'.rangeAt g2 0 (itC y).toList ∧ w'.cell? ⟨g2, 0, none⟩ = some (.int .u8 f) ∧ w'.cell? ⟨g2, 1, none⟩ = some (.int .i64 q) ∧ w'.cell? ⟨g1, f.toNat, none⟩ = some (.int .u16 n)) (by kernel_rfl) ?_ (fun hHeld => ?_)
              focus (try dsimp only); (refine HKV.out _ ?_; (focus first | with_reducible exact HH.out | ((with_reducible repeat first | refine OwnS.alloc ?_ _ | refine OwnS.drewN ?_ _ | refine OwnS.drew ?_); with_reducible exact HH.out)))
              (try dsimp only at hHeld)
              refine tk (i := 0) (hy := yieldsIf_load_mid (by rfl) _ _ rfl _ _ rfl ((itC y).toList) _ ?_ Try.underlying31 rfl (by rw [Array.length_toList, (itC_size _ HOX.out.1.1)]; kernel_rfl)) (h := ?_); (focus (intro w hSw; (try dsimp only at hSw); go_split_ands; assumption)); (try simp only [Act.put, List.setIfInBounds_toArray, List.set_cons_zero, List.set_cons_succ])
              refine wpAnyH_ready (rs := [1]) (by kernel_rfl) (by simp) ?_
              refine AllReadyH.cons (by simp only [List.getElem?_toArray, List.getElem?_cons_succ, List.getElem?_cons_zero]; rfl) (fun K hK => ?_) AllReadyH.nil; go_simp; go_at_call 33; refine ownS_call (S := fun _ => False) (w0 := w) (As := [Sep.blk g1 (hoC told (.slice (some ⟨g0, o0, none⟩) l.length c)) 27, Sep.blk g2 (itC y) 31]) ?_ ?_; (focus first | with_reducible exact HH.out | ((with_reducible repeat first | refine OwnS.alloc ?_ _ | refine OwnS.drewN ?_ _ | refine OwnS.drew ?_); with_reducible exact HH.out)); intro ht; refine (rimay_calls _ y HOX.out).mono ?_; rintro e w61 ⟨rfl, hb⟩; rw [HM.out]; have HHx : Aside0 (OwnS (fun _ => False) [Sep.blk g1 (hoC told (.slice (some ⟨g0, o0, none⟩) l.length c)) 27, Sep.blk g2 (itC y) 31] w w61) := ⟨OwnS.step ht hb⟩; clear HH; have HH := HHx; clear HHx; clear hb; clear ht; refine hK.out _ _ ?_ (fun hHeld2 => ?_); (focus (try dsimp only); (refine HKV.out _ ?_; (focus first | with_reducible exact HH.out | ((with_reducible repeat first | refine OwnS.alloc ?_ _ | refine OwnS.drewN ?_ _ | refine OwnS.drew ?_); with_reducible exact HH.out)))); clear hK K hHeld; rename _ => hHeld; (try dsimp only at hHeld); (try simp only [Act.put, List.setIfInBounds_toArray, List.set_cons_zero, List.set_cons_succ])
              refine tk (i := 2) (v := .bool false) (hy := Or.inl ⟨by rfl, ?_⟩) (h := ?_); (focus (intro w hSw; (try dsimp only at hSw); go_simp; try with_reducible rfl)); (try simp only [Act.put, List.setIfInBounds_toArray, List.set_cons_zero, List.set_cons_succ])
              refine tk (i := 3) (v := .bool false) (hy := Or.inl ⟨by rfl, ?_⟩) (h := ?_); (focus (intro w hSw; (try dsimp only at hSw); go_simp; try with_reducible rfl)); (try simp only [Act.put, List.setIfInBounds_toArray, List.set_cons_zero, List.set_cons_succ])
              refine tk (i := 4) (v := ?_) (hy := Or.inl ⟨by rfl, ?_⟩) (h := ?_); rotate_left; (focus (intro w hSw; (try dsimp only at hSw); go_simp; try with_reducible rfl)); (try simp only [Act.put, List.setIfInBounds_toArray, List.set_cons_zero, List.set_cons_succ])
              refine tk (i := 5) (v := .int .i64 q) (hy := Or.inl ⟨by rfl, ?_⟩) (h := ?_); (focus (intro w hSw; (try dsimp only at hSw); go_simp; try with_reducible rfl)); (try simp only [Act.put, List.setIfInBounds_toArray, List.set_cons_zero, List.set_cons_succ])
              refine tk (i := 6) (v := ?_) (hy := Or.inl ⟨by rfl, ?_⟩) (h := ?_); rotate_left; (focus (intro w hSw; (try dsimp only at hSw); go_simp; try with_reducible rfl)); (try simp only [Act.put, List.setIfInBounds_toArray, List.set_cons_zero, List.set_cons_succ])
              refine tk (i := 7) (v := .int .u8 f) (hy := Or.inl ⟨by rfl, ?_⟩) (h := ?_); (focus (intro w hSw; (try dsimp only at hSw); go_simp; try with_reducible rfl)); (try simp only [Act.put, List.setIfInBounds_toArray, List.set_cons_zero, List.set_cons_succ])
              refine tk (i := 8) (v := ?_) (hy := Or.inl ⟨by rfl, ?_⟩) (h := ?_); rotate_left; (focus (intro w hSw; (try dsimp only at hSw); go_simp; try with_reducible rfl)); (try simp only [Act.put, List.setIfInBounds_toArray, List.set_cons_zero, List.set_cons_succ])
              refine tk (i := 9) (v := ?_) (hy := Or.inl ⟨by rfl, ?_⟩) (h := ?_); rotate_left; (focus (intro w hSw; (try dsimp only at hSw); go_simp; try with_reducible rfl)); (try simp only [Act.put, List.setIfInBounds_toArray, List.set_cons_zero, List.set_cons_succ])
              refine tk (i := 10) (v := .int .u16 n) (hy := Or.inl ⟨by rfl, ?_⟩) (h := ?_); (focus (intro w hSw; (try dsimp only at hSw); go_simp; try with_reducible rfl)); (try simp only [Act.put, List.setIfInBounds_toArray, List.set_cons_zero, List.set_cons_succ])
              refine tk (i := 11) (v := .int .i64 n) (hy := Or.inl ⟨by rfl, ?_⟩) (h := ?_); (focus (intro w hSw; (try dsimp only at hSw); go_simp; try with_reducible rfl)); (try simp only [Act.put, List.setIfInBounds_toArray, List.set_cons_zero, List.set_cons_succ])
              refine tk (i := 12) (v := .bool true) (hy := Or.inl ⟨by rfl, ?_⟩) (h := ?_); (focus (intro w hSw; (try dsimp only at hSw); go_simp; try with_reducible rfl)); (try simp only [Act.put, List.setIfInBounds_toArray, List.set_cons_zero, List.set_cons_succ])
              refine tk (i := 13) (v := .bool true) (hy := Or.inl ⟨by rfl, ?_⟩) (h := ?_); (focus (intro w hSw; (try dsimp only at hSw); go_simp; try with_reducible rfl)); (try simp only [Act.put, List.setIfInBounds_toArray, List.set_cons_zero, List.set_cons_succ])
              refine tk (i := 14) (v := .bool true) (hy := Or.inl ⟨by rfl, ?_⟩) (h := ?_); (focus (intro w hSw; (try dsimp only at hSw); go_simp; try with_reducible rfl)); (try simp only [Act.put, List.setIfInBounds_toArray, List.set_cons_zero, List.set_cons_succ])
              refine tk (i := 15) (v := undef) (hy := Or.inr ⟨by rfl, rfl⟩) (h := ?_); (try simp only [Act.put, List.setIfInBounds_toArray, List.set_cons_zero, List.set_cons_succ])
              refine tk (i := 16) (v := undef) (hy := Or.inr ⟨by rfl, rfl⟩) (h := ?_); (try simp only [Act.put, List.setIfInBounds_toArray, List.set_cons_zero, List.set_cons_succ])
              refine tk (i := 17) (v := undef) (hy := Or.inr ⟨by rfl, rfl⟩) (h := ?_); (try simp only [Act.put, List.setIfInBounds_toArray, List.set_cons_zero, List.set_cons_succ])
              refine tk (i := 18) (v := undef) (hy := Or.inr ⟨by rfl, rfl⟩) (h := ?_); (try simp only [Act.put, List.setIfInBounds_toArray, List.set_cons_zero, List.set_cons_succ])
              refine tk (i := 19) (v := .bool true) (hy := Or.inl ⟨by rfl, ?_⟩) (h := ?_); (focus (intro w hSw; (try dsimp only at hSw); go_simp; try with_reducible rfl)); (try simp only [Act.put, List.setIfInBounds_toArray, List.set_cons_zero, List.set_cons_succ])
              refine tk (i := 20) (v := .bool true) (hy := Or.inl ⟨by rfl, ?_⟩) (h := ?_); (focus (intro w hSw; (try dsimp only at hSw); go_simp; try with_reducible rfl)); (try simp only [Act.put, List.setIfInBounds_toArray, List.set_cons_zero, List.set_cons_succ])
              refine tk (i := 21) (v := undef) (hy := Or.inr ⟨by rfl, rfl⟩) (h := ?_); (try simp only [Act.put, List.setIfInBounds_toArray, List.set_cons_zero, List.set_cons_succ])
              refine tk (i := 22) (v := undef) (hy := Or.inr ⟨by rfl, rfl⟩) (h := ?_); (try simp only [Act.put, List.setIfInBounds_toArray, List.set_cons_zero, List.set_cons_succ])
              refine tk (i := 23) (v := undef) (hy := Or.inr ⟨by rfl, rfl⟩) (h := ?_); (try simp only [Act.put, List.setIfInBounds_toArray, List.set_cons_zero, List.set_cons_succ])
              refine tk (i := 24) (v := undef) (hy := Or.inr ⟨by rfl, rfl⟩) (h := ?_); (try simp only [Act.put, List.setIfInBounds_toArray, List.set_cons_zero, List.set_cons_succ])
              refine tk (i := 25) (v := undef) (hy := Or.inr ⟨by rfl, rfl⟩) (h := ?_); (try simp only [Act.put, List.setIfInBounds_toArray, List.set_cons_zero, List.set_cons_succ])
              refine tk (i := 26) (v := undef) (hy := Or.inr ⟨by rfl, rfl⟩) (h := ?_); (try simp only [Act.put, List.setIfInBounds_toArray, List.set_cons_zero, List.set_cons_succ])
              refine tk (i := 27) (v := .bool true) (hy := Or.inl ⟨by rfl, ?_⟩) (h := ?_); (focus (intro w hSw; (try dsimp only at hSw); go_simp; try with_reducible rfl)); (try simp only [Act.put, List.setIfInBounds_toArray, List.set_cons_zero, List.set_cons_succ])
              refine wpAnyH_done (by kernel_rfl) ?_ _
              go_wp2_with fail
              go_ret
              exact ⟨by rw [HNO.out]; rfl, below_frm (OwnS.frm HH.out)⟩
            · have hb1 : decide (q < n) = false := decide_eq_false hlq
              cases hrd : readyB told y with
              | true =>
                have HRD := Aside0.mk hrd
                have HNO : Aside0 (rightH told l = false) := ⟨by rw [HRT.out, HST.out]; unfold oneOk; rw [hrd]; simp⟩
                clear hm hrd
                go_wp2_with (first
          | ((with_reducible refine gate_ (.load 25 (.tmp 16)) rfl ?_); refine ev_cell (v := .slice (some ⟨g0, o0, none⟩) l.length c) ((blk_cell (OwnS.blk (S := fun _ => False) (w0 := w) (As := [Sep.blk g1 (hoC told (.slice (some ⟨g0, o0, none⟩) l.length c)) 27]) ?_ 0 rfl) 16).trans (hoC_last _ _ HT.out.1)) rfl rfl (by rfl) Try.underlying25 rfl ?_; (focus first | with_reducible exact HH.out | ((with_reducible repeat first | refine OwnS.alloc ?_ _ | refine OwnS.drewN ?_ _ | refine OwnS.drew ?_); with_reducible exact HH.out)))
          | ((with_reducible refine gate_ (.load 25 (.tmp 22)) rfl ?_); refine ev_cell (v := .slice (some ⟨g0, o0, none⟩) l.length c) ((blk_cell (OwnS.blk (S := fun _ => False) (w0 := w) (As := [Sep.blk g1 (hoC told (.slice (some ⟨g0, o0, none⟩) l.length c)) 27]) ?_ 0 rfl) 16).trans (hoC_last _ _ HT.out.1)) rfl rfl (by rfl) Try.underlying25 rfl ?_; (focus first | with_reducible exact HH.out | ((with_reducible repeat first | refine OwnS.alloc ?_ _ | refine OwnS.drewN ?_ _ | refine OwnS.drew ?_); with_reducible exact HH.out)))
          | ((with_reducible refine gate_ (.load 31 (.tmp 25)) rfl ?_); refine ev_loadR (b := g0) (p0 := o0 + i * 20) (n := 20) (cs := itC y) (HRX.out (below_frm (OwnS.frm (S := fun _ => False) (w0 := w) (As := [Sep.blk g1 (hoC told (.slice (some ⟨g0, o0, none⟩) l.length c)) 27]) ?_))) rfl rfl (by rfl) Try.underlying31 rfl (itC_size _ HOX.out.1.1) (by kernel_rfl) ?_; (focus first | with_reducible exact HH.out | ((with_reducible repeat first | refine OwnS.alloc ?_ _ | refine OwnS.drewN ?_ _ | refine OwnS.drew ?_); with_reducible exact HH.out)))
          | ((with_reducible refine gate_dst (N := 5) rfl ?_); refine evS_box (S := fun _ => False) (w0 := w) (As := [Sep.blk g1 (hoC told (.slice (some ⟨g0, o0, none⟩) l.length c)) 27]) ?_ rfl (cs := itC zI) (T := 31) ?_ ?_; (focus first | with_reducible exact HH.out | ((with_reducible repeat first | refine OwnS.alloc ?_ _ | refine OwnS.drewN ?_ _ | refine OwnS.drew ?_); with_reducible exact HH.out)); (focus first | (go_simp; done) | (go_simp; rfl)); intro g2 w21 he hh; clear he; have HHx : Aside0 (OwnS (fun _ => False) [Sep.blk g1 (hoC told (.slice (some ⟨g0, o0, none⟩) l.length c)) 27, Sep.blk g2 (itC zI) 31] w w21) := ⟨hh⟩; clear HH; have HH := HHx; clear HHx; clear hh)
          | ((with_reducible refine gate_ (.store 31 (.tmp 5) (.tmp 26)) rfl ?_); refine evS_storeA (S := fun _ => False) (w0 := w) (As := [Sep.blk g1 (hoC told (.slice (some ⟨g0, o0, none⟩) l.length c)) 27, Sep.blk g2 (itC zI) 31]) ?_ 1 rfl rfl rfl rfl (by rfl) (.agg (itC y)) (by rfl) (itC y) (by rfl) 20 20 (itC_size _ HOX.out.1.1) (itC_size _ zI_len) (by kernel_rfl) (by decide) (itC_one _) (itC y) (put_all _ _ (by rw [(itC_size _ HOX.out.1.1), (itC_size _ zI_len)])) ?_; (focus first | with_reducible exact HH.out | ((with_reducible repeat first | refine OwnS.alloc ?_ _ | refine OwnS.drewN ?_ _ | refine OwnS.drew ?_); with_reducible exact HH.out)); intro w22 hh; have HHx : Aside0 (OwnS (fun _ => False) [Sep.blk g1 (hoC told (.slice (some ⟨g0, o0, none⟩) l.length c)) 27, Sep.blk g2 (itC y) 31] w w22) := ⟨hh⟩; clear HH; have HH := HHx; clear HHx; clear hh)
          | fail
          | fail)
                have HKV : Aside0 (∀ w' : World, OwnS (fun _ => False) [Sep.blk g1 (hoC told (.slice (some ⟨g0, o0, none⟩) l.length c)) 27, Sep.blk g2 (itC y) 31] w w' → (w'.rangeAt g2 0 (itC y).toList ∧ w'.cell? ⟨g2, 0, none⟩ = some (.int .u8 f) ∧ w'.cell? ⟨g2, 1, none⟩ = some (.int .i64 q) ∧ w'.cell? ⟨g1, f.toNat, none⟩ = some (.int .u16 n) ∧ w'.rangeAt g1 0 (nums .u16 told) ∧ w'.cell? ⟨g1, 16, none⟩ = some (.slice (some ⟨g0, o0, none⟩) l.length c))) := ⟨fun W h => ⟨range_blk (OwnS.blk (S := fun _ => False) (w0 := w) (As := [Sep.blk g1 (hoC told (.slice (some ⟨g0, o0, none⟩) l.length c)) 27, Sep.blk g2 (itC y) 31]) h 1 rfl), (by rw [← HFX.out]; exact blk_cell (OwnS.blk (S := fun _ => False) (w0 := w) (As := [Sep.blk g1 (hoC told (.slice (some ⟨g0, o0, none⟩) l.length c)) 27, Sep.blk g2 (itC y) 31]) h 1 rfl) 0), (by rw [← HQX.out]; exact blk_cell (OwnS.blk (S := fun _ => False) (w0 := w) (As := [Sep.blk g1 (hoC told (.slice (some ⟨g0, o0, none⟩) l.length c)) 27, Sep.blk g2 (itC y) 31]) h 1 rfl) 1), (by rw [← HN.out]; exact (blk_cell (OwnS.blk (S := fun _ => False) (w0 := w) (As := [Sep.blk g1 (hoC told (.slice (some ⟨g0, o0, none⟩) l.length c)) 27, Sep.blk g2 (itC y) 31]) h 0 rfl) f.toNat).trans (hoC_at _ _ f.toNat (by rw [HT.out.1]; exact HF.out))), range_hov HT.out.1 (OwnS.blk (S := fun _ => False) (w0 := w) (As := [Sep.blk g1 (hoC told (.slice (some ⟨g0, o0, none⟩) l.length c)) 27, Sep.blk g2 (itC y) 31]) h 0 rfl), (blk_cell (OwnS.blk (S := fun _ => False) (w0 := w) (As := [Sep.blk g1 (hoC told (.slice (some ⟨g0, o0, none⟩) l.length c)) 27, Sep.blk g2 (itC y) 31]) h 0 rfl) 16).trans (hoC_last _ _ HT.out.1)⟩⟩
                refine wp_region_held_drew (S := fun w' => w'.rangeAt g2 0 (itC y).toList ∧ w'.cell? ⟨g2, 0, none⟩ = some (.int .u8 f) ∧ w'.cell? ⟨g2, 1, none⟩ = some (.int .i64 q) ∧ w'.cell? ⟨g1, f.toNat, none⟩ = some (.int .u16 n) ∧ w'.rangeAt g1 0 (nums .u16 told) ∧ w'.cell? ⟨g1, 16, none⟩ = some (.slice (some ⟨g0, o0, none⟩) l.length c)) (by kernel_rfl) ?_ (fun hHeld => ?_)
                focus (try dsimp only); (refine HKV.out _ ?_; (focus first | with_reducible exact HH.out | ((with_reducible repeat first | refine OwnS.alloc ?_ _ | refine OwnS.drewN ?_ _ | refine OwnS.drew ?_); with_reducible exact HH.out)))
                (try dsimp only at hHeld)
                refine tk (i := 0) (hy := yieldsIf_load_mid (by rfl) _ _ rfl _ _ rfl ((itC y).toList) _ ?_ Try.underlying31 rfl (by rw [Array.length_toList, (itC_size _ HOX.out.1.1)]; kernel_rfl)) (h := ?_); (focus (intro w hSw; (try dsimp only at hSw); go_split_ands; assumption)); (try simp only [Act.put, List.setIfInBounds_toArray, List.set_cons_zero, List.set_cons_succ])
                refine wpAnyH_ready (rs := [1]) (by kernel_rfl) (by simp) ?_
                refine AllReadyH.cons (by simp only [List.getElem?_toArray, List.getElem?_cons_succ, List.getElem?_cons_zero]; rfl) (fun K hK => ?_) AllReadyH.nil; go_simp; go_at_call 33; refine ownS_call (S := fun _ => False) (w0 := w) (As := [Sep.blk g1 (hoC told (.slice (some ⟨g0, o0, none⟩) l.length c)) 27, Sep.blk g2 (itC y) 31]) ?_ ?_; (focus first | with_reducible exact HH.out | ((with_reducible repeat first | refine OwnS.alloc ?_ _ | refine OwnS.drewN ?_ _ | refine OwnS.drew ?_); with_reducible exact HH.out)); intro ht; refine (rimay_calls _ y HOX.out).mono ?_; rintro e w61 ⟨rfl, hb⟩; rw [HM.out]; have HHx : Aside0 (OwnS (fun _ => False) [Sep.blk g1 (hoC told (.slice (some ⟨g0, o0, none⟩) l.length c)) 27, Sep.blk g2 (itC y) 31] w w61) := ⟨OwnS.step ht hb⟩; clear HH; have HH := HHx; clear HHx; clear hb; clear ht; refine hK.out _ _ ?_ (fun hHeld2 => ?_); (focus (try dsimp only); (refine HKV.out _ ?_; (focus first | with_reducible exact HH.out | ((with_reducible repeat first | refine OwnS.alloc ?_ _ | refine OwnS.drewN ?_ _ | refine OwnS.drew ?_); with_reducible exact HH.out)))); clear hK K hHeld; rename _ => hHeld; (try dsimp only at hHeld); (try simp only [Act.put, List.setIfInBounds_toArray, List.set_cons_zero, List.set_cons_succ])
                refine tk (i := 2) (v := .bool false) (hy := Or.inl ⟨by rfl, ?_⟩) (h := ?_); (focus (intro w hSw; (try dsimp only at hSw); go_simp; try with_reducible rfl)); (try simp only [Act.put, List.setIfInBounds_toArray, List.set_cons_zero, List.set_cons_succ])
                refine tk (i := 3) (v := .bool false) (hy := Or.inl ⟨by rfl, ?_⟩) (h := ?_); (focus (intro w hSw; (try dsimp only at hSw); go_simp; try with_reducible rfl)); (try simp only [Act.put, List.setIfInBounds_toArray, List.set_cons_zero, List.set_cons_succ])
                refine tk (i := 4) (v := ?_) (hy := Or.inl ⟨by rfl, ?_⟩) (h := ?_); rotate_left; (focus (intro w hSw; (try dsimp only at hSw); go_simp; try with_reducible rfl)); (try simp only [Act.put, List.setIfInBounds_toArray, List.set_cons_zero, List.set_cons_succ])
                refine tk (i := 5) (v := .int .i64 q) (hy := Or.inl ⟨by rfl, ?_⟩) (h := ?_); (focus (intro w hSw; (try dsimp only at hSw); go_simp; try with_reducible rfl)); (try simp only [Act.put, List.setIfInBounds_toArray, List.set_cons_zero, List.set_cons_succ])
                refine tk (i := 6) (v := ?_) (hy := Or.inl ⟨by rfl, ?_⟩) (h := ?_); rotate_left; (focus (intro w hSw; (try dsimp only at hSw); go_simp; try with_reducible rfl)); (try simp only [Act.put, List.setIfInBounds_toArray, List.set_cons_zero, List.set_cons_succ])
                refine tk (i := 7) (v := .int .u8 f) (hy := Or.inl ⟨by rfl, ?_⟩) (h := ?_); (focus (intro w hSw; (try dsimp only at hSw); go_simp; try with_reducible rfl)); (try simp only [Act.put, List.setIfInBounds_toArray, List.set_cons_zero, List.set_cons_succ])
                refine tk (i := 8) (v := ?_) (hy := Or.inl ⟨by rfl, ?_⟩) (h := ?_); rotate_left; (focus (intro w hSw; (try dsimp only at hSw); go_simp; try with_reducible rfl)); (try simp only [Act.put, List.setIfInBounds_toArray, List.set_cons_zero, List.set_cons_succ])
                refine tk (i := 9) (v := ?_) (hy := Or.inl ⟨by rfl, ?_⟩) (h := ?_); rotate_left; (focus (intro w hSw; (try dsimp only at hSw); go_simp; try with_reducible rfl)); (try simp only [Act.put, List.setIfInBounds_toArray, List.set_cons_zero, List.set_cons_succ])
                refine tk (i := 10) (v := .int .u16 n) (hy := Or.inl ⟨by rfl, ?_⟩) (h := ?_); (focus (intro w hSw; (try dsimp only at hSw); go_simp; try with_reducible rfl)); (try simp only [Act.put, List.setIfInBounds_toArray, List.set_cons_zero, List.set_cons_succ])
                refine tk (i := 11) (v := .int .i64 n) (hy := Or.inl ⟨by rfl, ?_⟩) (h := ?_); (focus (intro w hSw; (try dsimp only at hSw); go_simp; try with_reducible rfl)); (try simp only [Act.put, List.setIfInBounds_toArray, List.set_cons_zero, List.set_cons_succ])
                refine tk (i := 12) (v := .bool false) (hy := Or.inl ⟨by rfl, ?_⟩) (h := ?_); (focus (intro w hSw; (try dsimp only at hSw); go_simp; try with_reducible rfl)); (try simp only [Act.put, List.setIfInBounds_toArray, List.set_cons_zero, List.set_cons_succ])
                refine tk (i := 13) (v := .bool false) (hy := Or.inl ⟨by rfl, ?_⟩) (h := ?_); (focus (intro w hSw; (try dsimp only at hSw); go_simp; try with_reducible rfl)); (try simp only [Act.put, List.setIfInBounds_toArray, List.set_cons_zero, List.set_cons_succ])
                refine tk (i := 14) (v := .bool false) (hy := Or.inl ⟨by rfl, ?_⟩) (h := ?_); (focus (intro w hSw; (try dsimp only at hSw); go_simp; try with_reducible rfl)); (try simp only [Act.put, List.setIfInBounds_toArray, List.set_cons_zero, List.set_cons_succ])
                refine tk (i := 15) (v := ?_) (hy := Or.inl ⟨by rfl, ?_⟩) (h := ?_); rotate_left; (focus (intro w hSw; (try dsimp only at hSw); go_simp; try with_reducible rfl)); (try simp only [Act.put, List.setIfInBounds_toArray, List.set_cons_zero, List.set_cons_succ])
                refine tk (i := 16) (hy := yieldsIf_load_mid (by rfl) _ _ rfl _ _ rfl (nums .u16 told) _ ?_ Try.underlying24 rfl (infoV HT.out.1)) (h := ?_); (focus (intro w hSw; (try dsimp only at hSw); go_split_ands; assumption)); (try simp only [Act.put, List.setIfInBounds_toArray, List.set_cons_zero, List.set_cons_succ])
                refine tk (i := 17) (hy := yieldsIf_load_mid (by rfl) _ _ rfl _ _ rfl ((itC y).toList) _ ?_ Try.underlying31 rfl (by rw [Array.length_toList, (itC_size _ HOX.out.1.1)]; kernel_rfl)) (h := ?_); (focus (intro w hSw; (try dsimp only at hSw); go_split_ands; assumption)); (try simp only [Act.put, List.setIfInBounds_toArray, List.set_cons_zero, List.set_cons_succ])
                refine wpAnyH_ready (rs := [18]) (by kernel_rfl) (by simp) ?_
                refine AllReadyH.cons (by simp only [List.getElem?_toArray, List.getElem?_cons_succ, List.getElem?_cons_zero]; rfl) (fun K hK => ?_) AllReadyH.nil; go_simp; go_at_call 16; refine ownS_call (S := fun _ => False) (w0 := w) (As := [Sep.blk g1 (hoC told (.slice (some ⟨g0, o0, none⟩) l.length c)) 27, Sep.blk g2 (itC y) 31]) ?_ ?_; (focus first | with_reducible exact HH.out | ((with_reducible repeat first | refine OwnS.alloc ?_ _ | refine OwnS.drewN ?_ _ | refine OwnS.drew ?_); with_reducible exact HH.out)); intro ht; refine (rready_calls _ told y HT.out HOX.out).mono ?_; rintro e w62 ⟨rfl, hb⟩; rw [HRD.out]; have HHx : Aside0 (OwnS (fun _ => False) [Sep.blk g1 (hoC told (.slice (some ⟨g0, o0, none⟩) l.length c)) 27, Sep.blk g2 (itC y) 31] w w62) := ⟨OwnS.step ht hb⟩; clear HH; have HH := HHx; clear HHx; clear hb; clear ht; refine hK.out _ _ ?_ (fun hHeld2 => ?_); (focus (try dsimp only); (refine HKV.out _ ?_; (focus first | with_reducible exact HH.out | ((with_reducible repeat first | refine OwnS.alloc ?_ _ | refine OwnS.drewN ?_ _ | refine OwnS.drew ?_); with_reducible exact HH.out)))); clear hK K hHeld; rename _ => hHeld; (try dsimp only at hHeld); (try simp only [Act.put, List.setIfInBounds_toArray, List.set_cons_zero, List.set_cons_succ])
                refine tk (i := 19) (v := .bool true) (hy := Or.inl ⟨by rfl, ?_⟩) (h := ?_); (focus (intro w hSw; (try dsimp only at hSw); go_simp; try with_reducible rfl)); (try simp only [Act.put, List.setIfInBounds_toArray, List.set_cons_zero, List.set_cons_succ])
                refine tk (i := 20) (v := .bool true) (hy := Or.inl ⟨by rfl, ?_⟩) (h := ?_); (focus (intro w hSw; (try dsimp only at hSw); go_simp; try with_reducible rfl)); (try simp only [Act.put, List.setIfInBounds_toArray, List.set_cons_zero, List.set_cons_succ])
                refine tk (i := 21) (v := undef) (hy := Or.inr ⟨by rfl, rfl⟩) (h := ?_); (try simp only [Act.put, List.setIfInBounds_toArray, List.set_cons_zero, List.set_cons_succ])
                refine tk (i := 22) (v := undef) (hy := Or.inr ⟨by rfl, rfl⟩) (h := ?_); (try simp only [Act.put, List.setIfInBounds_toArray, List.set_cons_zero, List.set_cons_succ])
                refine tk (i := 23) (v := undef) (hy := Or.inr ⟨by rfl, rfl⟩) (h := ?_); (try simp only [Act.put, List.setIfInBounds_toArray, List.set_cons_zero, List.set_cons_succ])
                refine tk (i := 24) (v := undef) (hy := Or.inr ⟨by rfl, rfl⟩) (h := ?_); (try simp only [Act.put, List.setIfInBounds_toArray, List.set_cons_zero, List.set_cons_succ])
                refine tk (i := 25) (v := undef) (hy := Or.inr ⟨by rfl, rfl⟩) (h := ?_); (try simp only [Act.put, List.setIfInBounds_toArray, List.set_cons_zero, List.set_cons_succ])
                refine tk (i := 26) (v := undef) (hy := Or.inr ⟨by rfl, rfl⟩) (h := ?_); (try simp only [Act.put, List.setIfInBounds_toArray, List.set_cons_zero, List.set_cons_succ])
                refine tk (i := 27) (v := .bool true) (hy := Or.inl ⟨by rfl, ?_⟩) (h := ?_); (focus (intro w hSw; (try dsimp only at hSw); go_simp; try with_reducible rfl)); (try simp only [Act.put, List.setIfInBounds_toArray, List.set_cons_zero, List.set_cons_succ])
                refine wpAnyH_done (by kernel_rfl) ?_ _
                go_wp2_with fail
                go_ret
                exact ⟨by rw [HNO.out]; rfl, below_frm (OwnS.frm HH.out)⟩
              | false =>
                have HRD := Aside0.mk hrd
                cases his : isIn (l.take i) y with
                | true =>
                  have HIS := Aside0.mk his
                  have HNO : Aside0 (rightH told l = false) := ⟨by rw [HRT.out, HST.out]; unfold oneOk; rw [his]; simp⟩
                  clear hm hrd his
                  go_wp2_with (first
          | ((with_reducible refine gate_ (.load 25 (.tmp 16)) rfl ?_); refine ev_cell (v := .slice (some ⟨g0, o0, none⟩) l.length c) ((blk_cell (OwnS.blk (S := fun _ => False) (w0 := w) (As := [Sep.blk g1 (hoC told (.slice (some ⟨g0, o0, none⟩) l.length c)) 27]) ?_ 0 rfl) 16).trans (hoC_last _ _ HT.out.1)) rfl rfl (by rfl) Try.underlying25 rfl ?_; (focus first | with_reducible exact HH.out | ((with_reducible repeat first | refine OwnS.alloc ?_ _ | refine OwnS.drewN ?_ _ | refine OwnS.drew ?_); with_reducible exact HH.out)))
          | ((with_reducible refine gate_ (.load 25 (.tmp 22)) rfl ?_); refine ev_cell (v := .slice (some ⟨g0, o0, none⟩) l.length c) ((blk_cell (OwnS.blk (S := fun _ => False) (w0 := w) (As := [Sep.blk g1 (hoC told (.slice (some ⟨g0, o0, none⟩) l.length c)) 27]) ?_ 0 rfl) 16).trans (hoC_last _ _ HT.out.1)) rfl rfl (by rfl) Try.underlying25 rfl ?_; (focus first | with_reducible exact HH.out | ((with_reducible repeat first | refine OwnS.alloc ?_ _ | refine OwnS.drewN ?_ _ | refine OwnS.drew ?_); with_reducible exact HH.out)))
          | ((with_reducible refine gate_ (.load 31 (.tmp 25)) rfl ?_); refine ev_loadR (b := g0) (p0 := o0 + i * 20) (n := 20) (cs := itC y) (HRX.out (below_frm (OwnS.frm (S := fun _ => False) (w0 := w) (As := [Sep.blk g1 (hoC told (.slice (some ⟨g0, o0, none⟩) l.length c)) 27]) ?_))) rfl rfl (by rfl) Try.underlying31 rfl (itC_size _ HOX.out.1.1) (by kernel_rfl) ?_; (focus first | with_reducible exact HH.out | ((with_reducible repeat first | refine OwnS.alloc ?_ _ | refine OwnS.drewN ?_ _ | refine OwnS.drew ?_); with_reducible exact HH.out)))
          | ((with_reducible refine gate_dst (N := 5) rfl ?_); refine evS_box (S := fun _ => False) (w0 := w) (As := [Sep.blk g1 (hoC told (.slice (some ⟨g0, o0, none⟩) l.length c)) 27]) ?_ rfl (cs := itC zI) (T := 31) ?_ ?_; (focus first | with_reducible exact HH.out | ((with_reducible repeat first | refine OwnS.alloc ?_ _ | refine OwnS.drewN ?_ _ | refine OwnS.drew ?_); with_reducible exact HH.out)); (focus first | (go_simp; done) | (go_simp; rfl)); intro g2 w21 he hh; clear he; have HHx : Aside0 (OwnS (fun _ => False) [Sep.blk g1 (hoC told (.slice (some ⟨g0, o0, none⟩) l.length c)) 27, Sep.blk g2 (itC zI) 31] w w21) := ⟨hh⟩; clear HH; have HH := HHx; clear HHx; clear hh)
          | ((with_reducible refine gate_ (.store 31 (.tmp 5) (.tmp 26)) rfl ?_); refine evS_storeA (S := fun _ => False) (w0 := w) (As := [Sep.blk g1 (hoC told (.slice (some ⟨g0, o0, none⟩) l.length c)) 27, Sep.blk g2 (itC zI) 31]) ?_ 1 rfl rfl rfl rfl (by rfl) (.agg (itC y)) (by rfl) (itC y) (by rfl) 20 20 (itC_size _ HOX.out.1.1) (itC_size _ zI_len) (by kernel_rfl) (by decide) (itC_one _) (itC y) (put_all _ _ (by rw [(itC_size _ HOX.out.1.1), (itC_size _ zI_len)])) ?_; (focus first | with_reducible exact HH.out | ((with_reducible repeat first | refine OwnS.alloc ?_ _ | refine OwnS.drewN ?_ _ | refine OwnS.drew ?_); with_reducible exact HH.out)); intro w22 hh; have HHx : Aside0 (OwnS (fun _ => False) [Sep.blk g1 (hoC told (.slice (some ⟨g0, o0, none⟩) l.length c)) 27, Sep.blk g2 (itC y) 31] w w22) := ⟨hh⟩; clear HH; have HH := HHx; clear HHx; clear hh)
          | fail
          | fail)
                  have HKV : Aside0 (∀ w' : World, OwnS (fun _ => False) [Sep.blk g1 (hoC told (.slice (some ⟨g0, o0, none⟩) l.length c)) 27, Sep.blk g2 (itC y) 31] w w' → (w'.rangeAt g2 0 (itC y).toList ∧ w'.cell? ⟨g2, 0, none⟩ = some (.int .u8 f) ∧ w'.cell? ⟨g2, 1, none⟩ = some (.int .i64 q) ∧ w'.cell? ⟨g1, f.toNat, none⟩ = some (.int .u16 n) ∧ w'.rangeAt g1 0 (nums .u16 told) ∧ w'.cell? ⟨g1, 16, none⟩ = some (.slice (some ⟨g0, o0, none⟩) l.length c))) := ⟨fun W h => ⟨range_blk (OwnS.blk (S := fun _ => False) (w0 := w) (As := [Sep.blk g1 (hoC told (.slice (some ⟨g0, o0, none⟩) l.length c)) 27, Sep.blk g2 (itC y) 31]) h 1 rfl), (by rw [← HFX.out]; exact blk_cell (OwnS.blk (S := fun _ => False) (w0 := w) (As := [Sep.blk g1 (hoC told (.slice (some ⟨g0, o0, none⟩) l.length c)) 27, Sep.blk g2 (itC y) 31]) h 1 rfl) 0), (by rw [← HQX.out]; exact blk_cell (OwnS.blk (S := fun _ => False) (w0 := w) (As := [Sep.blk g1 (hoC told (.slice (some ⟨g0, o0, none⟩) l.length c)) 27, Sep.blk g2 (itC y) 31]) h 1 rfl) 1), (by rw [← HN.out]; exact (blk_cell (OwnS.blk (S := fun _ => False) (w0 := w) (As := [Sep.blk g1 (hoC told (.slice (some ⟨g0, o0, none⟩) l.length c)) 27, Sep.blk g2 (itC y) 31]) h 0 rfl) f.toNat).trans (hoC_at _ _ f.toNat (by rw [HT.out.1]; exact HF.out))), range_hov HT.out.1 (OwnS.blk (S := fun _ => False) (w0 := w) (As := [Sep.blk g1 (hoC told (.slice (some ⟨g0, o0, none⟩) l.length c)) 27, Sep.blk g2 (itC y) 31]) h 0 rfl), (blk_cell (OwnS.blk (S := fun _ => False) (w0 := w) (As := [Sep.blk g1 (hoC told (.slice (some ⟨g0, o0, none⟩) l.length c)) 27, Sep.blk g2 (itC y) 31]) h 0 rfl) 16).trans (hoC_last _ _ HT.out.1)⟩⟩
                  refine wp_region_held_drew (S := fun w' => w'.rangeAt g2 0 (itC y).toList ∧ w'.cell? ⟨g2, 0, none⟩ = some (.int .u8 f) ∧ w'.cell? ⟨g2, 1, none⟩ = some (.int .i64 q) ∧ w'.cell? ⟨g1, f.toNat, none⟩ = some (.int .u16 n) ∧ w'.rangeAt g1 0 (nums .u16 told) ∧ w'.cell? ⟨g1, 16, none⟩ = some (.slice (some ⟨g0, o0, none⟩) l.length c)) (by kernel_rfl) ?_ (fun hHeld => ?_)
                  focus (try dsimp only); (refine HKV.out _ ?_; (focus first | with_reducible exact HH.out | ((with_reducible repeat first | refine OwnS.alloc ?_ _ | refine OwnS.drewN ?_ _ | refine OwnS.drew ?_); with_reducible exact HH.out)))
                  (try dsimp only at hHeld)
                  refine tk (i := 0) (hy := yieldsIf_load_mid (by rfl) _ _ rfl _ _ rfl ((itC y).toList) _ ?_ Try.underlying31 rfl (by rw [Array.length_toList, (itC_size _ HOX.out.1.1)]; kernel_rfl)) (h := ?_); (focus (intro w hSw; (try dsimp only at hSw); go_split_ands; assumption)); (try simp only [Act.put, List.setIfInBounds_toArray, List.set_cons_zero, List.set_cons_succ])
                  refine wpAnyH_ready (rs := [1]) (by kernel_rfl) (by simp) ?_
                  refine AllReadyH.cons (by simp only [List.getElem?_toArray, List.getElem?_cons_succ, List.getElem?_cons_zero]; rfl) (fun K hK => ?_) AllReadyH.nil; go_simp; go_at_call 33; refine ownS_call (S := fun _ => False) (w0 := w) (As := [Sep.blk g1 (hoC told (.slice (some ⟨g0, o0, none⟩) l.length c)) 27, Sep.blk g2 (itC y) 31]) ?_ ?_; (focus first | with_reducible exact HH.out | ((with_reducible repeat first | refine OwnS.alloc ?_ _ | refine OwnS.drewN ?_ _ | refine OwnS.drew ?_); with_reducible exact HH.out)); intro ht; refine (rimay_calls _ y HOX.out).mono ?_; rintro e w61 ⟨rfl, hb⟩; rw [HM.out]; have HHx : Aside0 (OwnS (fun _ => False) [Sep.blk g1 (hoC told (.slice (some ⟨g0, o0, none⟩) l.length c)) 27, Sep.blk g2 (itC y) 31] w w61) := ⟨OwnS.step ht hb⟩; clear HH; have HH := HHx; clear HHx; clear hb; clear ht; refine hK.out _ _ ?_ (fun hHeld2 => ?_); (focus (try dsimp only); (refine HKV.out _ ?_; (focus first | with_reducible exact HH.out | ((with_reducible repeat first | refine OwnS.alloc ?_ _ | refine OwnS.drewN ?_ _ | refine OwnS.drew ?_); with_reducible exact HH.out)))); clear hK K hHeld; rename _ => hHeld; (try dsimp only at hHeld); (try simp only [Act.put, List.setIfInBounds_toArray, List.set_cons_zero, List.set_cons_succ])
                  refine tk (i := 2) (v := .bool false) (hy := Or.inl ⟨by rfl, ?_⟩) (h := ?_); (focus (intro w hSw; (try dsimp only at hSw); go_simp; try with_reducible rfl)); (try simp only [Act.put, List.setIfInBounds_toArray, List.set_cons_zero, List.set_cons_succ])
                  refine tk (i := 3) (v := .bool false) (hy := Or.inl ⟨by rfl, ?_⟩) (h := ?_); (focus (intro w hSw; (try dsimp only at hSw); go_simp; try with_reducible rfl)); (try simp only [Act.put, List.setIfInBounds_toArray, List.set_cons_zero, List.set_cons_succ])
                  refine tk (i := 4) (v := ?_) (hy := Or.inl ⟨by rfl, ?_⟩) (h := ?_); rotate_left; (focus (intro w hSw; (try dsimp only at hSw); go_simp; try with_reducible rfl)); (try simp only [Act.put, List.setIfInBounds_toArray, List.set_cons_zero, List.set_cons_succ])
                  refine tk (i := 5) (v := .int .i64 q) (hy := Or.inl ⟨by rfl, ?_⟩) (h := ?_); (focus (intro w hSw; (try dsimp only at hSw); go_simp; try with_reducible rfl)); (try simp only [Act.put, List.setIfInBounds_toArray, List.set_cons_zero, List.set_cons_succ])
                  refine tk (i := 6) (v := ?_) (hy := Or.inl ⟨by rfl, ?_⟩) (h := ?_); rotate_left; (focus (intro w hSw; (try dsimp only at hSw); go_simp; try with_reducible rfl)); (try simp only [Act.put, List.setIfInBounds_toArray, List.set_cons_zero, List.set_cons_succ])
                  refine tk (i := 7) (v := .int .u8 f) (hy := Or.inl ⟨by rfl, ?_⟩) (h := ?_); (focus (intro w hSw; (try dsimp only at hSw); go_simp; try with_reducible rfl)); (try simp only [Act.put, List.setIfInBounds_toArray, List.set_cons_zero, List.set_cons_succ])
                  refine tk (i := 8) (v := ?_) (hy := Or.inl ⟨by rfl, ?_⟩) (h := ?_); rotate_left; (focus (intro w hSw; (try dsimp only at hSw); go_simp; try with_reducible rfl)); (try simp only [Act.put, List.setIfInBounds_toArray, List.set_cons_zero, List.set_cons_succ])
                  refine tk (i := 9) (v := ?_) (hy := Or.inl ⟨by rfl, ?_⟩) (h := ?_); rotate_left; (focus (intro w hSw; (try dsimp only at hSw); go_simp; try with_reducible rfl)); (try simp only [Act.put, List.setIfInBounds_toArray, List.set_cons_zero, List.set_cons_succ])
                  refine tk (i := 10) (v := .int .u16 n) (hy := Or.inl ⟨by rfl, ?_⟩) (h := ?_); (focus (intro w hSw; (try dsimp only at hSw); go_simp; try with_reducible rfl)); (try simp only [Act.put, List.setIfInBounds_toArray, List.set_cons_zero, List.set_cons_succ])
                  refine tk (i := 11) (v := .int .i64 n) (hy := Or.inl ⟨by rfl, ?_⟩) (h := ?_); (focus (intro w hSw; (try dsimp only at hSw); go_simp; try with_reducible rfl)); (try simp only [Act.put, List.setIfInBounds_toArray, List.set_cons_zero, List.set_cons_succ])
                  refine tk (i := 12) (v := .bool false) (hy := Or.inl ⟨by rfl, ?_⟩) (h := ?_); (focus (intro w hSw; (try dsimp only at hSw); go_simp; try with_reducible rfl)); (try simp only [Act.put, List.setIfInBounds_toArray, List.set_cons_zero, List.set_cons_succ])
                  refine tk (i := 13) (v := .bool false) (hy := Or.inl ⟨by rfl, ?_⟩) (h := ?_); (focus (intro w hSw; (try dsimp only at hSw); go_simp; try with_reducible rfl)); (try simp only [Act.put, List.setIfInBounds_toArray, List.set_cons_zero, List.set_cons_succ])
                  refine tk (i := 14) (v := .bool false) (hy := Or.inl ⟨by rfl, ?_⟩) (h := ?_); (focus (intro w hSw; (try dsimp only at hSw); go_simp; try with_reducible rfl)); (try simp only [Act.put, List.setIfInBounds_toArray, List.set_cons_zero, List.set_cons_succ])
                  refine tk (i := 15) (v := ?_) (hy := Or.inl ⟨by rfl, ?_⟩) (h := ?_); rotate_left; (focus (intro w hSw; (try dsimp only at hSw); go_simp; try with_reducible rfl)); (try simp only [Act.put, List.setIfInBounds_toArray, List.set_cons_zero, List.set_cons_succ])
                  refine tk (i := 16) (hy := yieldsIf_load_mid (by rfl) _ _ rfl _ _ rfl (nums .u16 told) _ ?_ Try.underlying24 rfl (infoV HT.out.1)) (h := ?_); (focus (intro w hSw; (try dsimp only at hSw); go_split_ands; assumption)); (try simp only [Act.put, List.setIfInBounds_toArray, List.set_cons_zero, List.set_cons_succ])
                  refine tk (i := 17) (hy := yieldsIf_load_mid (by rfl) _ _ rfl _ _ rfl ((itC y).toList) _ ?_ Try.underlying31 rfl (by rw [Array.length_toList, (itC_size _ HOX.out.1.1)]; kernel_rfl)) (h := ?_); (focus (intro w hSw; (try dsimp only at hSw); go_split_ands; assumption)); (try simp only [Act.put, List.setIfInBounds_toArray, List.set_cons_zero, List.set_cons_succ])
                  refine wpAnyH_ready (rs := [18]) (by kernel_rfl) (by simp) ?_
                  refine AllReadyH.cons (by simp only [List.getElem?_toArray, List.getElem?_cons_succ, List.getElem?_cons_zero]; rfl) (fun K hK => ?_) AllReadyH.nil; go_simp; go_at_call 16; refine ownS_call (S := fun _ => False) (w0 := w) (As := [Sep.blk g1 (hoC told (.slice (some ⟨g0, o0, none⟩) l.length c)) 27, Sep.blk g2 (itC y) 31]) ?_ ?_; (focus first | with_reducible exact HH.out | ((with_reducible repeat first | refine OwnS.alloc ?_ _ | refine OwnS.drewN ?_ _ | refine OwnS.drew ?_); with_reducible exact HH.out)); intro ht; refine (rready_calls _ told y HT.out HOX.out).mono ?_; rintro e w62 ⟨rfl, hb⟩; rw [HRD.out]; have HHx : Aside0 (OwnS (fun _ => False) [Sep.blk g1 (hoC told (.slice (some ⟨g0, o0, none⟩) l.length c)) 27, Sep.blk g2 (itC y) 31] w w62) := ⟨OwnS.step ht hb⟩; clear HH; have HH := HHx; clear HHx; clear hb; clear ht; refine hK.out _ _ ?_ (fun hHeld2 => ?_); (focus (try dsimp only); (refine HKV.out _ ?_; (focus first | with_reducible exact HH.out | ((with_reducible repeat first | refine OwnS.alloc ?_ _ | refine OwnS.drewN ?_ _ | refine OwnS.drew ?_); with_reducible exact HH.out)))); clear hK K hHeld; rename _ => hHeld; (try dsimp only at hHeld); (try simp only [Act.put, List.setIfInBounds_toArray, List.set_cons_zero, List.set_cons_succ])
                  refine tk (i := 19) (v := .bool false) (hy := Or.inl ⟨by rfl, ?_⟩) (h := ?_); (focus (intro w hSw; (try dsimp only at hSw); go_simp; try with_reducible rfl)); (try simp only [Act.put, List.setIfInBounds_toArray, List.set_cons_zero, List.set_cons_succ])
                  refine tk (i := 20) (v := .bool false) (hy := Or.inl ⟨by rfl, ?_⟩) (h := ?_); (focus (intro w hSw; (try dsimp only at hSw); go_simp; try with_reducible rfl)); (try simp only [Act.put, List.setIfInBounds_toArray, List.set_cons_zero, List.set_cons_succ])
                  refine tk (i := 21) (v := ?_) (hy := Or.inl ⟨by rfl, ?_⟩) (h := ?_); rotate_left; (focus (intro w hSw; (try dsimp only at hSw); go_simp; try with_reducible rfl)); (try simp only [Act.put, List.setIfInBounds_toArray, List.set_cons_zero, List.set_cons_succ])
                  refine tk (i := 22) (v := .slice (some ⟨g0, o0, none⟩) l.length c) (hy := Or.inl ⟨by rfl, ?_⟩) (h := ?_); (focus (intro w hSw; (try dsimp only at hSw); go_simp; try with_reducible rfl)); (try simp only [Act.put, List.setIfInBounds_toArray, List.set_cons_zero, List.set_cons_succ])
                  refine tk (i := 23) (v := .int .i64 (i : Int)) (hy := Or.inl ⟨by rfl, ?_⟩) (h := ?_); (focus (intro w hSw; (try dsimp only at hSw); go_simp; try with_reducible rfl)); (try simp only [Act.put, List.setIfInBounds_toArray, List.set_cons_zero, List.set_cons_succ])
                  refine tk (i := 24) (v := .slice (some ⟨g0, o0, none⟩) i c) (hy := Or.inl ⟨by rfl, ?_⟩) (h := ?_); (focus (intro w hSw; (try dsimp only at hSw); go_simp; try with_reducible rfl)); (try simp only [Act.put, List.setIfInBounds_toArray, List.set_cons_zero, List.set_cons_succ])
                  refine tk (i := 25) (hy := yieldsIf_load_mid (by rfl) _ _ rfl _ _ rfl ((itC y).toList) _ ?_ Try.underlying31 rfl (by rw [Array.length_toList, (itC_size _ HOX.out.1.1)]; kernel_rfl)) (h := ?_); (focus (intro w hSw; (try dsimp only at hSw); go_split_ands; assumption)); (try simp only [Act.put, List.setIfInBounds_toArray, List.set_cons_zero, List.set_cons_succ])
                  refine wpAnyH_ready (rs := [26]) (by kernel_rfl) (by simp) ?_
                  refine AllReadyH.cons (by simp only [List.getElem?_toArray, List.getElem?_cons_succ, List.getElem?_cons_zero]; rfl) (fun K hK => ?_) AllReadyH.nil; go_simp; go_at_call 34; rw [← HTK.out]; refine ownS_call (S := fun _ => False) (w0 := w) (As := [Sep.blk g1 (hoC told (.slice (some ⟨g0, o0, none⟩) l.length c)) 27, Sep.blk g2 (itC y) 31]) ?_ ?_; (focus first | with_reducible exact HH.out | ((with_reducible repeat first | refine OwnS.alloc ?_ _ | refine OwnS.drewN ?_ _ | refine OwnS.drew ?_); with_reducible exact HH.out)); intro ht; refine (is_calls _ (some ⟨g0, o0, none⟩) c (l.take i) y ?_ HOX.out).mono ?_; (focus exact Kd.C_below (Kd.C_take HR.out (Nat.le_of_lt HLT.out)) (below_frm (OwnS.frm ht))); rintro e w63 ⟨rfl, hb⟩; rw [HIS.out]; have HHx : Aside0 (OwnS (fun _ => False) [Sep.blk g1 (hoC told (.slice (some ⟨g0, o0, none⟩) l.length c)) 27, Sep.blk g2 (itC y) 31] w w63) := ⟨OwnS.step ht hb⟩; clear HH; have HH := HHx; clear HHx; clear hb; clear ht; refine hK.out _ _ ?_ (fun hHeld2 => ?_); (focus (try dsimp only); (refine HKV.out _ ?_; (focus first | with_reducible exact HH.out | ((with_reducible repeat first | refine OwnS.alloc ?_ _ | refine OwnS.drewN ?_ _ | refine OwnS.drew ?_); with_reducible exact HH.out)))); clear hK K hHeld; rename _ => hHeld; (try dsimp only at hHeld); (try simp only [Act.put, List.setIfInBounds_toArray, List.set_cons_zero, List.set_cons_succ])
                  refine tk (i := 27) (v := .bool true) (hy := Or.inl ⟨by rfl, ?_⟩) (h := ?_); (focus (intro w hSw; (try dsimp only at hSw); go_simp; try with_reducible rfl)); (try simp only [Act.put, List.setIfInBounds_toArray, List.set_cons_zero, List.set_cons_succ])
                  refine wpAnyH_done (by kernel_rfl) ?_ _
                  go_wp2_with fail
                  go_ret
                  exact ⟨by rw [HNO.out]; rfl, below_frm (OwnS.frm HH.out)⟩
                | false =>
                  have HIS := Aside0.mk his
                  have HYE : Aside0 (allOk told [] l = allOk told (l.take (i + 1)) (l.drop (i + 1))) := ⟨by rw [HST.out]; unfold oneOk; rw [hrd, hm, his, HOF.out, HQX.out, hb1]; simp⟩
                  clear hm hrd his
                  go_wp2_with (first
          | ((with_reducible refine gate_ (.load 25 (.tmp 16)) rfl ?_); refine ev_cell (v := .slice (some ⟨g0, o0, none⟩) l.length c) ((blk_cell (OwnS.blk (S := fun _ => False) (w0 := w) (As := [Sep.blk g1 (hoC told (.slice (some ⟨g0, o0, none⟩) l.length c)) 27]) ?_ 0 rfl) 16).trans (hoC_last _ _ HT.out.1)) rfl rfl (by rfl) Try.underlying25 rfl ?_; (focus first | with_reducible exact HH.out | ((with_reducible repeat first | refine OwnS.alloc ?_ _ | refine OwnS.drewN ?_ _ | refine OwnS.drew ?_); with_reducible exact HH.out)))
          | ((with_reducible refine gate_ (.load 25 (.tmp 22)) rfl ?_); refine ev_cell (v := .slice (some ⟨g0, o0, none⟩) l.length c) ((blk_cell (OwnS.blk (S := fun _ => False) (w0 := w) (As := [Sep.blk g1 (hoC told (.slice (some ⟨g0, o0, none⟩) l.length c)) 27]) ?_ 0 rfl) 16).trans (hoC_last _ _ HT.out.1)) rfl rfl (by rfl) Try.underlying25 rfl ?_; (focus first | with_reducible exact HH.out | ((with_reducible repeat first | refine OwnS.alloc ?_ _ | refine OwnS.drewN ?_ _ | refine OwnS.drew ?_); with_reducible exact HH.out)))
          | ((with_reducible refine gate_ (.load 31 (.tmp 25)) rfl ?_); refine ev_loadR (b := g0) (p0 := o0 + i * 20) (n := 20) (cs := itC y) (HRX.out (below_frm (OwnS.frm (S := fun _ => False) (w0 := w) (As := [Sep.blk g1 (hoC told (.slice (some ⟨g0, o0, none⟩) l.length c)) 27]) ?_))) rfl rfl (by rfl) Try.underlying31 rfl (itC_size _ HOX.out.1.1) (by kernel_rfl) ?_; (focus first | with_reducible exact HH.out | ((with_reducible repeat first | refine OwnS.alloc ?_ _ | refine OwnS.drewN ?_ _ | refine OwnS.drew ?_); with_reducible exact HH.out)))
          | ((with_reducible refine gate_dst (N := 5) rfl ?_); refine evS_box (S := fun _ => False) (w0 := w) (As := [Sep.blk g1 (hoC told (.slice (some ⟨g0, o0, none⟩) l.length c)) 27]) ?_ rfl (cs := itC zI) (T := 31) ?_ ?_; (focus first | with_reducible exact HH.out | ((with_reducible repeat first | refine OwnS.alloc ?_ _ | refine OwnS.drewN ?_ _ | refine OwnS.drew ?_); with_reducible exact HH.out)); (focus first | (go_simp; done) | (go_simp; rfl)); intro g2 w21 he hh; clear he; have HHx : Aside0 (OwnS (fun _ => False) [Sep.blk g1 (hoC told (.slice (some ⟨g0, o0, none⟩) l.length c)) 27, Sep.blk g2 (itC zI) 31] w w21) := ⟨hh⟩; clear HH; have HH := HHx; clear HHx; clear hh)
          | ((with_reducible refine gate_ (.store 31 (.tmp 5) (.tmp 26)) rfl ?_); refine evS_storeA (S := fun _ => False) (w0 := w) (As := [Sep.blk g1 (hoC told (.slice (some ⟨g0, o0, none⟩) l.length c)) 27, Sep.blk g2 (itC zI) 31]) ?_ 1 rfl rfl rfl rfl (by rfl) (.agg (itC y)) (by rfl) (itC y) (by rfl) 20 20 (itC_size _ HOX.out.1.1) (itC_size _ zI_len) (by kernel_rfl) (by decide) (itC_one _) (itC y) (put_all _ _ (by rw [(itC_size _ HOX.out.1.1), (itC_size _ zI_len)])) ?_; (focus first | with_reducible exact HH.out | ((with_reducible repeat first | refine OwnS.alloc ?_ _ | refine OwnS.drewN ?_ _ | refine OwnS.drew ?_); with_reducible exact HH.out)); intro w22 hh; have HHx : Aside0 (OwnS (fun _ => False) [Sep.blk g1 (hoC told (.slice (some ⟨g0, o0, none⟩) l.length c)) 27, Sep.blk g2 (itC y) 31] w w22) := ⟨hh⟩; clear HH; have HH := HHx; clear HHx; clear hh)
          | fail
          | fail)
                  have HKV : Aside0 (∀ w' : World, OwnS (fun _ => False) [Sep.blk g1 (hoC told (.slice (some ⟨g0, o0, none⟩) l.length c)) 27, Sep.blk g2 (itC y) 31] w w' → (w'.rangeAt g2 0 (itC y).toList ∧ w'.cell? ⟨g2, 0, none⟩ = some (.int .u8 f) ∧ w'.cell? ⟨g2, 1, none⟩ = some (.int .i64 q) ∧ w'.cell? ⟨g1, f.toNat, none⟩ = some (.int .u16 n) ∧ w'.rangeAt g1 0 (nums .u16 told) ∧ w'.cell? ⟨g1, 16, none⟩ = some (.slice (some ⟨g0, o0, none⟩) l.length c))) := ⟨fun W h => ⟨range_blk (OwnS.blk (S := fun _ => False) (w0 := w) (As := [Sep.blk g1 (hoC told (.slice (some ⟨g0, o0, none⟩) l.length c)) 27, Sep.blk g2 (itC y) 31]) h 1 rfl), (by rw [← HFX.out]; exact blk_cell (OwnS.blk (S := fun _ => False) (w0 := w) (As := [Sep.blk g1 (hoC told (.slice (some ⟨g0, o0, none⟩) l.length c)) 27, Sep.blk g2 (itC y) 31]) h 1 rfl) 0), (by rw [← HQX.out]; exact blk_cell (OwnS.blk (S := fun _ => False) (w0 := w) (As := [Sep.blk g1 (hoC told (.slice (some ⟨g0, o0, none⟩) l.length c)) 27, Sep.blk g2 (itC y) 31]) h 1 rfl) 1), (by rw [← HN.out]; exact (blk_cell (OwnS.blk (S := fun _ => False) (w0 := w) (As := [Sep.blk g1 (hoC told (.slice (some ⟨g0, o0, none⟩) l.length c)) 27, Sep.blk g2 (itC y) 31]) h 0 rfl) f.toNat).trans (hoC_at _ _ f.toNat (by rw [HT.out.1]; exact HF.out))), range_hov HT.out.1 (OwnS.blk (S := fun _ => False) (w0 := w) (As := [Sep.blk g1 (hoC told (.slice (some ⟨g0, o0, none⟩) l.length c)) 27, Sep.blk g2 (itC y) 31]) h 0 rfl), (blk_cell (OwnS.blk (S := fun _ => False) (w0 := w) (As := [Sep.blk g1 (hoC told (.slice (some ⟨g0, o0, none⟩) l.length c)) 27, Sep.blk g2 (itC y) 31]) h 0 rfl) 16).trans (hoC_last _ _ HT.out.1)⟩⟩
                  refine wp_region_held_drew (S := fun w' => w'.rangeAt g2 0 (itC y).toList ∧ w'.cell? ⟨g2, 0, none⟩ = some (.int .u8 f) ∧ w'.cell? ⟨g2, 1, none⟩ = some (.int .i64 q) ∧ w'.cell? ⟨g1, f.toNat, none⟩ = some (.int .u16 n) ∧ w'.rangeAt g1 0 (nums .u16 told) ∧ w'.cell? ⟨g1, 16, none⟩ = some (.slice (some ⟨g0, o0, none⟩) l.length c)) (by kernel_rfl) ?_ (fun hHeld => ?_)
                  focus (try dsimp only); (refine HKV.out _ ?_; (focus first | with_reducible exact HH.out | ((with_reducible repeat first | refine OwnS.alloc ?_ _ | refine OwnS.drewN ?_ _ | refine OwnS.drew ?_); with_reducible exact HH.out)))
                  (try dsimp only at hHeld)
                  refine tk (i := 0) (hy := yieldsIf_load_mid (by rfl) _ _ rfl _ _ rfl ((itC y).toList) _ ?_ Try.underlying31 rfl (by rw [Array.length_toList, (itC_size _ HOX.out.1.1)]; kernel_rfl)) (h := ?_); (focus (intro w hSw; (try dsimp only at hSw); go_split_ands; assumption)); (try simp only [Act.put, List.setIfInBounds_toArray, List.set_cons_zero, List.set_cons_succ])
                  refine wpAnyH_ready (rs := [1]) (by kernel_rfl) (by simp) ?_
                  refine AllReadyH.cons (by simp only [List.getElem?_toArray, List.getElem?_cons_succ, List.getElem?_cons_zero]; rfl) (fun K hK => ?_) AllReadyH.nil; go_simp; go_at_call 33; refine ownS_call (S := fun _ => False) (w0 := w) (As := [Sep.blk g1 (hoC told (.slice (some ⟨g0, o0, none⟩) l.length c)) 27, Sep.blk g2 (itC y) 31]) ?_ ?_; (focus first | with_reducible exact HH.out | ((with_reducible repeat first | refine OwnS.alloc ?_ _ | refine OwnS.drewN ?_ _ | refine OwnS.drew ?_); with_reducible exact HH.out)); intro ht; refine (rimay_calls _ y HOX.out).mono ?_; rintro e w61 ⟨rfl, hb⟩; rw [HM.out]; have HHx : Aside0 (OwnS (fun _ => False) [Sep.blk g1 (hoC told (.slice (some ⟨g0, o0, none⟩) l.length c)) 27, Sep.blk g2 (itC y) 31] w w61) := ⟨OwnS.step ht hb⟩; clear HH; have HH := HHx; clear HHx; clear hb; clear ht; refine hK.out _ _ ?_ (fun hHeld2 => ?_); (focus (try dsimp only); (refine HKV.out _ ?_; (focus first | with_reducible exact HH.out | ((with_reducible repeat first | refine OwnS.alloc ?_ _ | refine OwnS.drewN ?_ _ | refine OwnS.drew ?_); with_reducible exact HH.out)))); clear hK K hHeld; rename _ => hHeld; (try dsimp only at hHeld); (try simp only [Act.put, List.setIfInBounds_toArray, List.set_cons_zero, List.set_cons_succ])
                  refine tk (i := 2) (v := .bool false) (hy := Or.inl ⟨by rfl, ?_⟩) (h := ?_); (focus (intro w hSw; (try dsimp only at hSw); go_simp; try with_reducible rfl)); (try simp only [Act.put, List.setIfInBounds_toArray, List.set_cons_zero, List.set_cons_succ])
                  refine tk (i := 3) (v := .bool false) (hy := Or.inl ⟨by rfl, ?_⟩) (h := ?_); (focus (intro w hSw; (try dsimp only at hSw); go_simp; try with_reducible rfl)); (try simp only [Act.put, List.setIfInBounds_toArray, List.set_cons_zero, List.set_cons_succ])
                  refine tk (i := 4) (v := ?_) (hy := Or.inl ⟨by rfl, ?_⟩) (h := ?_); rotate_left; (focus (intro w hSw; (try dsimp only at hSw); go_simp; try with_reducible rfl)); (try simp only [Act.put, List.setIfInBounds_toArray, List.set_cons_zero, List.set_cons_succ])
                  refine tk (i := 5) (v := .int .i64 q) (hy := Or.inl ⟨by rfl, ?_⟩) (h := ?_); (focus (intro w hSw; (try dsimp only at hSw); go_simp; try with_reducible rfl)); (try simp only [Act.put, List.setIfInBounds_toArray, List.set_cons_zero, List.set_cons_succ])
                  refine tk (i := 6) (v := ?_) (hy := Or.inl ⟨by rfl, ?_⟩) (h := ?_); rotate_left; (focus (intro w hSw; (try dsimp only at hSw); go_simp; try with_reducible rfl)); (try simp only [Act.put, List.setIfInBounds_toArray, List.set_cons_zero, List.set_cons_succ])
                  refine tk (i := 7) (v := .int .u8 f) (hy := Or.inl ⟨by rfl, ?_⟩) (h := ?_); (focus (intro w hSw; (try dsimp only at hSw); go_simp; try with_reducible rfl)); (try simp only [Act.put, List.setIfInBounds_toArray, List.set_cons_zero, List.set_cons_succ])
                  refine tk (i := 8) (v := ?_) (hy := Or.inl ⟨by rfl, ?_⟩) (h := ?_); rotate_left; (focus (intro w hSw; (try dsimp only at hSw); go_simp; try with_reducible rfl)); (try simp only [Act.put, List.setIfInBounds_toArray, List.set_cons_zero, List.set_cons_succ])
                  refine tk (i := 9) (v := ?_) (hy := Or.inl ⟨by rfl, ?_⟩) (h := ?_); rotate_left; (focus (intro w hSw; (try dsimp only at hSw); go_simp; try with_reducible rfl)); (try simp only [Act.put, List.setIfInBounds_toArray, List.set_cons_zero, List.set_cons_succ])
                  refine tk (i := 10) (v := .int .u16 n) (hy := Or.inl ⟨by rfl, ?_⟩) (h := ?_); (focus (intro w hSw; (try dsimp only at hSw); go_simp; try with_reducible rfl)); (try simp only [Act.put, List.setIfInBounds_toArray, List.set_cons_zero, List.set_cons_succ])
                  refine tk (i := 11) (v := .int .i64 n) (hy := Or.inl ⟨by rfl, ?_⟩) (h := ?_); (focus (intro w hSw; (try dsimp only at hSw); go_simp; try with_reducible rfl)); (try simp only [Act.put, List.setIfInBounds_toArray, List.set_cons_zero, List.set_cons_succ])
                  refine tk (i := 12) (v := .bool false) (hy := Or.inl ⟨by rfl, ?_⟩) (h := ?_); (focus (intro w hSw; (try dsimp only at hSw); go_simp; try with_reducible rfl)); (try simp only [Act.put, List.setIfInBounds_toArray, List.set_cons_zero, List.set_cons_succ])
                  refine tk (i := 13) (v := .bool false) (hy := Or.inl ⟨by rfl, ?_⟩) (h := ?_); (focus (intro w hSw; (try dsimp only at hSw); go_simp; try with_reducible rfl)); (try simp only [Act.put, List.setIfInBounds_toArray, List.set_cons_zero, List.set_cons_succ])
                  refine tk (i := 14) (v := .bool false) (hy := Or.inl ⟨by rfl, ?_⟩) (h := ?_); (focus (intro w hSw; (try dsimp only at hSw); go_simp; try with_reducible rfl)); (try simp only [Act.put, List.setIfInBounds_toArray, List.set_cons_zero, List.set_cons_succ])
                  refine tk (i := 15) (v := ?_) (hy := Or.inl ⟨by rfl, ?_⟩) (h := ?_); rotate_left; (focus (intro w hSw; (try dsimp only at hSw); go_simp; try with_reducible rfl)); (try simp only [Act.put, List.setIfInBounds_toArray, List.set_cons_zero, List.set_cons_succ])
                  refine tk (i := 16) (hy := yieldsIf_load_mid (by rfl) _ _ rfl _ _ rfl (nums .u16 told) _ ?_ Try.underlying24 rfl (infoV HT.out.1)) (h := ?_); (focus (intro w hSw; (try dsimp only at hSw); go_split_ands; assumption)); (try simp only [Act.put, List.setIfInBounds_toArray, List.set_cons_zero, List.set_cons_succ])
                  refine tk (i := 17) (hy := yieldsIf_load_mid (by rfl) _ _ rfl _ _ rfl ((itC y).toList) _ ?_ Try.underlying31 rfl (by rw [Array.length_toList, (itC_size _ HOX.out.1.1)]; kernel_rfl)) (h := ?_); (focus (intro w hSw; (try dsimp only at hSw); go_split_ands; assumption)); (try simp only [Act.put, List.setIfInBounds_toArray, List.set_cons_zero, List.set_cons_succ])
                  refine wpAnyH_ready (rs := [18]) (by kernel_rfl) (by simp) ?_
                  refine AllReadyH.cons (by simp only [List.getElem?_toArray, List.getElem?_cons_succ, List.getElem?_cons_zero]; rfl) (fun K hK => ?_) AllReadyH.nil; go_simp; go_at_call 16; refine ownS_call (S := fun _ => False) (w0 := w) (As := [Sep.blk g1 (hoC told (.slice (some ⟨g0, o0, none⟩) l.length c)) 27, Sep.blk g2 (itC y) 31]) ?_ ?_; (focus first | with_reducible exact HH.out | ((with_reducible repeat first | refine OwnS.alloc ?_ _ | refine OwnS.drewN ?_ _ | refine OwnS.drew ?_); with_reducible exact HH.out)); intro ht; refine (rready_calls _ told y HT.out HOX.out).mono ?_; rintro e w62 ⟨rfl, hb⟩; rw [HRD.out]; have HHx : Aside0 (OwnS (fun _ => False) [Sep.blk g1 (hoC told (.slice (some ⟨g0, o0, none⟩) l.length c)) 27, Sep.blk g2 (itC y) 31] w w62) := ⟨OwnS.step ht hb⟩; clear HH; have HH := HHx; clear HHx; clear hb; clear ht; refine hK.out _ _ ?_ (fun hHeld2 => ?_); (focus (try dsimp only); (refine HKV.out _ ?_; (focus first | with_reducible exact HH.out | ((with_reducible repeat first | refine OwnS.alloc ?_ _ | refine OwnS.drewN ?_ _ | refine OwnS.drew ?_); with_reducible exact HH.out)))); clear hK K hHeld; rename _ => hHeld; (try dsimp only at hHeld); (try simp only [Act.put, List.setIfInBounds_toArray, List.set_cons_zero, List.set_cons_succ])
                  refine tk (i := 19) (v := .bool false) (hy := Or.inl ⟨by rfl, ?_⟩) (h := ?_); (focus (intro w hSw; (try dsimp only at hSw); go_simp; try with_reducible rfl)); (try simp only [Act.put, List.setIfInBounds_toArray, List.set_cons_zero, List.set_cons_succ])
                  refine tk (i := 20) (v := .bool false) (hy := Or.inl ⟨by rfl, ?_⟩) (h := ?_); (focus (intro w hSw; (try dsimp only at hSw); go_simp; try with_reducible rfl)); (try simp only [Act.put, List.setIfInBounds_toArray, List.set_cons_zero, List.set_cons_succ])
                  refine tk (i := 21) (v := ?_) (hy := Or.inl ⟨by rfl, ?_⟩) (h := ?_); rotate_left; (focus (intro w hSw; (try dsimp only at hSw); go_simp; try with_reducible rfl)); (try simp only [Act.put, List.setIfInBounds_toArray, List.set_cons_zero, List.set_cons_succ])
                  refine tk (i := 22) (v := .slice (some ⟨g0, o0, none⟩) l.length c) (hy := Or.inl ⟨by rfl, ?_⟩) (h := ?_); (focus (intro w hSw; (try dsimp only at hSw); go_simp; try with_reducible rfl)); (try simp only [Act.put, List.setIfInBounds_toArray, List.set_cons_zero, List.set_cons_succ])
                  refine tk (i := 23) (v := .int .i64 (i : Int)) (hy := Or.inl ⟨by rfl, ?_⟩) (h := ?_); (focus (intro w hSw; (try dsimp only at hSw); go_simp; try with_reducible rfl)); (try simp only [Act.put, List.setIfInBounds_toArray, List.set_cons_zero, List.set_cons_succ])
                  refine tk (i := 24) (v := .slice (some ⟨g0, o0, none⟩) i c) (hy := Or.inl ⟨by rfl, ?_⟩) (h := ?_); (focus (intro w hSw; (try dsimp only at hSw); go_simp; try with_reducible rfl)); (try simp only [Act.put, List.setIfInBounds_toArray, List.set_cons_zero, List.set_cons_succ])
                  refine tk (i := 25) (hy := yieldsIf_load_mid (by rfl) _ _ rfl _ _ rfl ((itC y).toList) _ ?_ Try.underlying31 rfl (by rw [Array.length_toList, (itC_size _ HOX.out.1.1)]; kernel_rfl)) (h := ?_); (focus (intro w hSw; (try dsimp only at hSw); go_split_ands; assumption)); (try simp only [Act.put, List.setIfInBounds_toArray, List.set_cons_zero, List.set_cons_succ])
                  refine wpAnyH_ready (rs := [26]) (by kernel_rfl) (by simp) ?_
                  refine AllReadyH.cons (by simp only [List.getElem?_toArray, List.getElem?_cons_succ, List.getElem?_cons_zero]; rfl) (fun K hK => ?_) AllReadyH.nil; go_simp; go_at_call 34; rw [← HTK.out]; refine ownS_call (S := fun _ => False) (w0 := w) (As := [Sep.blk g1 (hoC told (.slice (some ⟨g0, o0, none⟩) l.length c)) 27, Sep.blk g2 (itC y) 31]) ?_ ?_; (focus first | with_reducible exact HH.out | ((with_reducible repeat first | refine OwnS.alloc ?_ _ | refine OwnS.drewN ?_ _ | refine OwnS.drew ?_); with_reducible exact HH.out)); intro ht; refine (is_calls _ (some ⟨g0, o0, none⟩) c (l.take i) y ?_ HOX.out).mono ?_; (focus exact Kd.C_below (Kd.C_take HR.out (Nat.le_of_lt HLT.out)) (below_frm (OwnS.frm ht))); rintro e w63 ⟨rfl, hb⟩; rw [HIS.out]; have HHx : Aside0 (OwnS (fun _ => False) [Sep.blk g1 (hoC told (.slice (some ⟨g0, o0, none⟩) l.length c)) 27, Sep.blk g2 (itC y) 31] w w63) := ⟨OwnS.step ht hb⟩; clear HH; have HH := HHx; clear HHx; clear hb; clear ht; refine hK.out _ _ ?_ (fun hHeld2 => ?_); (focus (try dsimp only); (refine HKV.out _ ?_; (focus first | with_reducible exact HH.out | ((with_reducible repeat first | refine OwnS.alloc ?_ _ | refine OwnS.drewN ?_ _ | refine OwnS.drew ?_); with_reducible exact HH.out)))); clear hK K hHeld; rename _ => hHeld; (try dsimp only at hHeld); (try simp only [Act.put, List.setIfInBounds_toArray, List.set_cons_zero, List.set_cons_succ])
                  refine tk (i := 27) (v := .bool false) (hy := Or.inl ⟨by rfl, ?_⟩) (h := ?_); (focus (intro w hSw; (try dsimp only at hSw); go_simp; try with_reducible rfl)); (try simp only [Act.put, List.setIfInBounds_toArray, List.set_cons_zero, List.set_cons_succ])
                  refine wpAnyH_done (by kernel_rfl) ?_ _
                  go_wp2_with fail
                  go_roundw
                  case rel => exact ⟨i + 1, by go_num, by omega, HYE, ⟨OwnS.picks (S := fun _ => False) (w0 := w) (As := [Sep.blk g1 (hoC told (.slice (some ⟨g0, o0, none⟩) l.length c)) 27, Sep.blk g2 (itC y) 31]) HH.out [0] (by decide)⟩⟩
                  case measure => simp [intOf]; omega
        · have hge : i = l.length := by omega
          subst hge
          have HYES : Aside0 (rightH told l = decide ((l.length : Int) ≤ 64)) := ⟨by rw [HRT.out, HA.out, allOk_end, Bool.and_true]; apply decide_eq_decide.2; omega⟩
          go_wp2_with (first
        | ((with_reducible refine gate_ (.load 25 (.tmp 16)) rfl ?_); refine ev_cell (v := .slice A l.length c) ((blk_cell (OwnS.blk (S := fun _ => False) (w0 := w) (As := [Sep.blk g1 (hoC told (.slice A l.length c)) 27]) ?_ 0 rfl) 16).trans (hoC_last _ _ HT.out.1)) rfl rfl (by rfl) Try.underlying25 rfl ?_; (focus first | with_reducible exact HH.out | ((with_reducible repeat first | refine OwnS.alloc ?_ _ | refine OwnS.drewN ?_ _ | refine OwnS.drew ?_); with_reducible exact HH.out)))
        | ((with_reducible refine gate_ (.load 25 (.tmp 55)) rfl ?_); refine ev_cell (v := .slice A l.length c) ((blk_cell (OwnS.blk (S := fun _ => False) (w0 := w) (As := [Sep.blk g1 (hoC told (.slice A l.length c)) 27]) ?_ 0 rfl) 16).trans (hoC_last _ _ HT.out.1)) rfl rfl (by rfl) Try.underlying25 rfl ?_; (focus first | with_reducible exact HH.out | ((with_reducible repeat first | refine OwnS.alloc ?_ _ | refine OwnS.drewN ?_ _ | refine OwnS.drew ?_); with_reducible exact HH.out)))
        | fail
        | fail)
          go_ret
          exact ⟨by rw [HYES.out]; rfl, below_frm (OwnS.frm HH.out)⟩
end Go.Proofs.Ytkifekjcpnoclaa.Hld
