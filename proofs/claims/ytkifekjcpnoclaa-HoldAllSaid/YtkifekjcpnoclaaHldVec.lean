/- Vectors: below, join. -/
import Derived.Test.YtkifekjcpnoclaaHldLeaf
namespace Go.Proofs.Ytkifekjcpnoclaa.Hld
open Go Go.RowKit Go.Proofs.YtkifekjcpnoclaaW.PrintWords Go.Proofs.Ytkifekjcpnoclaa.Sep Go.Proofs.Ytkifekjcpnoclaa.Obj
set_option linter.unusedVariables false
set_option linter.unusedSimpArgs false

def belL (a b : List Int) : Bool := (List.range 16).all fun i => decide (a.getD i 0 ≤ b.getD i 0)
theorem belL_true {a b : List Int} (h : ∀ i, i < 16 → a.getD i 0 ≤ b.getD i 0) : belL a b = true := by
  unfold belL
  rw [List.all_eq_true]
  intro i hi
  exact decide_eq_true (h i (List.mem_range.1 hi))
theorem belL_false {a b : List Int} {i : Nat} (hi : i < 16) (h : b.getD i 0 < a.getD i 0) : belL a b = false := by
  unfold belL
  rw [List.all_eq_false]
  exact ⟨i, List.mem_range.2 hi, by simp only [decide_eq_true_eq]; omega⟩
theorem belL_iff {a b : List Int} : belL a b = true ↔ ∀ i, i < 16 → a.getD i 0 ≤ b.getD i 0 := by
  unfold belL
  rw [List.all_eq_true]
  exact ⟨fun h i hi => of_decide_eq_true (h i (List.mem_range.2 hi)), fun h i hi => decide_eq_true (h i (List.mem_range.1 hi))⟩

set_option maxHeartbeats 2000000 in
set_option maxRecDepth 100000 in
theorem rbelow_calls (w : World) (a b : List Int) (ha : a.length = 16) (hb : b.length = 16) : Calls Try.prog 23 #[.agg (vecC a), .agg (vecC b)] w (Kept (.bool (belL a b)) w) := by
  have HH : Aside0 (OwnS (fun _ => False) [] w w) := ⟨OwnS.of_own (Own.start w)⟩
  go_enter Try.func23, Try.ntmps23
  go_wp2_with (first
    | ((with_reducible refine gate_dst (N := 2) rfl ?_); refine evS_box (S := fun _ => False) (w0 := w) (As := []) ?_ rfl (cs := vecC a) (T := 24) ?_ ?_; (focus first | with_reducible exact HH.out | ((with_reducible repeat first | refine OwnS.alloc ?_ _ | refine OwnS.drewN ?_ _ | refine OwnS.drew ?_); with_reducible exact HH.out)); (focus first | (go_simp; done) | (go_simp; rfl)); intro g1 w1 he hh; clear he; have HHx : Aside0 (OwnS (fun _ => False) [Sep.blk g1 (vecC a) 24] w w1) := ⟨hh⟩; clear HH; have HH := HHx; clear HHx; clear hh)
    | ((with_reducible refine gate_dst (N := 3) rfl ?_); refine evS_box (S := fun _ => False) (w0 := w) (As := [Sep.blk g1 (vecC a) 24]) ?_ rfl (cs := vecC b) (T := 24) ?_ ?_; (focus first | with_reducible exact HH.out | ((with_reducible repeat first | refine OwnS.alloc ?_ _ | refine OwnS.drewN ?_ _ | refine OwnS.drew ?_); with_reducible exact HH.out)); (focus first | (go_simp; done) | (go_simp; rfl)); intro g2 w2 he hh; clear he; have HHx : Aside0 (OwnS (fun _ => False) [Sep.blk g1 (vecC a) 24, Sep.blk g2 (vecC b) 24] w w2) := ⟨hh⟩; clear HH; have HH := HHx; clear HHx; clear hh)
    | fail
    | fail)
  go_loopw [5] (fun v5 W => ∃ (i : Nat), v5 = .int .i64 (i : Int) ∧ i ≤ 16 ∧ Aside0 (∀ j, j < i → a.getD j 0 ≤ b.getD j 0) ∧ Aside0 (OwnS (fun _ => False) [Sep.blk g1 (vecC a) 24, Sep.blk g2 (vecC b) 24] w W)) (fun v5 _ => 16 - (intOf v5).toNat)
  case atStart => exact ⟨0, rfl, by omega, ⟨fun j hj => by omega⟩, HH⟩
  case round =>
    clear HH
    obtain ⟨i, rfl, hi, HA, HH⟩ := hrel
    by_cases hlt : i < 16
    · obtain ⟨x, hx⟩ : ∃ x, a.getD i 0 = x := ⟨_, rfl⟩
      obtain ⟨y, hy⟩ : ∃ y, b.getD i 0 = y := ⟨_, rfl⟩
      have HX := Aside0.mk hx
      have HY := Aside0.mk hy
      clear hx hy
      have fa : wr.cell? ⟨g1, i, none⟩ = some (.int .u16 x) := (by rw [← HX.out]; exact (blk_cell (OwnS.blk (S := fun _ => False) (w0 := w) (As := [Sep.blk g1 (vecC a) 24, Sep.blk g2 (vecC b) 24]) HH.out 0 rfl) i).trans (vecC_at _ i (by rw [ha]; exact hlt)))
      have fb : wr.cell? ⟨g2, i, none⟩ = some (.int .u16 y) := (by rw [← HY.out]; exact (blk_cell (OwnS.blk (S := fun _ => False) (w0 := w) (As := [Sep.blk g1 (vecC a) 24, Sep.blk g2 (vecC b) 24]) HH.out 1 rfl) i).trans (vecC_at _ i (by rw [hb]; exact hlt)))
      have q0 : 0 ≤ (i : Int) := by omega
      have q1 : (i : Int) < 16 := by omega
      by_cases hxy : y < x
      · have hd : decide (y < x) = true := decide_eq_true hxy
        have HF : Aside0 (belL a b = false) := ⟨belL_false hlt (by rw [HX.out, HY.out]; exact hxy)⟩
        go_wp2_with fail
        go_quiet (fail)
        go_wp2_with fail
        go_ret
        exact ⟨by rw [HF.out]; rfl, below_frm (OwnS.frm (OwnS.drewN HH.out _))⟩
      · have hd : decide (y < x) = false := decide_eq_false hxy
        have HS : Aside0 (∀ j, j < i + 1 → a.getD j 0 ≤ b.getD j 0) := ⟨fun j hj => by
          rcases Nat.lt_or_ge j i with h | h
          · exact HA.out j h
          · have : j = i := by omega
            subst this
            rw [HX.out, HY.out]
            omega⟩
        go_wp2_with fail
        go_quiet (fail)
        go_wp2_with fail
        go_roundw
        case rel => exact ⟨i + 1, by go_num, by omega, HS, ⟨OwnS.drewN HH.out _⟩⟩
        case measure => simp [intOf]; omega
    · have hi16 : i = 16 := by omega
      subst hi16
      have HT : Aside0 (belL a b = true) := ⟨belL_true HA.out⟩
      go_wp2_with fail
      go_ret
      exact ⟨by rw [HT.out]; rfl, below_frm (OwnS.frm HH.out)⟩

def mx (a b : Int) : Int := if a < b then b else a
/-- of the first i the greater ones -/
def joinN (a b : List Int) (i : Nat) : List Int := (List.range 16).map fun j => if j < i then mx (a.getD j 0) (b.getD j 0) else a.getD j 0
def joinL (a b : List Int) : List Int := joinN a b 16
theorem joinN_len (a b : List Int) (i : Nat) : (joinN a b i).length = 16 := by simp [joinN]
theorem joinL_len (a b : List Int) : (joinL a b).length = 16 := joinN_len a b 16
theorem joinN_at (a b : List Int) (i j : Nat) (hj : j < 16) : (joinN a b i).getD j 0 = if j < i then mx (a.getD j 0) (b.getD j 0) else a.getD j 0 := by
  simp [joinN, List.getD_eq_getElem?_getD, hj]
theorem joinN_zero (a b : List Int) (h : a.length = 16) : joinN a b 0 = a := by
  obtain ⟨a0, a1, a2, a3, a4, a5, a6, a7, a8, a9, a10, a11, a12, a13, a14, a15, rfl⟩ := list16 a h
  rfl
theorem joinN_step (a b : List Int) (i : Nat) (hi : i < 16) : (joinN a b i).set i (mx (a.getD i 0) (b.getD i 0)) = joinN a b (i + 1) := by
  apply List.ext_getElem?
  intro j
  rw [List.getElem?_set]
  by_cases e : i = j
  · subst e
    rw [if_pos rfl, if_pos (by rw [joinN_len]; exact hi)]
    simp [joinN, hi]
  · rw [if_neg e]
    rcases Nat.lt_or_ge j 16 with h | h
    · have : (j < i) = (j < i + 1) := by rw [eq_iff_iff]; omega
      simp [joinN, h, this]
    · rw [List.getElem?_eq_none (by rw [joinN_len]; exact h), List.getElem?_eq_none (by rw [joinN_len]; exact h)]
theorem vecC_set (v : List Int) (i : Nat) (y : Int) : (vecC v).setIfInBounds i (.int .u16 y) = vecC (v.set i y) := by
  apply Array.toList_inj.1
  simp [vecC, nums]
theorem OwnS.setV {S : Nat → Prop} {As : List Asr} {w0 w : World} (h : OwnS S As w0 w) (i : Nat) {g : Nat} {v : List Int} {T : TypeId} (hi : As[i]? = some (Sep.blk g (vecC v) T)) (j : Nat) (y : Int) : OwnS S (As.set i (Sep.blk g (vecC (v.set j y)) T)) w0 (w.setCell ⟨g, j, none⟩ (.int .u16 y)) := by
  have := OwnS.setC h i hi j (.int .u16 y)
  rw [vecC_set] at this
  exact this

set_option maxHeartbeats 2000000 in
set_option maxRecDepth 100000 in
theorem join_calls (w : World) (a b : List Int) (ha : a.length = 16) (hb : b.length = 16) : Calls Try.prog 42 #[.agg (vecC a), .agg (vecC b)] w (Kept (.agg (vecC (joinL a b))) w) := by
  have HH : Aside0 (OwnS (fun _ => False) [] w w) := ⟨OwnS.of_own (Own.start w)⟩
  go_enter Try.func42, Try.ntmps42
  go_wp2_with (first
    | ((with_reducible refine gate_dst (N := 2) rfl ?_); refine evS_box (S := fun _ => False) (w0 := w) (As := []) ?_ rfl (cs := vecC a) (T := 24) ?_ ?_; (focus first | with_reducible exact HH.out | ((with_reducible repeat first | refine OwnS.alloc ?_ _ | refine OwnS.drewN ?_ _ | refine OwnS.drew ?_); with_reducible exact HH.out)); (focus first | (go_simp; done) | (go_simp; rfl)); intro g1 w1 he hh; clear he; have HHx : Aside0 (OwnS (fun _ => False) [Sep.blk g1 (vecC a) 24] w w1) := ⟨hh⟩; clear HH; have HH := HHx; clear HHx; clear hh)
    | ((with_reducible refine gate_dst (N := 3) rfl ?_); refine evS_box (S := fun _ => False) (w0 := w) (As := [Sep.blk g1 (vecC a) 24]) ?_ rfl (cs := vecC b) (T := 24) ?_ ?_; (focus first | with_reducible exact HH.out | ((with_reducible repeat first | refine OwnS.alloc ?_ _ | refine OwnS.drewN ?_ _ | refine OwnS.drew ?_); with_reducible exact HH.out)); (focus first | (go_simp; done) | (go_simp; rfl)); intro g2 w2 he hh; clear he; have HHx : Aside0 (OwnS (fun _ => False) [Sep.blk g1 (vecC a) 24, Sep.blk g2 (vecC b) 24] w w2) := ⟨hh⟩; clear HH; have HH := HHx; clear HHx; clear hh)
    | ((with_reducible refine gate_dst (N := 4) rfl ?_); refine evS_box (S := fun _ => False) (w0 := w) (As := [Sep.blk g1 (vecC a) 24, Sep.blk g2 (vecC b) 24]) ?_ rfl (cs := vecC (List.replicate 16 (0 : Int))) (T := 24) ?_ ?_; (focus first | with_reducible exact HH.out | ((with_reducible repeat first | refine OwnS.alloc ?_ _ | refine OwnS.drewN ?_ _ | refine OwnS.drew ?_); with_reducible exact HH.out)); (focus first | (go_simp; done) | (go_simp; rfl)); intro g3 w3 he hh; clear he; have HHx : Aside0 (OwnS (fun _ => False) [Sep.blk g1 (vecC a) 24, Sep.blk g2 (vecC b) 24, Sep.blk g3 (vecC (List.replicate 16 (0 : Int))) 24] w w3) := ⟨hh⟩; clear HH; have HH := HHx; clear HHx; clear hh)
    | ((with_reducible refine gate_ (.load 24 (.tmp 3)) rfl ?_); refine ev_loadA (OwnS.blk (S := fun _ => False) (w0 := w) (As := [Sep.blk g1 (vecC a) 24, Sep.blk g2 (vecC b) 24, Sep.blk g3 (vecC (List.replicate 16 (0 : Int))) 24]) ?_ 1 rfl) 0 16 (vecC b) (all_of _ 16 (vecC_size _ hb)) rfl rfl (by rfl) Try.underlying24 rfl (vecC_size _ hb) (by kernel_rfl) ?_; (focus first | with_reducible exact HH.out | ((with_reducible repeat first | refine OwnS.alloc ?_ _ | refine OwnS.drewN ?_ _ | refine OwnS.drew ?_); with_reducible exact HH.out)))
    | fail
    | fail)
  go_loopw [8] (fun vi W => ∃ (i : Nat), vi = .int .i64 (i : Int) ∧ i ≤ 16 ∧ Aside0 (OwnS (fun _ => False) [Sep.blk g1 (vecC (joinN a b i)) 24, Sep.blk g2 (vecC b) 24, Sep.blk g3 (vecC (List.replicate 16 (0 : Int))) 24] w W)) (fun vi _ => 16 - (intOf vi).toNat)
  case atStart => exact ⟨0, rfl, by omega, ⟨by rw [joinN_zero a b ha]; exact HH.out⟩⟩
  case round =>
    clear HH
    obtain ⟨i, rfl, hi, HH⟩ := hrel
    by_cases hlt : i < 16
    · obtain ⟨x, hx⟩ : ∃ x, (joinN a b i).getD i 0 = x := ⟨_, rfl⟩
      obtain ⟨y, hy⟩ : ∃ y, b.getD i 0 = y := ⟨_, rfl⟩
      have HX := Aside0.mk hx
      have HS : Aside0 ((joinN a b i).set i (if x < y then y else x) = joinN a b (i + 1)) := ⟨by
        have h1 := joinN_at a b i i hlt
        rw [if_neg (Nat.lt_irrefl _), hx] at h1
        rw [h1, ← hy]
        exact joinN_step a b i hlt⟩
      clear hx
      have fa : wr.cell? ⟨g1, i, none⟩ = some (.int .u16 x) := (by rw [← HX.out]; exact (blk_cell (OwnS.blk (S := fun _ => False) (w0 := w) (As := [Sep.blk g1 (vecC (joinN a b i)) 24, Sep.blk g2 (vecC b) 24, Sep.blk g3 (vecC (List.replicate 16 (0 : Int))) 24]) HH.out 0 rfl) i).trans (vecC_at _ i (by rw [joinN_len]; exact hlt)))
      have fz : wr.frozen? ⟨g1, i, none⟩ = false := blk_frozen (OwnS.blk (S := fun _ => False) (w0 := w) (As := [Sep.blk g1 (vecC (joinN a b i)) 24, Sep.blk g2 (vecC b) 24, Sep.blk g3 (vecC (List.replicate 16 (0 : Int))) 24]) HH.out 0 rfl) i
      have fb := vec_index b i hb hlt
      rw [hy] at fb
      clear hy
      have q0 : 0 ≤ (i : Int) := by omega
      have q1 : (i : Int) < 16 := by omega
      go_wp2_with fail
      go_roundw
      all_goals first | exact ⟨i + 1, by go_num, by omega, ⟨by rw [← HS.out]; exact OwnS.setV HH.out 0 rfl i _⟩⟩ | (simp [intOf]; omega)
    · have hi16 : i = 16 := by omega
      subst hi16
      have HHx : Aside0 (OwnS (fun _ => False) [Sep.blk g1 (vecC (joinL a b)) 24, Sep.blk g2 (vecC b) 24, Sep.blk g3 (vecC (List.replicate 16 (0 : Int))) 24] w wr) := ⟨HH.out⟩
      clear HH
      have HH := HHx
      clear HHx
      go_wp2_with (first
        | ((with_reducible refine gate_ (.load 24 (.tmp 2)) rfl ?_); refine ev_loadA (OwnS.blk (S := fun _ => False) (w0 := w) (As := [Sep.blk g1 (vecC (joinL a b)) 24, Sep.blk g2 (vecC b) 24, Sep.blk g3 (vecC (List.replicate 16 (0 : Int))) 24]) ?_ 0 rfl) 0 16 (vecC (joinL a b)) (all_of _ 16 (vecC_size _ (joinL_len _ _))) rfl rfl (by rfl) Try.underlying24 rfl (vecC_size _ (joinL_len _ _)) (by kernel_rfl) ?_; (focus first | with_reducible exact HH.out | ((with_reducible repeat first | refine OwnS.alloc ?_ _ | refine OwnS.drewN ?_ _ | refine OwnS.drew ?_); with_reducible exact HH.out)))
        | ((with_reducible refine gate_ (.store 24 (.tmp 4) (.tmp 20)) rfl ?_); refine evS_storeA (S := fun _ => False) (w0 := w) (As := [Sep.blk g1 (vecC (joinL a b)) 24, Sep.blk g2 (vecC b) 24, Sep.blk g3 (vecC (List.replicate 16 (0 : Int))) 24]) ?_ 2 rfl rfl rfl rfl (by rfl) (.agg (vecC (joinL a b))) (by rfl) (vecC (joinL a b)) (by rfl) 16 16 (vecC_size _ (joinL_len _ _)) (vecC_size _ (by rfl)) (by kernel_rfl) (by decide) (vecC_one _) (vecC (joinL a b)) (put_all _ _ (by rw [(vecC_size _ (joinL_len _ _)), (vecC_size _ (by rfl))])) ?_; (focus first | with_reducible exact HH.out | ((with_reducible repeat first | refine OwnS.alloc ?_ _ | refine OwnS.drewN ?_ _ | refine OwnS.drew ?_); with_reducible exact HH.out)); intro w21 hh; have HHx : Aside0 (OwnS (fun _ => False) [Sep.blk g1 (vecC (joinL a b)) 24, Sep.blk g2 (vecC b) 24, Sep.blk g3 (vecC (joinL a b)) 24] w w21) := ⟨hh⟩; clear HH; have HH := HHx; clear HHx; clear hh)
        | fail
        | fail)
      refine bodyPost_ret (v := .agg (vecC (joinL a b))) (results_cell_row rfl _ _ g3 24 (vecC (joinL a b)) (0, 0) _ rfl (OwnS.blk HH.out 2 rfl) Try.underlying24 rfl (by rw [(vecC_size _ (joinL_len _ _))]; kernel_rfl)) rfl ?_
      exact ⟨rfl, below_frm (OwnS.frm HH.out)⟩

set_option maxHeartbeats 2000000 in
set_option maxRecDepth 100000 in
theorem rjoin_calls (w : World) (a b : List Int) (ha : a.length = 16) (hb : b.length = 16) : Calls Try.prog 39 #[.agg (vecC a), .agg (vecC b)] w (Kept (.agg (vecC (joinL a b))) w) := by
  have HH : Aside0 (OwnS (fun _ => False) [] w w) := ⟨OwnS.of_own (Own.start w)⟩
  go_enter Try.func39, Try.ntmps39
  go_wp2_with (first
    | ((with_reducible refine gate_dst (N := 2) rfl ?_); refine evS_box (S := fun _ => False) (w0 := w) (As := []) ?_ rfl (cs := vecC a) (T := 24) ?_ ?_; (focus first | with_reducible exact HH.out | ((with_reducible repeat first | refine OwnS.alloc ?_ _ | refine OwnS.drewN ?_ _ | refine OwnS.drew ?_); with_reducible exact HH.out)); (focus first | (go_simp; done) | (go_simp; rfl)); intro g1 w1 he hh; clear he; have HHx : Aside0 (OwnS (fun _ => False) [Sep.blk g1 (vecC a) 24] w w1) := ⟨hh⟩; clear HH; have HH := HHx; clear HHx; clear hh)
    | ((with_reducible refine gate_dst (N := 3) rfl ?_); refine evS_box (S := fun _ => False) (w0 := w) (As := [Sep.blk g1 (vecC a) 24]) ?_ rfl (cs := vecC b) (T := 24) ?_ ?_; (focus first | with_reducible exact HH.out | ((with_reducible repeat first | refine OwnS.alloc ?_ _ | refine OwnS.drewN ?_ _ | refine OwnS.drew ?_); with_reducible exact HH.out)); (focus first | (go_simp; done) | (go_simp; rfl)); intro g2 w2 he hh; clear he; have HHx : Aside0 (OwnS (fun _ => False) [Sep.blk g1 (vecC a) 24, Sep.blk g2 (vecC b) 24] w w2) := ⟨hh⟩; clear HH; have HH := HHx; clear HHx; clear hh)
    | ((with_reducible refine gate_dst (N := 4) rfl ?_); refine evS_box (S := fun _ => False) (w0 := w) (As := [Sep.blk g1 (vecC a) 24, Sep.blk g2 (vecC b) 24]) ?_ rfl (cs := vecC (List.replicate 16 (0 : Int))) (T := 24) ?_ ?_; (focus first | with_reducible exact HH.out | ((with_reducible repeat first | refine OwnS.alloc ?_ _ | refine OwnS.drewN ?_ _ | refine OwnS.drew ?_); with_reducible exact HH.out)); (focus first | (go_simp; done) | (go_simp; rfl)); intro g3 w3 he hh; clear he; have HHx : Aside0 (OwnS (fun _ => False) [Sep.blk g1 (vecC a) 24, Sep.blk g2 (vecC b) 24, Sep.blk g3 (vecC (List.replicate 16 (0 : Int))) 24] w w3) := ⟨hh⟩; clear HH; have HH := HHx; clear HHx; clear hh)
    | fail
    | fail)
  go_loopw [5] (fun vi W => ∃ (i : Nat), vi = .int .i64 (i : Int) ∧ i ≤ 16 ∧ Aside0 (OwnS (fun _ => False) [Sep.blk g1 (vecC (joinN a b i)) 24, Sep.blk g2 (vecC b) 24, Sep.blk g3 (vecC (List.replicate 16 (0 : Int))) 24] w W)) (fun vi _ => 16 - (intOf vi).toNat)
  case atStart => exact ⟨0, rfl, by omega, ⟨by rw [joinN_zero a b ha]; exact HH.out⟩⟩
  case round =>
    clear HH
    obtain ⟨i, rfl, hi, HH⟩ := hrel
    by_cases hlt : i < 16
    · obtain ⟨x, hx⟩ : ∃ x, (joinN a b i).getD i 0 = x := ⟨_, rfl⟩
      obtain ⟨y, hy⟩ : ∃ y, b.getD i 0 = y := ⟨_, rfl⟩
      have HX := Aside0.mk hx
      have HS : Aside0 ((joinN a b i).set i (if x < y then y else x) = joinN a b (i + 1)) := ⟨by
        have h1 := joinN_at a b i i hlt
        rw [if_neg (Nat.lt_irrefl _), hx] at h1
        rw [h1, ← hy]
        exact joinN_step a b i hlt⟩
      clear hx
      have fa : wr.cell? ⟨g1, i, none⟩ = some (.int .u16 x) := (by rw [← HX.out]; exact (blk_cell (OwnS.blk (S := fun _ => False) (w0 := w) (As := [Sep.blk g1 (vecC (joinN a b i)) 24, Sep.blk g2 (vecC b) 24, Sep.blk g3 (vecC (List.replicate 16 (0 : Int))) 24]) HH.out 0 rfl) i).trans (vecC_at _ i (by rw [joinN_len]; exact hlt)))
      have fz : wr.frozen? ⟨g1, i, none⟩ = false := blk_frozen (OwnS.blk (S := fun _ => False) (w0 := w) (As := [Sep.blk g1 (vecC (joinN a b i)) 24, Sep.blk g2 (vecC b) 24, Sep.blk g3 (vecC (List.replicate 16 (0 : Int))) 24]) HH.out 0 rfl) i
      have fb : wr.cell? ⟨g2, i, none⟩ = some (.int .u16 y) := (by rw [← hy]; exact (blk_cell (OwnS.blk (S := fun _ => False) (w0 := w) (As := [Sep.blk g1 (vecC (joinN a b i)) 24, Sep.blk g2 (vecC b) 24, Sep.blk g3 (vecC (List.replicate 16 (0 : Int))) 24]) HH.out 1 rfl) i).trans (vecC_at _ i (by rw [hb]; exact hlt)))
      clear hy
      have q0 : 0 ≤ (i : Int) := by omega
      have q1 : (i : Int) < 16 := by omega
      go_wp2_with fail
      go_region_law (fail)
      all_goals (go_wp2_with fail; go_roundw)
      all_goals first | exact ⟨i + 1, by go_num, by omega, ⟨by rw [← HS.out]; exact OwnS.drew (OwnS.setV HH.out 0 rfl i _)⟩⟩ | (simp [intOf]; omega)
    · have hi16 : i = 16 := by omega
      subst hi16
      have HHx : Aside0 (OwnS (fun _ => False) [Sep.blk g1 (vecC (joinL a b)) 24, Sep.blk g2 (vecC b) 24, Sep.blk g3 (vecC (List.replicate 16 (0 : Int))) 24] w wr) := ⟨HH.out⟩
      clear HH
      have HH := HHx
      clear HHx
      go_wp2_with (first
        | ((with_reducible refine gate_ (.load 24 (.tmp 2)) rfl ?_); refine ev_loadA (OwnS.blk (S := fun _ => False) (w0 := w) (As := [Sep.blk g1 (vecC (joinL a b)) 24, Sep.blk g2 (vecC b) 24, Sep.blk g3 (vecC (List.replicate 16 (0 : Int))) 24]) ?_ 0 rfl) 0 16 (vecC (joinL a b)) (all_of _ 16 (vecC_size _ (joinL_len _ _))) rfl rfl (by rfl) Try.underlying24 rfl (vecC_size _ (joinL_len _ _)) (by kernel_rfl) ?_; (focus first | with_reducible exact HH.out | ((with_reducible repeat first | refine OwnS.alloc ?_ _ | refine OwnS.drewN ?_ _ | refine OwnS.drew ?_); with_reducible exact HH.out)))
        | ((with_reducible refine gate_ (.store 24 (.tmp 4) (.tmp 19)) rfl ?_); refine evS_storeA (S := fun _ => False) (w0 := w) (As := [Sep.blk g1 (vecC (joinL a b)) 24, Sep.blk g2 (vecC b) 24, Sep.blk g3 (vecC (List.replicate 16 (0 : Int))) 24]) ?_ 2 rfl rfl rfl rfl (by rfl) (.agg (vecC (joinL a b))) (by rfl) (vecC (joinL a b)) (by rfl) 16 16 (vecC_size _ (joinL_len _ _)) (vecC_size _ (by rfl)) (by kernel_rfl) (by decide) (vecC_one _) (vecC (joinL a b)) (put_all _ _ (by rw [(vecC_size _ (joinL_len _ _)), (vecC_size _ (by rfl))])) ?_; (focus first | with_reducible exact HH.out | ((with_reducible repeat first | refine OwnS.alloc ?_ _ | refine OwnS.drewN ?_ _ | refine OwnS.drew ?_); with_reducible exact HH.out)); intro w21 hh; have HHx : Aside0 (OwnS (fun _ => False) [Sep.blk g1 (vecC (joinL a b)) 24, Sep.blk g2 (vecC b) 24, Sep.blk g3 (vecC (joinL a b)) 24] w w21) := ⟨hh⟩; clear HH; have HH := HHx; clear HHx; clear hh)
        | fail
        | fail)
      refine bodyPost_ret (v := .agg (vecC (joinL a b))) (results_cell_row rfl _ _ g3 24 (vecC (joinL a b)) (0, 0) _ rfl (OwnS.blk HH.out 2 rfl) Try.underlying24 rfl (by rw [(vecC_size _ (joinL_len _ _))]; kernel_rfl)) rfl ?_
      exact ⟨rfl, below_frm (OwnS.frm HH.out)⟩
end Go.Proofs.Ytkifekjcpnoclaa.Hld
