/- The walk of the reference's Counts. -/
import Derived.Test.YthkofjlbnekgkaaTrcPlain
namespace Go.Proofs.Ythkofjlbnekgkaa.Trc
open Go Go.RowKit Go.Proofs.YthkofjlbnekgkaaW.PrintWords Go.Proofs.Ythkofjlbnekgkaa.PTraceAgrees
set_option linter.unusedVariables false
set_option linter.unusedSimpArgs false
attribute [local go_sem high] eqA50 eqA52 eqA54

def cntR (l : List S52) (view : Int) (m : Nat) : Int := ((ofR l view (m : Int)).length : Int) % 65536
/-- the first i counts; nought behind -/
def cntRL (l : List S52) (view : Int) (i : Nat) : List Int := (List.range 16).map fun m => if m < i then cntR l view m else 0
theorem cntRL_set (l : List S52) (v : Int) (i : Nat) (h : i < 16) : (cntRL l v i).set i (cntR l v i) = cntRL l v (i + 1) := by
  apply List.ext_getElem
  · simp [cntRL]
  · intro m h2 h3
    have hm : m < 16 := by simpa [cntRL] using h2
    rw [List.getElem_set]
    simp only [cntRL, List.getElem_map, List.getElem_range]
    by_cases e : i = m
    · subst e; simp
    · rw [if_neg e]
      by_cases h1 : m < i
      · rw [if_pos h1, if_pos (by omega)]
      · rw [if_neg h1, if_neg (by omega)]
theorem cntRL_zero (l : List S52) (v : Int) : cntRL l v 0 = cntL [] 0 := by
  unfold cntRL cntL
  apply List.map_congr_left
  intro m _
  simp [cnt, ofL]
theorem cntRL_all (l : List S52) (v : Int) : cntRL l v 16 = cntL (l.map conv) v := by
  unfold cntRL cntL
  apply List.map_congr_left
  intro m hm
  have : m < 16 := by simpa using hm
  rw [if_pos this]
  unfold cntR cnt
  rw [ofR_conv, List.length_map]
theorem cntRL_rd (l : List S52) (v : Int) (i : Nat) (h : i < 16) : (nums .u16 (cntRL l v i)).toArray[i]? = some (.int .u16 0) := by
  simp [nums, cntRL, h]

set_option maxHeartbeats 1000000 in
set_option maxRecDepth 100000 in
theorem rcounts_calls (A : Option Addr) (c : Nat) (l : List S52) (v : Int) (w : World) (hr : Kd.C k52 w A l.length l) (hc : l.length ≤ c) (hl : l.length < 3518437208883) :
    Calls Try.prog 18 #[.slice A l.length c, .int .i64 v] w (Kept (vecV (cntL (l.map conv) v)) w) := by
  have HR := Aside0.mk hr
  clear hr
  have HB := Aside0.mk (Below.refl w.heap.size w)
  go_enter Try.func18, Try.ntmps18
  go_wp2_with fail
  go_loopw [6] (fun v6 w' => ∃ (i : Nat), v6 = .int .i64 (i : Int) ∧ i ≤ 16 ∧ Aside0 (w'.heap[w.heap.size + 1]? = some (.cells (nums .u16 (cntRL l v i)).toArray 35 (0, 0))) ∧ Aside0 (w'.heap[w.heap.size]? = some (.cells (nums .u16 (cntRL l v 0)).toArray 35 (0, 0))) ∧ Aside0 (Below w.heap.size w w')) (fun v6 _ => 16 - (intOf v6).toNat)
  case atStart =>
    refine ⟨0, rfl, by omega, ⟨?_⟩, ⟨blk_alloc (blk_new _ _) _⟩, ⟨below_alloc (below_alloc HB.out _) _⟩⟩
    have h := blk_new (w.alloc (.cells (nums .u16 (cntRL l v 0)).toArray 35)) (.cells (nums .u16 (cntRL l v 0)).toArray 35)
    rw [show (w.alloc (.cells (nums .u16 (cntRL l v 0)).toArray 35)).heap.size = w.heap.size + 1 from by simp] at h
    exact h
  case round =>
    clear HB
    obtain ⟨i, rfl, hi, HV, HZ, HB⟩ := hrel
    by_cases hlt : i < 16
    · obtain ⟨k, hk⟩ := (ev_rof l v (i : Int) hl).rounds
      have HK := Aside0.mk hk
      have HC := Aside0.mk (Kd.C_below HR.out HB.out)
      have HLn := Aside0.mk (show (ofR l v (i : Int)).length < 3518437208883 from Nat.lt_of_le_of_lt (ofR_length _ _ _) hl)
      clear hk
      have hu8 : IntKind.u8.wrap (i : Int) = (i : Int) := by rw [IntKind.wrap_u8]; omega
      go_wp2_with (go_at_call 14; refine (chantryref22_Of.calls k _ _ l v (i : Int) (ofR l v (i : Int)) _ HC.out hc HK.out).mono ?_; rintro e w1 ⟨v0, rfl, ho, hb⟩; obtain ⟨A1, c1, ev⟩ := Kd.R_slice ho; subst ev; have HBx := Aside0.mk (below_back hb HB.out); have HVx := Aside0.mk (blk_below HV.out hb); have HZx := Aside0.mk (blk_below HZ.out hb); clear HB HV HZ HC ho hb; have HB := HBx; have HV := HVx; have HZ := HZx; clear HBx HVx HZx; have hcell := (blk_cell HV.out i).trans (cntRL_rd l v i hlt); have hfr : w1.frozen? ⟨w.heap.size + 1, i, none⟩ = false := blk_frozen HV.out _; have hsz := blk_lt HV.out)
      go_roundw
      case rel =>
        refine ⟨i + 1, by go_num, by omega, ⟨?_⟩, ⟨?_⟩, ⟨?_⟩⟩
        · rw [← cntRL_set l v i hlt, ← nums_set]
          unfold cntR
          rw [← IntKind.wrap_u16]
          exact blk_set HV.out _ _
        · exact blk_far HZ.out (by show w.heap.size ≠ w.heap.size + 1; omega) _
        · exact Below.setCell HB.out (by show w.heap.size ≤ w.heap.size + 1; omega) _
      case measure => simp [intOf]; omega
    · have hi16 : i = 16 := by omega
      subst hi16
      have hz16 : (nums .u16 (cntRL l v 16)).toArray.size = 16 := by simp [nums, cntRL]
      have hz0 : (nums .u16 (cntRL l v 0)).toArray.size = 16 := by simp [nums, cntRL]
      go_wp2_with (first
        | (refine wpList_load_row rfl 35 (.tmp 5) rfl (w.heap.size + 1) rfl 35 (nums .u16 (cntRL l v 16)).toArray (0, 0) _ HV.out Try.underlying35 rfl (by rw [hz16]; kernel_rfl) ?_)
        | (refine wpList_store_row rfl 35 (.tmp 4) (.tmp 20) rfl w.heap.size (nums .u16 (cntRL l v 16)).toArray rfl rfl 35 _ HZ.out (by rw [hz16]; kernel_rfl) (by simp [nums, cntRL]) (by simp [nums, cntRL, Value.oneCell']) ?_))
      rw [← cntRL_all]
      refine bodyPost_ret (v := vecV (cntRL l v 16)) (results_cell_row rfl _ _ w.heap.size 35 (nums .u16 (cntRL l v 16)).toArray (0, 0) _ rfl ?_ Try.underlying35 rfl (by rw [hz16]; kernel_rfl)) rfl ⟨rfl, ?_⟩
      · exact setRow_heap wr w.heap.size _ (nums .u16 (cntRL l v 16)).toArray _ _ HZ.out
      · exact below_setRow HB.out (Nat.le_refl _) _

end Go.Proofs.Ythkofjlbnekgkaa.Trc
