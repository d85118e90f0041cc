/- Below and Ready. -/
import Derived.Test.YtkifekjcpnoclaaHldVec
import Derived.Test.YtkifekjcpnoclaaArrEq
namespace Go.Proofs.Ytkifekjcpnoclaa.Hld
open Go Go.RowKit Go.Proofs.YtkifekjcpnoclaaW.PrintWords Go.Proofs.Ytkifekjcpnoclaa.Sep Go.Proofs.Ytkifekjcpnoclaa.Obj
set_option linter.unusedVariables false
set_option linter.unusedSimpArgs false

theorem okV_wf {v : List Int} (h : okV v) : ∀ x ∈ v, (Lit.int .u16 x).wf = true := by
  intro x hx
  have := h.2 x hx
  simp [Lit.wf, IntKind.min, IntKind.max, IntKind.signed, IntKind.bits]
  omega
theorem okV_join {a b : List Int} (ha : okV a) (hb : okV b) : okV (joinL a b) := by
  refine ⟨joinL_len a b, fun x hx => ?_⟩
  unfold joinL joinN at hx
  rw [List.mem_map] at hx
  obtain ⟨i, hi, rfl⟩ := hx
  have hi := List.mem_range.1 hi
  have h1 := okV_at ha i hi
  have h2 := okV_at hb i hi
  rw [if_pos hi]
  unfold mx
  split <;> omega
theorem getD_ext {a b : List Int} (ha : a.length = 16) (hb : b.length = 16) (h : ∀ i, i < 16 → a.getD i 0 = b.getD i 0) : a = b := by
  apply List.ext_getElem (by rw [ha, hb])
  intro i h1 h2
  have := h i (by omega)
  simpa [List.getD_eq_getElem?_getD, h1, h2] using this
theorem join_eq {a b : List Int} (hb : b.length = 16) : decide (joinL a b = b) = belL a b := by
  rw [Bool.eq_iff_iff, decide_eq_true_iff, belL_iff]
  constructor
  · intro h i hi
    have h1 := joinN_at a b 16 i hi
    rw [if_pos hi, show joinN a b 16 = b from h] at h1
    unfold mx at h1
    split at h1 <;> omega
  · intro h
    refine getD_ext (joinL_len a b) hb (fun i hi => ?_)
    have h1 := joinN_at a b 16 i hi
    rw [if_pos hi] at h1
    rw [show joinL a b = joinN a b 16 from rfl, h1]
    have := h i hi
    unfold mx
    split <;> omega
theorem cellsV : Try.prog.cellsOf 24 = 16 := by kernel_rfl
theorem cellsU : Try.prog.cellsOf 22 = 1 := by kernel_rfl
theorem keyV : Try.prog.keyTypeAt 9 24 = true := by kernel_rfl
theorem eqV (a b : List Int) (ha : okV a) (hb : okV b) (w : World) : (Op.equalIn 10000 24 (.agg (vecC a)) (.agg (vecC b))).run Try.prog w = .ok (decide (a = b)) w :=
  Mp.eq_arr Try.underlying24 Try.underlying22 cellsV cellsU keyV a b ha.1 hb.1 (okV_wf ha) (okV_wf hb) w

theorem range_vec {v : List Int} (hv : v.length = 16) {w : World} {g : Nat} {T : TypeId} (h : w.heap[g]? = some (.cells (vecC v) T (0, 0))) : w.rangeAt g 0 (nums .u16 v) := by
  have := World.rangeAt_of_block h 0 16
  rw [all_of _ 16 (vecC_size _ hv)] at this
  simpa [vecC] using this
theorem range_past {x : It} (hx : x.past.length = 16) {w : World} {g : Nat} {T : TypeId} (h : w.heap[g]? = some (.cells (itC x) T (0, 0))) : w.rangeAt g 3 (nums .u16 x.past) := by
  have := World.rangeAt_of_block h 3 16
  rw [itC_vec _ hx] at this
  simpa [vecC] using this
theorem range_it {x : It} (hx : x.past.length = 16) {w : World} {g : Nat} {T : TypeId} (h : w.heap[g]? = some (.cells (itC x) T (0, 0))) : w.rangeAt g 0 (itC x).toList := by
  have := World.rangeAt_of_block h 0 20
  rw [all_of _ 20 (itC_size _ hx)] at this
  exact this
theorem infoV {v : List Int} (hv : v.length = 16) : (Try.prog.info? 24).map (·.size) = some (nums .u16 v).length := by
  rw [nums_length, hv]
  kernel_rfl

set_option maxHeartbeats 4000000 in
set_option maxRecDepth 100000 in
theorem below_calls (w : World) (a b : List Int) (ha : okV a) (hb : okV b) : Calls Try.prog 37 #[.agg (vecC a), .agg (vecC b)] w (Kept (.bool (belL a b)) w) := by
  have hq : ∀ W : World, (Op.equalIn 10000 24 (.agg (vecC (joinL a b))) (.agg (nums .u16 b).toArray)).run Try.prog W = .ok (belL a b) W := fun W => by
    have := eqV (joinL a b) b (okV_join ha hb) hb W
    rw [join_eq hb.1] at this
    exact this
  have HA := Aside0.mk ha
  have HB := Aside0.mk hb
  clear ha hb
  have HH : Aside0 (OwnS (fun _ => False) [] w w) := ⟨OwnS.of_own (Own.start w)⟩
  go_enter Try.func37, Try.ntmps37
  go_wp2_with (first
    | ((with_reducible refine gate_dst (N := 2) rfl ?_); refine evS_box (S := fun _ => False) (w0 := w) (As := []) ?_ rfl (cs := vecC a) (T := 24) ?_ ?_; (focus first | with_reducible exact HH.out | ((with_reducible repeat first | refine OwnS.alloc ?_ _ | refine OwnS.drewN ?_ _ | refine OwnS.drew ?_); with_reducible exact HH.out)); (focus first | (go_simp; done) | (go_simp; rfl)); intro g1 w1 he hh; clear he; have HHx : Aside0 (OwnS (fun _ => False) [Sep.blk g1 (vecC a) 24] w w1) := ⟨hh⟩; clear HH; have HH := HHx; clear HHx; clear hh)
    | ((with_reducible refine gate_dst (N := 3) rfl ?_); refine evS_box (S := fun _ => False) (w0 := w) (As := [Sep.blk g1 (vecC a) 24]) ?_ rfl (cs := vecC b) (T := 24) ?_ ?_; (focus first | with_reducible exact HH.out | ((with_reducible repeat first | refine OwnS.alloc ?_ _ | refine OwnS.drewN ?_ _ | refine OwnS.drew ?_); with_reducible exact HH.out)); (focus first | (go_simp; done) | (go_simp; rfl)); intro g2 w2 he hh; clear he; have HHx : Aside0 (OwnS (fun _ => False) [Sep.blk g1 (vecC a) 24, Sep.blk g2 (vecC b) 24] w w2) := ⟨hh⟩; clear HH; have HH := HHx; clear HHx; clear hh)
    | fail
    | fail)
  have HKV : Aside0 (∀ w' : World, OwnS (fun _ => False) [Sep.blk g1 (vecC a) 24, Sep.blk g2 (vecC b) 24] w w' → (w'.rangeAt g1 0 (nums .u16 a) ∧ w'.rangeAt g2 0 (nums .u16 b))) := ⟨fun W h => ⟨range_vec HA.out.1 (OwnS.blk (S := fun _ => False) (w0 := w) (As := [Sep.blk g1 (vecC a) 24, Sep.blk g2 (vecC b) 24]) h 0 rfl), range_vec HB.out.1 (OwnS.blk (S := fun _ => False) (w0 := w) (As := [Sep.blk g1 (vecC a) 24, Sep.blk g2 (vecC b) 24]) h 1 rfl)⟩⟩
  refine wp_region_held_drew (S := fun w' => w'.rangeAt g1 0 (nums .u16 a) ∧ w'.rangeAt g2 0 (nums .u16 b)) (by kernel_rfl) ?_ (fun hHeld => ?_)
  focus (try dsimp only); (refine HKV.out _ ?_; (focus first | with_reducible exact HH.out | ((with_reducible repeat first | refine OwnS.alloc ?_ _ | refine OwnS.drewN ?_ _ | refine OwnS.drew ?_); with_reducible exact HH.out)))
  (try dsimp only at hHeld)
  refine tk (i := 0) (hy := yieldsIf_load_mid (by rfl) _ _ rfl _ _ rfl (nums .u16 a) _ ?_ Try.underlying24 rfl (infoV HA.out.1)) (h := ?_); (focus (intro w hSw; (try dsimp only at hSw); go_split_ands; assumption)); (try simp only [Act.put, List.setIfInBounds_toArray, List.set_cons_zero, List.set_cons_succ])
  refine tk (i := 1) (hy := yieldsIf_load_mid (by rfl) _ _ rfl _ _ rfl (nums .u16 b) _ ?_ Try.underlying24 rfl (infoV HB.out.1)) (h := ?_); (focus (intro w hSw; (try dsimp only at hSw); go_split_ands; assumption)); (try simp only [Act.put, List.setIfInBounds_toArray, List.set_cons_zero, List.set_cons_succ])
  refine tk (i := 3) (hy := yieldsIf_load_mid (by rfl) _ _ rfl _ _ rfl (nums .u16 b) _ ?_ Try.underlying24 rfl (infoV HB.out.1)) (h := ?_); (focus (intro w hSw; (try dsimp only at hSw); go_split_ands; assumption)); (try simp only [Act.put, List.setIfInBounds_toArray, List.set_cons_zero, List.set_cons_succ])
  refine wpAnyH_ready (rs := [2]) (by kernel_rfl) (by simp) ?_; refine AllReadyH.cons (by simp only [List.getElem?_toArray, List.getElem?_cons_succ, List.getElem?_cons_zero]; rfl) (fun K hK => ?_) AllReadyH.nil; go_simp; go_at_call 42; refine ownS_call (S := fun _ => False) (w0 := w) (As := [Sep.blk g1 (vecC a) 24, Sep.blk g2 (vecC b) 24]) ?_ ?_; (focus first | with_reducible exact HH.out | ((with_reducible repeat first | refine OwnS.alloc ?_ _ | refine OwnS.drewN ?_ _ | refine OwnS.drew ?_); with_reducible exact HH.out)); intro ht; refine (join_calls _ a b HA.out.1 HB.out.1).mono ?_; rintro e w3 ⟨rfl, hb⟩; have HHx : Aside0 (OwnS (fun _ => False) [Sep.blk g1 (vecC a) 24, Sep.blk g2 (vecC b) 24] w w3) := ⟨OwnS.step ht hb⟩; clear HH; have HH := HHx; clear HHx; clear hb; clear ht; refine hK.out _ _ ?_ (fun hHeld2 => ?_); (focus (try dsimp only); (refine HKV.out _ ?_; (focus first | with_reducible exact HH.out | ((with_reducible repeat first | refine OwnS.alloc ?_ _ | refine OwnS.drewN ?_ _ | refine OwnS.drew ?_); with_reducible exact HH.out)))); clear hK K hHeld; rename _ => hHeld; (try dsimp only at hHeld); (try simp only [Act.put, List.setIfInBounds_toArray, List.set_cons_zero, List.set_cons_succ])
  refine tk (i := 4) (v := .bool (belL a b)) (hy := Or.inl ⟨by rfl, ?_⟩) (h := ?_); (focus (intro w hSw; (try dsimp only at hSw); go_simp; try with_reducible rfl)); (try simp only [Act.put, List.setIfInBounds_toArray, List.set_cons_zero, List.set_cons_succ])
  refine tk (i := 5) (v := ?_) (hy := Or.inl ⟨by rfl, ?_⟩) (h := ?_); rotate_left; (focus (intro w hSw; (try dsimp only at hSw); go_simp; try with_reducible rfl)); (try simp only [Act.put, List.setIfInBounds_toArray, List.set_cons_zero, List.set_cons_succ])
  refine wpAnyH_done (by kernel_rfl) ?_ _
  go_wp2_with fail
  go_ret
  exact ⟨rfl, below_frm (OwnS.frm HH.out)⟩
end Go.Proofs.Ytkifekjcpnoclaa.Hld
