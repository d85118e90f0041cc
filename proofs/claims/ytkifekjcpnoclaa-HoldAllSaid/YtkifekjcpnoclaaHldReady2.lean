/- Ready. -/
import Derived.Test.YtkifekjcpnoclaaHldReady
namespace Go.Proofs.Ytkifekjcpnoclaa.Hld
open Go Go.RowKit Go.Proofs.YtkifekjcpnoclaaW.PrintWords Go.Proofs.Ytkifekjcpnoclaa.Sep Go.Proofs.Ytkifekjcpnoclaa.Obj
set_option linter.unusedVariables false
set_option linter.unusedSimpArgs false

def readyB (told : List Int) (x : It) : Bool := rightI x && decide (told.getD x.frm.toNat 0 = x.seq) && belL x.past told

set_option maxHeartbeats 8000000 in
set_option maxRecDepth 100000 in
theorem ready_calls (w : World) (told : List Int) (x : It) (ht0 : okV told) (hx : okI x) : Calls Try.prog 15 #[.agg (vecC told), .agg (itC x)] w (Kept (.bool (readyB told x)) w) := by
  have HT := Aside0.mk ht0
  have HX := Aside0.mk hx
  have HH : Aside0 (OwnS (fun _ => False) [] w w) := ⟨OwnS.of_own (Own.start w)⟩
  cases hm : rightI x with
  | false =>
      have HM := Aside0.mk hm
      have HR : Aside0 (readyB told x = false) := ⟨by unfold readyB; rw [hm]; rfl⟩
      clear hm ht0 hx
      go_enter Try.func15, Try.ntmps15
      go_wp2_with (first
        | ((with_reducible refine gate_dst (N := 2) rfl ?_); refine evS_box (S := fun _ => False) (w0 := w) (As := []) ?_ rfl (cs := vecC told) (T := 24) ?_ ?_; (focus first | with_reducible exact HH.out | ((with_reducible repeat first | refine OwnS.alloc ?_ _ | refine OwnS.drewN ?_ _ | refine OwnS.drew ?_); with_reducible exact HH.out)); (focus first | (go_simp; done) | (go_simp; rfl)); intro g1 w1 he hh; clear he; have HHx : Aside0 (OwnS (fun _ => False) [Sep.blk g1 (vecC told) 24] w w1) := ⟨hh⟩; clear HH; have HH := HHx; clear HHx; clear hh)
        | ((with_reducible refine gate_dst (N := 3) rfl ?_); refine evS_box (S := fun _ => False) (w0 := w) (As := [Sep.blk g1 (vecC told) 24]) ?_ rfl (cs := itC x) (T := 43) ?_ ?_; (focus first | with_reducible exact HH.out | ((with_reducible repeat first | refine OwnS.alloc ?_ _ | refine OwnS.drewN ?_ _ | refine OwnS.drew ?_); with_reducible exact HH.out)); (focus first | (go_simp; done) | (go_simp; rfl)); intro g2 w2 he hh; clear he; have HHx : Aside0 (OwnS (fun _ => False) [Sep.blk g1 (vecC told) 24, Sep.blk g2 (itC x) 43] w w2) := ⟨hh⟩; clear HH; have HH := HHx; clear HHx; clear hh)
        | fail
        | fail)
      have HKV : Aside0 (∀ w' : World, OwnS (fun _ => False) [Sep.blk g1 (vecC told) 24, Sep.blk g2 (itC x) 43] w w' → (w'.rangeAt g2 0 (itC x).toList)) := ⟨fun W h => range_it HX.out.1.1 (OwnS.blk (S := fun _ => False) (w0 := w) (As := [Sep.blk g1 (vecC told) 24, Sep.blk g2 (itC x) 43]) h 1 rfl)⟩
      refine wp_region_held_drew (S := fun w' => w'.rangeAt g2 0 (itC x).toList) (by kernel_rfl) ?_ (fun hHeld => ?_)
      focus (try dsimp only); (refine HKV.out _ ?_; (focus first | with_reducible exact HH.out | ((with_reducible repeat first | refine OwnS.alloc ?_ _ | refine OwnS.drewN ?_ _ | refine OwnS.drew ?_); with_reducible exact HH.out)))
      (try dsimp only at hHeld)
      refine tk (i := 0) (hy := yieldsIf_load_mid (by rfl) _ _ rfl _ _ rfl ((itC x).toList) _ ?_ Try.underlying43 rfl (by rw [Array.length_toList, (itC_size _ HX.out.1.1)]; kernel_rfl)) (h := ?_); (focus (intro w hSw; (try dsimp only at hSw); go_split_ands; assumption)); (try simp only [Act.put, List.setIfInBounds_toArray, List.set_cons_zero, List.set_cons_succ])
      refine wpAnyH_ready (rs := [1]) (by kernel_rfl) (by simp) ?_; refine AllReadyH.cons (by simp only [List.getElem?_toArray, List.getElem?_cons_succ, List.getElem?_cons_zero]; rfl) (fun K hK => ?_) AllReadyH.nil; go_simp; go_at_call 28; refine ownS_call (S := fun _ => False) (w0 := w) (As := [Sep.blk g1 (vecC told) 24, Sep.blk g2 (itC x) 43]) ?_ ?_; (focus first | with_reducible exact HH.out | ((with_reducible repeat first | refine OwnS.alloc ?_ _ | refine OwnS.drewN ?_ _ | refine OwnS.drew ?_); with_reducible exact HH.out)); intro ht; refine (imay_calls _ x HX.out).mono ?_; rintro e w3 ⟨rfl, hb⟩; rw [HM.out]; have HHx : Aside0 (OwnS (fun _ => False) [Sep.blk g1 (vecC told) 24, Sep.blk g2 (itC x) 43] w w3) := ⟨OwnS.step ht hb⟩; clear HH; have HH := HHx; clear HHx; clear hb; clear ht; refine hK.out _ _ ?_ (fun hHeld2 => ?_); (focus (try dsimp only); (refine HKV.out _ ?_; (focus first | with_reducible exact HH.out | ((with_reducible repeat first | refine OwnS.alloc ?_ _ | refine OwnS.drewN ?_ _ | refine OwnS.drew ?_); with_reducible exact HH.out)))); clear hK K hHeld; rename _ => hHeld; (try dsimp only at hHeld); (try simp only [Act.put, List.setIfInBounds_toArray, List.set_cons_zero, List.set_cons_succ])
      refine tk (i := 2) (v := .bool false) (hy := Or.inl ⟨by rfl, ?_⟩) (h := ?_); (focus (intro w hSw; (try dsimp only at hSw); go_simp; try with_reducible rfl)); (try simp only [Act.put, List.setIfInBounds_toArray, List.set_cons_zero, List.set_cons_succ])
      refine tk (i := 3) (v := undef) (hy := Or.inr ⟨by rfl, rfl⟩) (h := ?_); (try simp only [Act.put, List.setIfInBounds_toArray, List.set_cons_zero, List.set_cons_succ])
      refine tk (i := 4) (v := undef) (hy := Or.inr ⟨by rfl, rfl⟩) (h := ?_); (try simp only [Act.put, List.setIfInBounds_toArray, List.set_cons_zero, List.set_cons_succ])
      refine tk (i := 5) (v := undef) (hy := Or.inr ⟨by rfl, rfl⟩) (h := ?_); (try simp only [Act.put, List.setIfInBounds_toArray, List.set_cons_zero, List.set_cons_succ])
      refine tk (i := 6) (v := undef) (hy := Or.inr ⟨by rfl, rfl⟩) (h := ?_); (try simp only [Act.put, List.setIfInBounds_toArray, List.set_cons_zero, List.set_cons_succ])
      refine tk (i := 7) (v := undef) (hy := Or.inr ⟨by rfl, rfl⟩) (h := ?_); (try simp only [Act.put, List.setIfInBounds_toArray, List.set_cons_zero, List.set_cons_succ])
      refine tk (i := 8) (v := undef) (hy := Or.inr ⟨by rfl, rfl⟩) (h := ?_); (try simp only [Act.put, List.setIfInBounds_toArray, List.set_cons_zero, List.set_cons_succ])
      refine tk (i := 9) (v := undef) (hy := Or.inr ⟨by rfl, rfl⟩) (h := ?_); (try simp only [Act.put, List.setIfInBounds_toArray, List.set_cons_zero, List.set_cons_succ])
      refine tk (i := 10) (v := undef) (hy := Or.inr ⟨by rfl, rfl⟩) (h := ?_); (try simp only [Act.put, List.setIfInBounds_toArray, List.set_cons_zero, List.set_cons_succ])
      refine tk (i := 11) (v := .bool false) (hy := Or.inl ⟨by rfl, ?_⟩) (h := ?_); (focus (intro w hSw; (try dsimp only at hSw); go_simp; try with_reducible rfl)); (try simp only [Act.put, List.setIfInBounds_toArray, List.set_cons_zero, List.set_cons_succ])
      refine tk (i := 12) (v := .bool false) (hy := Or.inl ⟨by rfl, ?_⟩) (h := ?_); (focus (intro w hSw; (try dsimp only at hSw); go_simp; try with_reducible rfl)); (try simp only [Act.put, List.setIfInBounds_toArray, List.set_cons_zero, List.set_cons_succ])
      refine tk (i := 13) (v := undef) (hy := Or.inr ⟨by rfl, rfl⟩) (h := ?_); (try simp only [Act.put, List.setIfInBounds_toArray, List.set_cons_zero, List.set_cons_succ])
      refine tk (i := 14) (v := undef) (hy := Or.inr ⟨by rfl, rfl⟩) (h := ?_); (try simp only [Act.put, List.setIfInBounds_toArray, List.set_cons_zero, List.set_cons_succ])
      refine tk (i := 15) (v := undef) (hy := Or.inr ⟨by rfl, rfl⟩) (h := ?_); (try simp only [Act.put, List.setIfInBounds_toArray, List.set_cons_zero, List.set_cons_succ])
      refine tk (i := 16) (v := undef) (hy := Or.inr ⟨by rfl, rfl⟩) (h := ?_); (try simp only [Act.put, List.setIfInBounds_toArray, List.set_cons_zero, List.set_cons_succ])
      refine tk (i := 17) (v := undef) (hy := Or.inr ⟨by rfl, rfl⟩) (h := ?_); (try simp only [Act.put, List.setIfInBounds_toArray, List.set_cons_zero, List.set_cons_succ])
      refine tk (i := 18) (v := ?_) (hy := Or.inl ⟨by rfl, ?_⟩) (h := ?_); rotate_left; (focus (intro w hSw; (try dsimp only at hSw); go_simp; try with_reducible rfl)); (try simp only [Act.put, List.setIfInBounds_toArray, List.set_cons_zero, List.set_cons_succ])
      refine tk (i := 19) (v := ?_) (hy := Or.inl ⟨by rfl, ?_⟩) (h := ?_); rotate_left; (focus (intro w hSw; (try dsimp only at hSw); go_simp; try with_reducible rfl)); (try simp only [Act.put, List.setIfInBounds_toArray, List.set_cons_zero, List.set_cons_succ])
      refine wpAnyH_done (by kernel_rfl) ?_ _
      go_wp2_with fail
      go_ret
      exact ⟨by rw [HR.out]; rfl, below_frm (OwnS.frm HH.out)⟩
  | true =>
    have hf0 : 0 ≤ x.frm := hx.2.1.1
    obtain ⟨f, hfx⟩ : ∃ f, x.frm = f := ⟨_, rfl⟩
    obtain ⟨q, hqx⟩ : ∃ q, x.seq = q := ⟨_, rfl⟩
    have HFX := Aside0.mk hfx
    have HQX := Aside0.mk hqx
    have hf16 : f < 16 := by
      unfold rightI rightB at hm
      rw [Bool.and_eq_true, Bool.and_eq_true] at hm
      rw [← hfx]
      exact of_decide_eq_true hm.1.2
    rw [hfx] at hf0
    have HF : Aside0 (f.toNat < 16) := ⟨by omega⟩
    obtain ⟨n, hn⟩ : ∃ n, told.getD f.toNat 0 = n := ⟨_, rfl⟩
    have hr := okV_at HT.out f.toNat HF.out
    rw [hn] at hr
    have HN := Aside0.mk hn
    have hw := wrap_u16 hr.1 hr.2
    have hnn : 0 ≤ n := hr.1
    have HM := Aside0.mk hm
    have HR : Aside0 (readyB told x = (decide (n = q) && belL x.past told)) := ⟨by unfold readyB; rw [hm]; simp only [Bool.true_and]; rw [hfx, hqx, hn]⟩
    clear hm hn hr hfx hqx ht0 hx
    by_cases hnq : n = q
    · have hb1 : (n == q) = true := by simp [hnq]
      have HNQ := Aside0.mk hnq
      clear hnq
      go_enter Try.func15, Try.ntmps15
      go_wp2_with (first
        | ((with_reducible refine gate_dst (N := 2) rfl ?_); refine evS_box (S := fun _ => False) (w0 := w) (As := []) ?_ rfl (cs := vecC told) (T := 24) ?_ ?_; (focus first | with_reducible exact HH.out | ((with_reducible repeat first | refine OwnS.alloc ?_ _ | refine OwnS.drewN ?_ _ | refine OwnS.drew ?_); with_reducible exact HH.out)); (focus first | (go_simp; done) | (go_simp; rfl)); intro g1 w1 he hh; clear he; have HHx : Aside0 (OwnS (fun _ => False) [Sep.blk g1 (vecC told) 24] w w1) := ⟨hh⟩; clear HH; have HH := HHx; clear HHx; clear hh)
        | ((with_reducible refine gate_dst (N := 3) rfl ?_); refine evS_box (S := fun _ => False) (w0 := w) (As := [Sep.blk g1 (vecC told) 24]) ?_ rfl (cs := itC x) (T := 43) ?_ ?_; (focus first | with_reducible exact HH.out | ((with_reducible repeat first | refine OwnS.alloc ?_ _ | refine OwnS.drewN ?_ _ | refine OwnS.drew ?_); with_reducible exact HH.out)); (focus first | (go_simp; done) | (go_simp; rfl)); intro g2 w2 he hh; clear he; have HHx : Aside0 (OwnS (fun _ => False) [Sep.blk g1 (vecC told) 24, Sep.blk g2 (itC x) 43] w w2) := ⟨hh⟩; clear HH; have HH := HHx; clear HHx; clear hh)
        | fail
        | fail)
      have HKV : Aside0 (∀ w' : World, OwnS (fun _ => False) [Sep.blk g1 (vecC told) 24, Sep.blk g2 (itC x) 43] w w' → (w'.rangeAt g2 0 (itC x).toList ∧ w'.cell? ⟨g2, 0, none⟩ = some (.int .u8 f) ∧ w'.cell? ⟨g2, 1, none⟩ = some (.int .i64 q) ∧ w'.rangeAt g1 0 (nums .u16 told) ∧ w'.cell? ⟨g1, f.toNat, none⟩ = some (.int .u16 n) ∧ w'.rangeAt g2 3 (nums .u16 x.past))) := ⟨fun W h => ⟨range_it HX.out.1.1 (OwnS.blk (S := fun _ => False) (w0 := w) (As := [Sep.blk g1 (vecC told) 24, Sep.blk g2 (itC x) 43]) h 1 rfl), (by rw [← HFX.out]; exact blk_cell (OwnS.blk (S := fun _ => False) (w0 := w) (As := [Sep.blk g1 (vecC told) 24, Sep.blk g2 (itC x) 43]) h 1 rfl) 0), (by rw [← HQX.out]; exact blk_cell (OwnS.blk (S := fun _ => False) (w0 := w) (As := [Sep.blk g1 (vecC told) 24, Sep.blk g2 (itC x) 43]) h 1 rfl) 1), range_vec HT.out.1 (OwnS.blk (S := fun _ => False) (w0 := w) (As := [Sep.blk g1 (vecC told) 24, Sep.blk g2 (itC x) 43]) h 0 rfl), (by rw [← HN.out]; exact (blk_cell (OwnS.blk (S := fun _ => False) (w0 := w) (As := [Sep.blk g1 (vecC told) 24, Sep.blk g2 (itC x) 43]) h 0 rfl) f.toNat).trans (vecC_at _ f.toNat (by rw [HT.out.1]; exact HF.out))), range_past HX.out.1.1 (OwnS.blk (S := fun _ => False) (w0 := w) (As := [Sep.blk g1 (vecC told) 24, Sep.blk g2 (itC x) 43]) h 1 rfl)⟩⟩
      refine wp_region_held_drew (S := fun w' => w'.rangeAt g2 0 (itC x).toList ∧ w'.cell? ⟨g2, 0, none⟩ = some (.int .u8 f) ∧ w'.cell? ⟨g2, 1, none⟩ = some (.int .i64 q) ∧ w'.rangeAt g1 0 (nums .u16 told) ∧ w'.cell? ⟨g1, f.toNat, none⟩ = some (.int .u16 n) ∧ w'.rangeAt g2 3 (nums .u16 x.past)) (by kernel_rfl) ?_ (fun hHeld => ?_)
      focus (try dsimp only); (refine HKV.out _ ?_; (focus first | with_reducible exact HH.out | ((with_reducible repeat first | refine OwnS.alloc ?_ _ | refine OwnS.drewN ?_ _ | refine OwnS.drew ?_); with_reducible exact HH.out)))
      (try dsimp only at hHeld)
      refine tk (i := 0) (hy := yieldsIf_load_mid (by rfl) _ _ rfl _ _ rfl ((itC x).toList) _ ?_ Try.underlying43 rfl (by rw [Array.length_toList, (itC_size _ HX.out.1.1)]; kernel_rfl)) (h := ?_); (focus (intro w hSw; (try dsimp only at hSw); go_split_ands; assumption)); (try simp only [Act.put, List.setIfInBounds_toArray, List.set_cons_zero, List.set_cons_succ])
      refine wpAnyH_ready (rs := [1]) (by kernel_rfl) (by simp) ?_; refine AllReadyH.cons (by simp only [List.getElem?_toArray, List.getElem?_cons_succ, List.getElem?_cons_zero]; rfl) (fun K hK => ?_) AllReadyH.nil; go_simp; go_at_call 28; refine ownS_call (S := fun _ => False) (w0 := w) (As := [Sep.blk g1 (vecC told) 24, Sep.blk g2 (itC x) 43]) ?_ ?_; (focus first | with_reducible exact HH.out | ((with_reducible repeat first | refine OwnS.alloc ?_ _ | refine OwnS.drewN ?_ _ | refine OwnS.drew ?_); with_reducible exact HH.out)); intro ht; refine (imay_calls _ x HX.out).mono ?_; rintro e w3 ⟨rfl, hb⟩; rw [HM.out]; have HHx : Aside0 (OwnS (fun _ => False) [Sep.blk g1 (vecC told) 24, Sep.blk g2 (itC x) 43] w w3) := ⟨OwnS.step ht hb⟩; clear HH; have HH := HHx; clear HHx; clear hb; clear ht; refine hK.out _ _ ?_ (fun hHeld2 => ?_); (focus (try dsimp only); (refine HKV.out _ ?_; (focus first | with_reducible exact HH.out | ((with_reducible repeat first | refine OwnS.alloc ?_ _ | refine OwnS.drewN ?_ _ | refine OwnS.drew ?_); with_reducible exact HH.out)))); clear hK K hHeld; rename _ => hHeld; (try dsimp only at hHeld); (try simp only [Act.put, List.setIfInBounds_toArray, List.set_cons_zero, List.set_cons_succ])
      refine tk (i := 2) (v := ?_) (hy := Or.inl ⟨by rfl, ?_⟩) (h := ?_); rotate_left; (focus (intro w hSw; (try dsimp only at hSw); go_simp; try with_reducible rfl)); (try simp only [Act.put, List.setIfInBounds_toArray, List.set_cons_zero, List.set_cons_succ])
      refine tk (i := 3) (v := ?_) (hy := Or.inl ⟨by rfl, ?_⟩) (h := ?_); rotate_left; (focus (intro w hSw; (try dsimp only at hSw); go_simp; try with_reducible rfl)); (try simp only [Act.put, List.setIfInBounds_toArray, List.set_cons_zero, List.set_cons_succ])
      refine tk (i := 4) (v := ?_) (hy := Or.inl ⟨by rfl, ?_⟩) (h := ?_); rotate_left; (focus (intro w hSw; (try dsimp only at hSw); go_simp; try with_reducible rfl)); (try simp only [Act.put, List.setIfInBounds_toArray, List.set_cons_zero, List.set_cons_succ])
      refine tk (i := 5) (v := ?_) (hy := Or.inl ⟨by rfl, ?_⟩) (h := ?_); rotate_left; (focus (intro w hSw; (try dsimp only at hSw); go_simp; try with_reducible rfl)); (try simp only [Act.put, List.setIfInBounds_toArray, List.set_cons_zero, List.set_cons_succ])
      refine tk (i := 6) (v := ?_) (hy := Or.inl ⟨by rfl, ?_⟩) (h := ?_); rotate_left; (focus (intro w hSw; (try dsimp only at hSw); go_simp; try with_reducible rfl)); (try simp only [Act.put, List.setIfInBounds_toArray, List.set_cons_zero, List.set_cons_succ])
      refine tk (i := 7) (v := ?_) (hy := Or.inl ⟨by rfl, ?_⟩) (h := ?_); rotate_left; (focus (intro w hSw; (try dsimp only at hSw); go_simp; try with_reducible rfl)); (try simp only [Act.put, List.setIfInBounds_toArray, List.set_cons_zero, List.set_cons_succ])
      refine tk (i := 8) (v := ?_) (hy := Or.inl ⟨by rfl, ?_⟩) (h := ?_); rotate_left; (focus (intro w hSw; (try dsimp only at hSw); go_simp; try with_reducible rfl)); (try simp only [Act.put, List.setIfInBounds_toArray, List.set_cons_zero, List.set_cons_succ])
      refine tk (i := 9) (v := ?_) (hy := Or.inl ⟨by rfl, ?_⟩) (h := ?_); rotate_left; (focus (intro w hSw; (try dsimp only at hSw); go_simp; try with_reducible rfl)); (try simp only [Act.put, List.setIfInBounds_toArray, List.set_cons_zero, List.set_cons_succ])
      refine tk (i := 10) (v := .bool true) (hy := Or.inl ⟨by rfl, ?_⟩) (h := ?_); (focus (intro w hSw; (try dsimp only at hSw); go_simp; try with_reducible rfl)); (try simp only [Act.put, List.setIfInBounds_toArray, List.set_cons_zero, List.set_cons_succ])
      refine tk (i := 11) (v := .bool true) (hy := Or.inl ⟨by rfl, ?_⟩) (h := ?_); (focus (intro w hSw; (try dsimp only at hSw); go_simp; try with_reducible rfl)); (try simp only [Act.put, List.setIfInBounds_toArray, List.set_cons_zero, List.set_cons_succ])
      refine tk (i := 12) (v := .bool true) (hy := Or.inl ⟨by rfl, ?_⟩) (h := ?_); (focus (intro w hSw; (try dsimp only at hSw); go_simp; try with_reducible rfl)); (try simp only [Act.put, List.setIfInBounds_toArray, List.set_cons_zero, List.set_cons_succ])
      refine tk (i := 13) (v := ?_) (hy := Or.inl ⟨by rfl, ?_⟩) (h := ?_); rotate_left; (focus (intro w hSw; (try dsimp only at hSw); go_simp; try with_reducible rfl)); (try simp only [Act.put, List.setIfInBounds_toArray, List.set_cons_zero, List.set_cons_succ])
      refine tk (i := 14) (v := ?_) (hy := Or.inl ⟨by rfl, ?_⟩) (h := ?_); rotate_left; (focus (intro w hSw; (try dsimp only at hSw); go_simp; try with_reducible rfl)); (try simp only [Act.put, List.setIfInBounds_toArray, List.set_cons_zero, List.set_cons_succ])
      refine tk (i := 15) (hy := yieldsIf_load_mid (by rfl) _ _ rfl _ _ rfl (nums .u16 (x.past)) _ ?_ Try.underlying24 rfl (infoV HX.out.1.1)) (h := ?_); (focus (intro w hSw; (try dsimp only at hSw); go_split_ands; assumption)); (try simp only [Act.put, List.setIfInBounds_toArray, List.set_cons_zero, List.set_cons_succ])
      refine tk (i := 16) (hy := yieldsIf_load_mid (by rfl) _ _ rfl _ _ rfl (nums .u16 told) _ ?_ Try.underlying24 rfl (infoV HT.out.1)) (h := ?_); (focus (intro w hSw; (try dsimp only at hSw); go_split_ands; assumption)); (try simp only [Act.put, List.setIfInBounds_toArray, List.set_cons_zero, List.set_cons_succ])
      refine wpAnyH_ready (rs := [17]) (by kernel_rfl) (by simp) ?_; refine AllReadyH.cons (by simp only [List.getElem?_toArray, List.getElem?_cons_succ, List.getElem?_cons_zero]; rfl) (fun K hK => ?_) AllReadyH.nil; go_simp; go_at_call 37; refine ownS_call (S := fun _ => False) (w0 := w) (As := [Sep.blk g1 (vecC told) 24, Sep.blk g2 (itC x) 43]) ?_ ?_; (focus first | with_reducible exact HH.out | ((with_reducible repeat first | refine OwnS.alloc ?_ _ | refine OwnS.drewN ?_ _ | refine OwnS.drew ?_); with_reducible exact HH.out)); intro ht; refine (below_calls _ x.past told HX.out.1 HT.out).mono ?_; rintro e w4 ⟨rfl, hb⟩; have HHx : Aside0 (OwnS (fun _ => False) [Sep.blk g1 (vecC told) 24, Sep.blk g2 (itC x) 43] w w4) := ⟨OwnS.step ht hb⟩; clear HH; have HH := HHx; clear HHx; clear hb; clear ht; refine hK.out _ _ ?_ (fun hHeld2 => ?_); (focus (try dsimp only); (refine HKV.out _ ?_; (focus first | with_reducible exact HH.out | ((with_reducible repeat first | refine OwnS.alloc ?_ _ | refine OwnS.drewN ?_ _ | refine OwnS.drew ?_); with_reducible exact HH.out)))); clear hK K hHeld; rename _ => hHeld; (try dsimp only at hHeld); (try simp only [Act.put, List.setIfInBounds_toArray, List.set_cons_zero, List.set_cons_succ])
      refine tk (i := 18) (v := ?_) (hy := Or.inl ⟨by rfl, ?_⟩) (h := ?_); rotate_left; (focus (intro w hSw; (try dsimp only at hSw); go_simp; try with_reducible rfl)); (try simp only [Act.put, List.setIfInBounds_toArray, List.set_cons_zero, List.set_cons_succ])
      refine tk (i := 19) (v := ?_) (hy := Or.inl ⟨by rfl, ?_⟩) (h := ?_); rotate_left; (focus (intro w hSw; (try dsimp only at hSw); go_simp; try with_reducible rfl)); (try simp only [Act.put, List.setIfInBounds_toArray, List.set_cons_zero, List.set_cons_succ])
      refine wpAnyH_done (by kernel_rfl) ?_ _
      go_wp2_with fail
      go_ret
      exact ⟨by rw [HR.out, decide_eq_true HNQ.out, Bool.true_and]; rfl, below_frm (OwnS.frm HH.out)⟩
    · have hb1 : (n == q) = false := by simp [hnq]
      have HNQ := Aside0.mk hnq
      clear hnq
      go_enter Try.func15, Try.ntmps15
      go_wp2_with (first
        | ((with_reducible refine gate_dst (N := 2) rfl ?_); refine evS_box (S := fun _ => False) (w0 := w) (As := []) ?_ rfl (cs := vecC told) (T := 24) ?_ ?_; (focus first | with_reducible exact HH.out | ((with_reducible repeat first | refine OwnS.alloc ?_ _ | refine OwnS.drewN ?_ _ | refine OwnS.drew ?_); with_reducible exact HH.out)); (focus first | (go_simp; done) | (go_simp; rfl)); intro g1 w1 he hh; clear he; have HHx : Aside0 (OwnS (fun _ => False) [Sep.blk g1 (vecC told) 24] w w1) := ⟨hh⟩; clear HH; have HH := HHx; clear HHx; clear hh)
        | ((with_reducible refine gate_dst (N := 3) rfl ?_); refine evS_box (S := fun _ => False) (w0 := w) (As := [Sep.blk g1 (vecC told) 24]) ?_ rfl (cs := itC x) (T := 43) ?_ ?_; (focus first | with_reducible exact HH.out | ((with_reducible repeat first | refine OwnS.alloc ?_ _ | refine OwnS.drewN ?_ _ | refine OwnS.drew ?_); with_reducible exact HH.out)); (focus first | (go_simp; done) | (go_simp; rfl)); intro g2 w2 he hh; clear he; have HHx : Aside0 (OwnS (fun _ => False) [Sep.blk g1 (vecC told) 24, Sep.blk g2 (itC x) 43] w w2) := ⟨hh⟩; clear HH; have HH := HHx; clear HHx; clear hh)
        | fail
        | fail)
      have HKV : Aside0 (∀ w' : World, OwnS (fun _ => False) [Sep.blk g1 (vecC told) 24, Sep.blk g2 (itC x) 43] w w' → (w'.rangeAt g2 0 (itC x).toList ∧ w'.cell? ⟨g2, 0, none⟩ = some (.int .u8 f) ∧ w'.cell? ⟨g2, 1, none⟩ = some (.int .i64 q) ∧ w'.rangeAt g1 0 (nums .u16 told) ∧ w'.cell? ⟨g1, f.toNat, none⟩ = some (.int .u16 n) ∧ w'.rangeAt g2 3 (nums .u16 x.past))) := ⟨fun W h => ⟨range_it HX.out.1.1 (OwnS.blk (S := fun _ => False) (w0 := w) (As := [Sep.blk g1 (vecC told) 24, Sep.blk g2 (itC x) 43]) h 1 rfl), (by rw [← HFX.out]; exact blk_cell (OwnS.blk (S := fun _ => False) (w0 := w) (As := [Sep.blk g1 (vecC told) 24, Sep.blk g2 (itC x) 43]) h 1 rfl) 0), (by rw [← HQX.out]; exact blk_cell (OwnS.blk (S := fun _ => False) (w0 := w) (As := [Sep.blk g1 (vecC told) 24, Sep.blk g2 (itC x) 43]) h 1 rfl) 1), range_vec HT.out.1 (OwnS.blk (S := fun _ => False) (w0 := w) (As := [Sep.blk g1 (vecC told) 24, Sep.blk g2 (itC x) 43]) h 0 rfl), (by rw [← HN.out]; exact (blk_cell (OwnS.blk (S := fun _ => False) (w0 := w) (As := [Sep.blk g1 (vecC told) 24, Sep.blk g2 (itC x) 43]) h 0 rfl) f.toNat).trans (vecC_at _ f.toNat (by rw [HT.out.1]; exact HF.out))), range_past HX.out.1.1 (OwnS.blk (S := fun _ => False) (w0 := w) (As := [Sep.blk g1 (vecC told) 24, Sep.blk g2 (itC x) 43]) h 1 rfl)⟩⟩
      refine wp_region_held_drew (S := fun w' => w'.rangeAt g2 0 (itC x).toList ∧ w'.cell? ⟨g2, 0, none⟩ = some (.int .u8 f) ∧ w'.cell? ⟨g2, 1, none⟩ = some (.int .i64 q) ∧ w'.rangeAt g1 0 (nums .u16 told) ∧ w'.cell? ⟨g1, f.toNat, none⟩ = some (.int .u16 n) ∧ w'.rangeAt g2 3 (nums .u16 x.past)) (by kernel_rfl) ?_ (fun hHeld => ?_)
      focus (try dsimp only); (refine HKV.out _ ?_; (focus first | with_reducible exact HH.out | ((with_reducible repeat first | refine OwnS.alloc ?_ _ | refine OwnS.drewN ?_ _ | refine OwnS.drew ?_); with_reducible exact HH.out)))
      (try dsimp only at hHeld)
      refine tk (i := 0) (hy := yieldsIf_load_mid (by rfl) _ _ rfl _ _ rfl ((itC x).toList) _ ?_ Try.underlying43 rfl (by rw [Array.length_toList, (itC_size _ HX.out.1.1)]; kernel_rfl)) (h := ?_); (focus (intro w hSw; (try dsimp only at hSw); go_split_ands; assumption)); (try simp only [Act.put, List.setIfInBounds_toArray, List.set_cons_zero, List.set_cons_succ])
      refine wpAnyH_ready (rs := [1]) (by kernel_rfl) (by simp) ?_; refine AllReadyH.cons (by simp only [List.getElem?_toArray, List.getElem?_cons_succ, List.getElem?_cons_zero]; rfl) (fun K hK => ?_) AllReadyH.nil; go_simp; go_at_call 28; refine ownS_call (S := fun _ => False) (w0 := w) (As := [Sep.blk g1 (vecC told) 24, Sep.blk g2 (itC x) 43]) ?_ ?_; (focus first | with_reducible exact HH.out | ((with_reducible repeat first | refine OwnS.alloc ?_ _ | refine OwnS.drewN ?_ _ | refine OwnS.drew ?_); with_reducible exact HH.out)); intro ht; refine (imay_calls _ x HX.out).mono ?_; rintro e w3 ⟨rfl, hb⟩; rw [HM.out]; have HHx : Aside0 (OwnS (fun _ => False) [Sep.blk g1 (vecC told) 24, Sep.blk g2 (itC x) 43] w w3) := ⟨OwnS.step ht hb⟩; clear HH; have HH := HHx; clear HHx; clear hb; clear ht; refine hK.out _ _ ?_ (fun hHeld2 => ?_); (focus (try dsimp only); (refine HKV.out _ ?_; (focus first | with_reducible exact HH.out | ((with_reducible repeat first | refine OwnS.alloc ?_ _ | refine OwnS.drewN ?_ _ | refine OwnS.drew ?_); with_reducible exact HH.out)))); clear hK K hHeld; rename _ => hHeld; (try dsimp only at hHeld); (try simp only [Act.put, List.setIfInBounds_toArray, List.set_cons_zero, List.set_cons_succ])
      refine tk (i := 2) (v := ?_) (hy := Or.inl ⟨by rfl, ?_⟩) (h := ?_); rotate_left; (focus (intro w hSw; (try dsimp only at hSw); go_simp; try with_reducible rfl)); (try simp only [Act.put, List.setIfInBounds_toArray, List.set_cons_zero, List.set_cons_succ])
      refine tk (i := 3) (v := ?_) (hy := Or.inl ⟨by rfl, ?_⟩) (h := ?_); rotate_left; (focus (intro w hSw; (try dsimp only at hSw); go_simp; try with_reducible rfl)); (try simp only [Act.put, List.setIfInBounds_toArray, List.set_cons_zero, List.set_cons_succ])
      refine tk (i := 4) (v := ?_) (hy := Or.inl ⟨by rfl, ?_⟩) (h := ?_); rotate_left; (focus (intro w hSw; (try dsimp only at hSw); go_simp; try with_reducible rfl)); (try simp only [Act.put, List.setIfInBounds_toArray, List.set_cons_zero, List.set_cons_succ])
      refine tk (i := 5) (v := ?_) (hy := Or.inl ⟨by rfl, ?_⟩) (h := ?_); rotate_left; (focus (intro w hSw; (try dsimp only at hSw); go_simp; try with_reducible rfl)); (try simp only [Act.put, List.setIfInBounds_toArray, List.set_cons_zero, List.set_cons_succ])
      refine tk (i := 6) (v := ?_) (hy := Or.inl ⟨by rfl, ?_⟩) (h := ?_); rotate_left; (focus (intro w hSw; (try dsimp only at hSw); go_simp; try with_reducible rfl)); (try simp only [Act.put, List.setIfInBounds_toArray, List.set_cons_zero, List.set_cons_succ])
      refine tk (i := 7) (v := ?_) (hy := Or.inl ⟨by rfl, ?_⟩) (h := ?_); rotate_left; (focus (intro w hSw; (try dsimp only at hSw); go_simp; try with_reducible rfl)); (try simp only [Act.put, List.setIfInBounds_toArray, List.set_cons_zero, List.set_cons_succ])
      refine tk (i := 8) (v := ?_) (hy := Or.inl ⟨by rfl, ?_⟩) (h := ?_); rotate_left; (focus (intro w hSw; (try dsimp only at hSw); go_simp; try with_reducible rfl)); (try simp only [Act.put, List.setIfInBounds_toArray, List.set_cons_zero, List.set_cons_succ])
      refine tk (i := 9) (v := ?_) (hy := Or.inl ⟨by rfl, ?_⟩) (h := ?_); rotate_left; (focus (intro w hSw; (try dsimp only at hSw); go_simp; try with_reducible rfl)); (try simp only [Act.put, List.setIfInBounds_toArray, List.set_cons_zero, List.set_cons_succ])
      refine tk (i := 10) (v := .bool false) (hy := Or.inl ⟨by rfl, ?_⟩) (h := ?_); (focus (intro w hSw; (try dsimp only at hSw); go_simp; try with_reducible rfl)); (try simp only [Act.put, List.setIfInBounds_toArray, List.set_cons_zero, List.set_cons_succ])
      refine tk (i := 11) (v := .bool false) (hy := Or.inl ⟨by rfl, ?_⟩) (h := ?_); (focus (intro w hSw; (try dsimp only at hSw); go_simp; try with_reducible rfl)); (try simp only [Act.put, List.setIfInBounds_toArray, List.set_cons_zero, List.set_cons_succ])
      refine tk (i := 12) (v := .bool false) (hy := Or.inl ⟨by rfl, ?_⟩) (h := ?_); (focus (intro w hSw; (try dsimp only at hSw); go_simp; try with_reducible rfl)); (try simp only [Act.put, List.setIfInBounds_toArray, List.set_cons_zero, List.set_cons_succ])
      refine tk (i := 13) (v := undef) (hy := Or.inr ⟨by rfl, rfl⟩) (h := ?_); (try simp only [Act.put, List.setIfInBounds_toArray, List.set_cons_zero, List.set_cons_succ])
      refine tk (i := 14) (v := undef) (hy := Or.inr ⟨by rfl, rfl⟩) (h := ?_); (try simp only [Act.put, List.setIfInBounds_toArray, List.set_cons_zero, List.set_cons_succ])
      refine tk (i := 15) (v := undef) (hy := Or.inr ⟨by rfl, rfl⟩) (h := ?_); (try simp only [Act.put, List.setIfInBounds_toArray, List.set_cons_zero, List.set_cons_succ])
      refine tk (i := 16) (v := undef) (hy := Or.inr ⟨by rfl, rfl⟩) (h := ?_); (try simp only [Act.put, List.setIfInBounds_toArray, List.set_cons_zero, List.set_cons_succ])
      refine tk (i := 17) (v := undef) (hy := Or.inr ⟨by rfl, rfl⟩) (h := ?_); (try simp only [Act.put, List.setIfInBounds_toArray, List.set_cons_zero, List.set_cons_succ])
      refine tk (i := 18) (v := ?_) (hy := Or.inl ⟨by rfl, ?_⟩) (h := ?_); rotate_left; (focus (intro w hSw; (try dsimp only at hSw); go_simp; try with_reducible rfl)); (try simp only [Act.put, List.setIfInBounds_toArray, List.set_cons_zero, List.set_cons_succ])
      refine tk (i := 19) (v := ?_) (hy := Or.inl ⟨by rfl, ?_⟩) (h := ?_); rotate_left; (focus (intro w hSw; (try dsimp only at hSw); go_simp; try with_reducible rfl)); (try simp only [Act.put, List.setIfInBounds_toArray, List.set_cons_zero, List.set_cons_succ])
      refine wpAnyH_done (by kernel_rfl) ?_ _
      go_wp2_with fail
      go_ret
      exact ⟨by rw [HR.out, decide_eq_false HNQ.out, Bool.false_and]; rfl, below_frm (OwnS.frm HH.out)⟩

set_option maxHeartbeats 8000000 in
set_option maxRecDepth 100000 in
theorem rready_calls (w : World) (told : List Int) (x : It) (ht0 : okV told) (hx : okI x) : Calls Try.prog 16 #[.agg (vecC told), .agg (itC x)] w (Kept (.bool (readyB told x)) w) := by
  have HT := Aside0.mk ht0
  have HX := Aside0.mk hx
  have HH : Aside0 (OwnS (fun _ => False) [] w w) := ⟨OwnS.of_own (Own.start w)⟩
  cases hm : rightI x with
  | false =>
      have HM := Aside0.mk hm
      have HR : Aside0 (readyB told x = false) := ⟨by unfold readyB; rw [hm]; rfl⟩
      clear hm ht0 hx
      go_enter Try.func16, Try.ntmps16
      go_wp2_with (first
        | ((with_reducible refine gate_dst (N := 2) rfl ?_); refine evS_box (S := fun _ => False) (w0 := w) (As := []) ?_ rfl (cs := vecC told) (T := 24) ?_ ?_; (focus first | with_reducible exact HH.out | ((with_reducible repeat first | refine OwnS.alloc ?_ _ | refine OwnS.drewN ?_ _ | refine OwnS.drew ?_); with_reducible exact HH.out)); (focus first | (go_simp; done) | (go_simp; rfl)); intro g1 w1 he hh; clear he; have HHx : Aside0 (OwnS (fun _ => False) [Sep.blk g1 (vecC told) 24] w w1) := ⟨hh⟩; clear HH; have HH := HHx; clear HHx; clear hh)
        | ((with_reducible refine gate_dst (N := 3) rfl ?_); refine evS_box (S := fun _ => False) (w0 := w) (As := [Sep.blk g1 (vecC told) 24]) ?_ rfl (cs := itC x) (T := 31) ?_ ?_; (focus first | with_reducible exact HH.out | ((with_reducible repeat first | refine OwnS.alloc ?_ _ | refine OwnS.drewN ?_ _ | refine OwnS.drew ?_); with_reducible exact HH.out)); (focus first | (go_simp; done) | (go_simp; rfl)); intro g2 w2 he hh; clear he; have HHx : Aside0 (OwnS (fun _ => False) [Sep.blk g1 (vecC told) 24, Sep.blk g2 (itC x) 31] w w2) := ⟨hh⟩; clear HH; have HH := HHx; clear HHx; clear hh)
        | fail
        | fail)
      have HKV : Aside0 (∀ w' : World, OwnS (fun _ => False) [Sep.blk g1 (vecC told) 24, Sep.blk g2 (itC x) 31] w w' → (w'.rangeAt g2 0 (itC x).toList)) := ⟨fun W h => range_it HX.out.1.1 (OwnS.blk (S := fun _ => False) (w0 := w) (As := [Sep.blk g1 (vecC told) 24, Sep.blk g2 (itC x) 31]) h 1 rfl)⟩
      refine wp_region_held_drew (S := fun w' => w'.rangeAt g2 0 (itC x).toList) (by kernel_rfl) ?_ (fun hHeld => ?_)
      focus (try dsimp only); (refine HKV.out _ ?_; (focus first | with_reducible exact HH.out | ((with_reducible repeat first | refine OwnS.alloc ?_ _ | refine OwnS.drewN ?_ _ | refine OwnS.drew ?_); with_reducible exact HH.out)))
      (try dsimp only at hHeld)
      refine tk (i := 0) (hy := yieldsIf_load_mid (by rfl) _ _ rfl _ _ rfl ((itC x).toList) _ ?_ Try.underlying31 rfl (by rw [Array.length_toList, (itC_size _ HX.out.1.1)]; kernel_rfl)) (h := ?_); (focus (intro w hSw; (try dsimp only at hSw); go_split_ands; assumption)); (try simp only [Act.put, List.setIfInBounds_toArray, List.set_cons_zero, List.set_cons_succ])
      refine wpAnyH_ready (rs := [1]) (by kernel_rfl) (by simp) ?_; refine AllReadyH.cons (by simp only [List.getElem?_toArray, List.getElem?_cons_succ, List.getElem?_cons_zero]; rfl) (fun K hK => ?_) AllReadyH.nil; go_simp; go_at_call 33; refine ownS_call (S := fun _ => False) (w0 := w) (As := [Sep.blk g1 (vecC told) 24, Sep.blk g2 (itC x) 31]) ?_ ?_; (focus first | with_reducible exact HH.out | ((with_reducible repeat first | refine OwnS.alloc ?_ _ | refine OwnS.drewN ?_ _ | refine OwnS.drew ?_); with_reducible exact HH.out)); intro ht; refine (rimay_calls _ x HX.out).mono ?_; rintro e w3 ⟨rfl, hb⟩; rw [HM.out]; have HHx : Aside0 (OwnS (fun _ => False) [Sep.blk g1 (vecC told) 24, Sep.blk g2 (itC x) 31] w w3) := ⟨OwnS.step ht hb⟩; clear HH; have HH := HHx; clear HHx; clear hb; clear ht; refine hK.out _ _ ?_ (fun hHeld2 => ?_); (focus (try dsimp only); (refine HKV.out _ ?_; (focus first | with_reducible exact HH.out | ((with_reducible repeat first | refine OwnS.alloc ?_ _ | refine OwnS.drewN ?_ _ | refine OwnS.drew ?_); with_reducible exact HH.out)))); clear hK K hHeld; rename _ => hHeld; (try dsimp only at hHeld); (try simp only [Act.put, List.setIfInBounds_toArray, List.set_cons_zero, List.set_cons_succ])
      refine tk (i := 2) (v := .bool false) (hy := Or.inl ⟨by rfl, ?_⟩) (h := ?_); (focus (intro w hSw; (try dsimp only at hSw); go_simp; try with_reducible rfl)); (try simp only [Act.put, List.setIfInBounds_toArray, List.set_cons_zero, List.set_cons_succ])
      refine tk (i := 3) (v := undef) (hy := Or.inr ⟨by rfl, rfl⟩) (h := ?_); (try simp only [Act.put, List.setIfInBounds_toArray, List.set_cons_zero, List.set_cons_succ])
      refine tk (i := 4) (v := undef) (hy := Or.inr ⟨by rfl, rfl⟩) (h := ?_); (try simp only [Act.put, List.setIfInBounds_toArray, List.set_cons_zero, List.set_cons_succ])
      refine tk (i := 5) (v := undef) (hy := Or.inr ⟨by rfl, rfl⟩) (h := ?_); (try simp only [Act.put, List.setIfInBounds_toArray, List.set_cons_zero, List.set_cons_succ])
      refine tk (i := 6) (v := undef) (hy := Or.inr ⟨by rfl, rfl⟩) (h := ?_); (try simp only [Act.put, List.setIfInBounds_toArray, List.set_cons_zero, List.set_cons_succ])
      refine tk (i := 7) (v := undef) (hy := Or.inr ⟨by rfl, rfl⟩) (h := ?_); (try simp only [Act.put, List.setIfInBounds_toArray, List.set_cons_zero, List.set_cons_succ])
      refine tk (i := 8) (v := undef) (hy := Or.inr ⟨by rfl, rfl⟩) (h := ?_); (try simp only [Act.put, List.setIfInBounds_toArray, List.set_cons_zero, List.set_cons_succ])
      refine tk (i := 9) (v := undef) (hy := Or.inr ⟨by rfl, rfl⟩) (h := ?_); (try simp only [Act.put, List.setIfInBounds_toArray, List.set_cons_zero, List.set_cons_succ])
      refine tk (i := 10) (v := undef) (hy := Or.inr ⟨by rfl, rfl⟩) (h := ?_); (try simp only [Act.put, List.setIfInBounds_toArray, List.set_cons_zero, List.set_cons_succ])
      refine tk (i := 11) (v := .bool false) (hy := Or.inl ⟨by rfl, ?_⟩) (h := ?_); (focus (intro w hSw; (try dsimp only at hSw); go_simp; try with_reducible rfl)); (try simp only [Act.put, List.setIfInBounds_toArray, List.set_cons_zero, List.set_cons_succ])
      refine tk (i := 12) (v := .bool false) (hy := Or.inl ⟨by rfl, ?_⟩) (h := ?_); (focus (intro w hSw; (try dsimp only at hSw); go_simp; try with_reducible rfl)); (try simp only [Act.put, List.setIfInBounds_toArray, List.set_cons_zero, List.set_cons_succ])
      refine tk (i := 13) (v := undef) (hy := Or.inr ⟨by rfl, rfl⟩) (h := ?_); (try simp only [Act.put, List.setIfInBounds_toArray, List.set_cons_zero, List.set_cons_succ])
      refine tk (i := 14) (v := undef) (hy := Or.inr ⟨by rfl, rfl⟩) (h := ?_); (try simp only [Act.put, List.setIfInBounds_toArray, List.set_cons_zero, List.set_cons_succ])
      refine tk (i := 15) (v := undef) (hy := Or.inr ⟨by rfl, rfl⟩) (h := ?_); (try simp only [Act.put, List.setIfInBounds_toArray, List.set_cons_zero, List.set_cons_succ])
      refine tk (i := 16) (v := undef) (hy := Or.inr ⟨by rfl, rfl⟩) (h := ?_); (try simp only [Act.put, List.setIfInBounds_toArray, List.set_cons_zero, List.set_cons_succ])
      refine tk (i := 17) (v := undef) (hy := Or.inr ⟨by rfl, rfl⟩) (h := ?_); (try simp only [Act.put, List.setIfInBounds_toArray, List.set_cons_zero, List.set_cons_succ])
      refine tk (i := 18) (v := ?_) (hy := Or.inl ⟨by rfl, ?_⟩) (h := ?_); rotate_left; (focus (intro w hSw; (try dsimp only at hSw); go_simp; try with_reducible rfl)); (try simp only [Act.put, List.setIfInBounds_toArray, List.set_cons_zero, List.set_cons_succ])
      refine tk (i := 19) (v := ?_) (hy := Or.inl ⟨by rfl, ?_⟩) (h := ?_); rotate_left; (focus (intro w hSw; (try dsimp only at hSw); go_simp; try with_reducible rfl)); (try simp only [Act.put, List.setIfInBounds_toArray, List.set_cons_zero, List.set_cons_succ])
      refine wpAnyH_done (by kernel_rfl) ?_ _
      go_wp2_with fail
      go_ret
      exact ⟨by rw [HR.out]; rfl, below_frm (OwnS.frm HH.out)⟩
  | true =>
    have hf0 : 0 ≤ x.frm := hx.2.1.1
    obtain ⟨f, hfx⟩ : ∃ f, x.frm = f := ⟨_, rfl⟩
    obtain ⟨q, hqx⟩ : ∃ q, x.seq = q := ⟨_, rfl⟩
    have HFX := Aside0.mk hfx
    have HQX := Aside0.mk hqx
    have hf16 : f < 16 := by
      unfold rightI rightB at hm
      rw [Bool.and_eq_true, Bool.and_eq_true] at hm
      rw [← hfx]
      exact of_decide_eq_true hm.1.2
    rw [hfx] at hf0
    have HF : Aside0 (f.toNat < 16) := ⟨by omega⟩
    obtain ⟨n, hn⟩ : ∃ n, told.getD f.toNat 0 = n := ⟨_, rfl⟩
    have hr := okV_at HT.out f.toNat HF.out
    rw [hn] at hr
    have HN := Aside0.mk hn
    have hw := wrap_u16 hr.1 hr.2
    have hnn : 0 ≤ n := hr.1
    have HM := Aside0.mk hm
    have HR : Aside0 (readyB told x = (decide (n = q) && belL x.past told)) := ⟨by unfold readyB; rw [hm]; simp only [Bool.true_and]; rw [hfx, hqx, hn]⟩
    clear hm hn hr hfx hqx ht0 hx
    by_cases hnq : n = q
    · have hb1 : (n == q) = true := by simp [hnq]
      have HNQ := Aside0.mk hnq
      clear hnq
      go_enter Try.func16, Try.ntmps16
      go_wp2_with (first
        | ((with_reducible refine gate_dst (N := 2) rfl ?_); refine evS_box (S := fun _ => False) (w0 := w) (As := []) ?_ rfl (cs := vecC told) (T := 24) ?_ ?_; (focus first | with_reducible exact HH.out | ((with_reducible repeat first | refine OwnS.alloc ?_ _ | refine OwnS.drewN ?_ _ | refine OwnS.drew ?_); with_reducible exact HH.out)); (focus first | (go_simp; done) | (go_simp; rfl)); intro g1 w1 he hh; clear he; have HHx : Aside0 (OwnS (fun _ => False) [Sep.blk g1 (vecC told) 24] w w1) := ⟨hh⟩; clear HH; have HH := HHx; clear HHx; clear hh)
        | ((with_reducible refine gate_dst (N := 3) rfl ?_); refine evS_box (S := fun _ => False) (w0 := w) (As := [Sep.blk g1 (vecC told) 24]) ?_ rfl (cs := itC x) (T := 31) ?_ ?_; (focus first | with_reducible exact HH.out | ((with_reducible repeat first | refine OwnS.alloc ?_ _ | refine OwnS.drewN ?_ _ | refine OwnS.drew ?_); with_reducible exact HH.out)); (focus first | (go_simp; done) | (go_simp; rfl)); intro g2 w2 he hh; clear he; have HHx : Aside0 (OwnS (fun _ => False) [Sep.blk g1 (vecC told) 24, Sep.blk g2 (itC x) 31] w w2) := ⟨hh⟩; clear HH; have HH := HHx; clear HHx; clear hh)
        | fail
        | fail)
      have HKV : Aside0 (∀ w' : World, OwnS (fun _ => False) [Sep.blk g1 (vecC told) 24, Sep.blk g2 (itC x) 31] w w' → (w'.rangeAt g2 0 (itC x).toList ∧ w'.cell? ⟨g2, 0, none⟩ = some (.int .u8 f) ∧ w'.cell? ⟨g2, 1, none⟩ = some (.int .i64 q) ∧ w'.rangeAt g1 0 (nums .u16 told) ∧ w'.cell? ⟨g1, f.toNat, none⟩ = some (.int .u16 n) ∧ w'.rangeAt g2 3 (nums .u16 x.past))) := ⟨fun W h => ⟨range_it HX.out.1.1 (OwnS.blk (S := fun _ => False) (w0 := w) (As := [Sep.blk g1 (vecC told) 24, Sep.blk g2 (itC x) 31]) h 1 rfl), (by rw [← HFX.out]; exact blk_cell (OwnS.blk (S := fun _ => False) (w0 := w) (As := [Sep.blk g1 (vecC told) 24, Sep.blk g2 (itC x) 31]) h 1 rfl) 0), (by rw [← HQX.out]; exact blk_cell (OwnS.blk (S := fun _ => False) (w0 := w) (As := [Sep.blk g1 (vecC told) 24, Sep.blk g2 (itC x) 31]) h 1 rfl) 1), range_vec HT.out.1 (OwnS.blk (S := fun _ => False) (w0 := w) (As := [Sep.blk g1 (vecC told) 24, Sep.blk g2 (itC x) 31]) h 0 rfl), (by rw [← HN.out]; exact (blk_cell (OwnS.blk (S := fun _ => False) (w0 := w) (As := [Sep.blk g1 (vecC told) 24, Sep.blk g2 (itC x) 31]) h 0 rfl) f.toNat).trans (vecC_at _ f.toNat (by rw [HT.out.1]; exact HF.out))), range_past HX.out.1.1 (OwnS.blk (S := fun _ => False) (w0 := w) (As := [Sep.blk g1 (vecC told) 24, Sep.blk g2 (itC x) 31]) h 1 rfl)⟩⟩
      refine wp_region_held_drew (S := fun w' => w'.rangeAt g2 0 (itC x).toList ∧ w'.cell? ⟨g2, 0, none⟩ = some (.int .u8 f) ∧ w'.cell? ⟨g2, 1, none⟩ = some (.int .i64 q) ∧ w'.rangeAt g1 0 (nums .u16 told) ∧ w'.cell? ⟨g1, f.toNat, none⟩ = some (.int .u16 n) ∧ w'.rangeAt g2 3 (nums .u16 x.past)) (by kernel_rfl) ?_ (fun hHeld => ?_)
      focus (try dsimp only); (refine HKV.out _ ?_; (focus first | with_reducible exact HH.out | ((with_reducible repeat first | refine OwnS.alloc ?_ _ | refine OwnS.drewN ?_ _ | refine OwnS.drew ?_); with_reducible exact HH.out)))
      (try dsimp only at hHeld)
      refine tk (i := 0) (hy := yieldsIf_load_mid (by rfl) _ _ rfl _ _ rfl ((itC x).toList) _ ?_ Try.underlying31 rfl (by rw [Array.length_toList, (itC_size _ HX.out.1.1)]; kernel_rfl)) (h := ?_); (focus (intro w hSw; (try dsimp only at hSw); go_split_ands; assumption)); (try simp only [Act.put, List.setIfInBounds_toArray, List.set_cons_zero, List.set_cons_succ])
      refine wpAnyH_ready (rs := [1]) (by kernel_rfl) (by simp) ?_; refine AllReadyH.cons (by simp only [List.getElem?_toArray, List.getElem?_cons_succ, List.getElem?_cons_zero]; rfl) (fun K hK => ?_) AllReadyH.nil; go_simp; go_at_call 33; refine ownS_call (S := fun _ => False) (w0 := w) (As := [Sep.blk g1 (vecC told) 24, Sep.blk g2 (itC x) 31]) ?_ ?_; (focus first | with_reducible exact HH.out | ((with_reducible repeat first | refine OwnS.alloc ?_ _ | refine OwnS.drewN ?_ _ | refine OwnS.drew ?_); with_reducible exact HH.out)); intro ht; refine (rimay_calls _ x HX.out).mono ?_; rintro e w3 ⟨rfl, hb⟩; rw [HM.out]; have HHx : Aside0 (OwnS (fun _ => False) [Sep.blk g1 (vecC told) 24, Sep.blk g2 (itC x) 31] w w3) := ⟨OwnS.step ht hb⟩; clear HH; have HH := HHx; clear HHx; clear hb; clear ht; refine hK.out _ _ ?_ (fun hHeld2 => ?_); (focus (try dsimp only); (refine HKV.out _ ?_; (focus first | with_reducible exact HH.out | ((with_reducible repeat first | refine OwnS.alloc ?_ _ | refine OwnS.drewN ?_ _ | refine OwnS.drew ?_); with_reducible exact HH.out)))); clear hK K hHeld; rename _ => hHeld; (try dsimp only at hHeld); (try simp only [Act.put, List.setIfInBounds_toArray, List.set_cons_zero, List.set_cons_succ])
      refine tk (i := 2) (v := ?_) (hy := Or.inl ⟨by rfl, ?_⟩) (h := ?_); rotate_left; (focus (intro w hSw; (try dsimp only at hSw); go_simp; try with_reducible rfl)); (try simp only [Act.put, List.setIfInBounds_toArray, List.set_cons_zero, List.set_cons_succ])
      refine tk (i := 3) (v := ?_) (hy := Or.inl ⟨by rfl, ?_⟩) (h := ?_); rotate_left; (focus (intro w hSw; (try dsimp only at hSw); go_simp; try with_reducible rfl)); (try simp only [Act.put, List.setIfInBounds_toArray, List.set_cons_zero, List.set_cons_succ])
      refine tk (i := 4) (v := ?_) (hy := Or.inl ⟨by rfl, ?_⟩) (h := ?_); rotate_left; (focus (intro w hSw; (try dsimp only at hSw); go_simp; try with_reducible rfl)); (try simp only [Act.put, List.setIfInBounds_toArray, List.set_cons_zero, List.set_cons_succ])
      refine tk (i := 5) (v := ?_) (hy := Or.inl ⟨by rfl, ?_⟩) (h := ?_); rotate_left; (focus (intro w hSw; (try dsimp only at hSw); go_simp; try with_reducible rfl)); (try simp only [Act.put, List.setIfInBounds_toArray, List.set_cons_zero, List.set_cons_succ])
      refine tk (i := 6) (v := ?_) (hy := Or.inl ⟨by rfl, ?_⟩) (h := ?_); rotate_left; (focus (intro w hSw; (try dsimp only at hSw); go_simp; try with_reducible rfl)); (try simp only [Act.put, List.setIfInBounds_toArray, List.set_cons_zero, List.set_cons_succ])
      refine tk (i := 7) (v := ?_) (hy := Or.inl ⟨by rfl, ?_⟩) (h := ?_); rotate_left; (focus (intro w hSw; (try dsimp only at hSw); go_simp; try with_reducible rfl)); (try simp only [Act.put, List.setIfInBounds_toArray, List.set_cons_zero, List.set_cons_succ])
      refine tk (i := 8) (v := ?_) (hy := Or.inl ⟨by rfl, ?_⟩) (h := ?_); rotate_left; (focus (intro w hSw; (try dsimp only at hSw); go_simp; try with_reducible rfl)); (try simp only [Act.put, List.setIfInBounds_toArray, List.set_cons_zero, List.set_cons_succ])
      refine tk (i := 9) (v := ?_) (hy := Or.inl ⟨by rfl, ?_⟩) (h := ?_); rotate_left; (focus (intro w hSw; (try dsimp only at hSw); go_simp; try with_reducible rfl)); (try simp only [Act.put, List.setIfInBounds_toArray, List.set_cons_zero, List.set_cons_succ])
      refine tk (i := 10) (v := .bool true) (hy := Or.inl ⟨by rfl, ?_⟩) (h := ?_); (focus (intro w hSw; (try dsimp only at hSw); go_simp; try with_reducible rfl)); (try simp only [Act.put, List.setIfInBounds_toArray, List.set_cons_zero, List.set_cons_succ])
      refine tk (i := 11) (v := .bool true) (hy := Or.inl ⟨by rfl, ?_⟩) (h := ?_); (focus (intro w hSw; (try dsimp only at hSw); go_simp; try with_reducible rfl)); (try simp only [Act.put, List.setIfInBounds_toArray, List.set_cons_zero, List.set_cons_succ])
      refine tk (i := 12) (v := .bool true) (hy := Or.inl ⟨by rfl, ?_⟩) (h := ?_); (focus (intro w hSw; (try dsimp only at hSw); go_simp; try with_reducible rfl)); (try simp only [Act.put, List.setIfInBounds_toArray, List.set_cons_zero, List.set_cons_succ])
      refine tk (i := 13) (v := ?_) (hy := Or.inl ⟨by rfl, ?_⟩) (h := ?_); rotate_left; (focus (intro w hSw; (try dsimp only at hSw); go_simp; try with_reducible rfl)); (try simp only [Act.put, List.setIfInBounds_toArray, List.set_cons_zero, List.set_cons_succ])
      refine tk (i := 14) (v := ?_) (hy := Or.inl ⟨by rfl, ?_⟩) (h := ?_); rotate_left; (focus (intro w hSw; (try dsimp only at hSw); go_simp; try with_reducible rfl)); (try simp only [Act.put, List.setIfInBounds_toArray, List.set_cons_zero, List.set_cons_succ])
      refine tk (i := 15) (hy := yieldsIf_load_mid (by rfl) _ _ rfl _ _ rfl (nums .u16 (x.past)) _ ?_ Try.underlying24 rfl (infoV HX.out.1.1)) (h := ?_); (focus (intro w hSw; (try dsimp only at hSw); go_split_ands; assumption)); (try simp only [Act.put, List.setIfInBounds_toArray, List.set_cons_zero, List.set_cons_succ])
      refine tk (i := 16) (hy := yieldsIf_load_mid (by rfl) _ _ rfl _ _ rfl (nums .u16 told) _ ?_ Try.underlying24 rfl (infoV HT.out.1)) (h := ?_); (focus (intro w hSw; (try dsimp only at hSw); go_split_ands; assumption)); (try simp only [Act.put, List.setIfInBounds_toArray, List.set_cons_zero, List.set_cons_succ])
      refine wpAnyH_ready (rs := [17]) (by kernel_rfl) (by simp) ?_; refine AllReadyH.cons (by simp only [List.getElem?_toArray, List.getElem?_cons_succ, List.getElem?_cons_zero]; rfl) (fun K hK => ?_) AllReadyH.nil; go_simp; go_at_call 23; refine ownS_call (S := fun _ => False) (w0 := w) (As := [Sep.blk g1 (vecC told) 24, Sep.blk g2 (itC x) 31]) ?_ ?_; (focus first | with_reducible exact HH.out | ((with_reducible repeat first | refine OwnS.alloc ?_ _ | refine OwnS.drewN ?_ _ | refine OwnS.drew ?_); with_reducible exact HH.out)); intro ht; refine (rbelow_calls _ x.past told HX.out.1.1 HT.out.1).mono ?_; rintro e w4 ⟨rfl, hb⟩; have HHx : Aside0 (OwnS (fun _ => False) [Sep.blk g1 (vecC told) 24, Sep.blk g2 (itC x) 31] w w4) := ⟨OwnS.step ht hb⟩; clear HH; have HH := HHx; clear HHx; clear hb; clear ht; refine hK.out _ _ ?_ (fun hHeld2 => ?_); (focus (try dsimp only); (refine HKV.out _ ?_; (focus first | with_reducible exact HH.out | ((with_reducible repeat first | refine OwnS.alloc ?_ _ | refine OwnS.drewN ?_ _ | refine OwnS.drew ?_); with_reducible exact HH.out)))); clear hK K hHeld; rename _ => hHeld; (try dsimp only at hHeld); (try simp only [Act.put, List.setIfInBounds_toArray, List.set_cons_zero, List.set_cons_succ])
      refine tk (i := 18) (v := ?_) (hy := Or.inl ⟨by rfl, ?_⟩) (h := ?_); rotate_left; (focus (intro w hSw; (try dsimp only at hSw); go_simp; try with_reducible rfl)); (try simp only [Act.put, List.setIfInBounds_toArray, List.set_cons_zero, List.set_cons_succ])
      refine tk (i := 19) (v := ?_) (hy := Or.inl ⟨by rfl, ?_⟩) (h := ?_); rotate_left; (focus (intro w hSw; (try dsimp only at hSw); go_simp; try with_reducible rfl)); (try simp only [Act.put, List.setIfInBounds_toArray, List.set_cons_zero, List.set_cons_succ])
      refine wpAnyH_done (by kernel_rfl) ?_ _
      go_wp2_with fail
      go_ret
      exact ⟨by rw [HR.out, decide_eq_true HNQ.out, Bool.true_and]; rfl, below_frm (OwnS.frm HH.out)⟩
    · have hb1 : (n == q) = false := by simp [hnq]
      have HNQ := Aside0.mk hnq
      clear hnq
      go_enter Try.func16, Try.ntmps16
      go_wp2_with (first
        | ((with_reducible refine gate_dst (N := 2) rfl ?_); refine evS_box (S := fun _ => False) (w0 := w) (As := []) ?_ rfl (cs := vecC told) (T := 24) ?_ ?_; (focus first | with_reducible exact HH.out | ((with_reducible repeat first | refine OwnS.alloc ?_ _ | refine OwnS.drewN ?_ _ | refine OwnS.drew ?_); with_reducible exact HH.out)); (focus first | (go_simp; done) | (go_simp; rfl)); intro g1 w1 he hh; clear he; have HHx : Aside0 (OwnS (fun _ => False) [Sep.blk g1 (vecC told) 24] w w1) := ⟨hh⟩; clear HH; have HH := HHx; clear HHx; clear hh)
        | ((with_reducible refine gate_dst (N := 3) rfl ?_); refine evS_box (S := fun _ => False) (w0 := w) (As := [Sep.blk g1 (vecC told) 24]) ?_ rfl (cs := itC x) (T := 31) ?_ ?_; (focus first | with_reducible exact HH.out | ((with_reducible repeat first | refine OwnS.alloc ?_ _ | refine OwnS.drewN ?_ _ | refine OwnS.drew ?_); with_reducible exact HH.out)); (focus first | (go_simp; done) | (go_simp; rfl)); intro g2 w2 he hh; clear he; have HHx : Aside0 (OwnS (fun _ => False) [Sep.blk g1 (vecC told) 24, Sep.blk g2 (itC x) 31] w w2) := ⟨hh⟩; clear HH; have HH := HHx; clear HHx; clear hh)
        | fail
        | fail)
      have HKV : Aside0 (∀ w' : World, OwnS (fun _ => False) [Sep.blk g1 (vecC told) 24, Sep.blk g2 (itC x) 31] w w' → (w'.rangeAt g2 0 (itC x).toList ∧ w'.cell? ⟨g2, 0, none⟩ = some (.int .u8 f) ∧ w'.cell? ⟨g2, 1, none⟩ = some (.int .i64 q) ∧ w'.rangeAt g1 0 (nums .u16 told) ∧ w'.cell? ⟨g1, f.toNat, none⟩ = some (.int .u16 n) ∧ w'.rangeAt g2 3 (nums .u16 x.past))) := ⟨fun W h => ⟨range_it HX.out.1.1 (OwnS.blk (S := fun _ => False) (w0 := w) (As := [Sep.blk g1 (vecC told) 24, Sep.blk g2 (itC x) 31]) h 1 rfl), (by rw [← HFX.out]; exact blk_cell (OwnS.blk (S := fun _ => False) (w0 := w) (As := [Sep.blk g1 (vecC told) 24, Sep.blk g2 (itC x) 31]) h 1 rfl) 0), (by rw [← HQX.out]; exact blk_cell (OwnS.blk (S := fun _ => False) (w0 := w) (As := [Sep.blk g1 (vecC told) 24, Sep.blk g2 (itC x) 31]) h 1 rfl) 1), range_vec HT.out.1 (OwnS.blk (S := fun _ => False) (w0 := w) (As := [Sep.blk g1 (vecC told) 24, Sep.blk g2 (itC x) 31]) h 0 rfl), (by rw [← HN.out]; exact (blk_cell (OwnS.blk (S := fun _ => False) (w0 := w) (As := [Sep.blk g1 (vecC told) 24, Sep.blk g2 (itC x) 31]) h 0 rfl) f.toNat).trans (vecC_at _ f.toNat (by rw [HT.out.1]; exact HF.out))), range_past HX.out.1.1 (OwnS.blk (S := fun _ => False) (w0 := w) (As := [Sep.blk g1 (vecC told) 24, Sep.blk g2 (itC x) 31]) h 1 rfl)⟩⟩
      refine wp_region_held_drew (S := fun w' => w'.rangeAt g2 0 (itC x).toList ∧ w'.cell? ⟨g2, 0, none⟩ = some (.int .u8 f) ∧ w'.cell? ⟨g2, 1, none⟩ = some (.int .i64 q) ∧ w'.rangeAt g1 0 (nums .u16 told) ∧ w'.cell? ⟨g1, f.toNat, none⟩ = some (.int .u16 n) ∧ w'.rangeAt g2 3 (nums .u16 x.past)) (by kernel_rfl) ?_ (fun hHeld => ?_)
      focus (try dsimp only); (refine HKV.out _ ?_; (focus first | with_reducible exact HH.out | ((with_reducible repeat first | refine OwnS.alloc ?_ _ | refine OwnS.drewN ?_ _ | refine OwnS.drew ?_); with_reducible exact HH.out)))
      (try dsimp only at hHeld)
      refine tk (i := 0) (hy := yieldsIf_load_mid (by rfl) _ _ rfl _ _ rfl ((itC x).toList) _ ?_ Try.underlying31 rfl (by rw [Array.length_toList, (itC_size _ HX.out.1.1)]; kernel_rfl)) (h := ?_); (focus (intro w hSw; (try dsimp only at hSw); go_split_ands; assumption)); (try simp only [Act.put, List.setIfInBounds_toArray, List.set_cons_zero, List.set_cons_succ])
      refine wpAnyH_ready (rs := [1]) (by kernel_rfl) (by simp) ?_; refine AllReadyH.cons (by simp only [List.getElem?_toArray, List.getElem?_cons_succ, List.getElem?_cons_zero]; rfl) (fun K hK => ?_) AllReadyH.nil; go_simp; go_at_call 33; refine ownS_call (S := fun _ => False) (w0 := w) (As := [Sep.blk g1 (vecC told) 24, Sep.blk g2 (itC x) 31]) ?_ ?_; (focus first | with_reducible exact HH.out | ((with_reducible repeat first | refine OwnS.alloc ?_ _ | refine OwnS.drewN ?_ _ | refine OwnS.drew ?_); with_reducible exact HH.out)); intro ht; refine (rimay_calls _ x HX.out).mono ?_; rintro e w3 ⟨rfl, hb⟩; rw [HM.out]; have HHx : Aside0 (OwnS (fun _ => False) [Sep.blk g1 (vecC told) 24, Sep.blk g2 (itC x) 31] w w3) := ⟨OwnS.step ht hb⟩; clear HH; have HH := HHx; clear HHx; clear hb; clear ht; refine hK.out _ _ ?_ (fun hHeld2 => ?_); (focus (try dsimp only); (refine HKV.out _ ?_; (focus first | with_reducible exact HH.out | ((with_reducible repeat first | refine OwnS.alloc ?_ _ | refine OwnS.drewN ?_ _ | refine OwnS.drew ?_); with_reducible exact HH.out)))); clear hK K hHeld; rename _ => hHeld; (try dsimp only at hHeld); (try simp only [Act.put, List.setIfInBounds_toArray, List.set_cons_zero, List.set_cons_succ])
      refine tk (i := 2) (v := ?_) (hy := Or.inl ⟨by rfl, ?_⟩) (h := ?_); rotate_left; (focus (intro w hSw; (try dsimp only at hSw); go_simp; try with_reducible rfl)); (try simp only [Act.put, List.setIfInBounds_toArray, List.set_cons_zero, List.set_cons_succ])
      refine tk (i := 3) (v := ?_) (hy := Or.inl ⟨by rfl, ?_⟩) (h := ?_); rotate_left; (focus (intro w hSw; (try dsimp only at hSw); go_simp; try with_reducible rfl)); (try simp only [Act.put, List.setIfInBounds_toArray, List.set_cons_zero, List.set_cons_succ])
      refine tk (i := 4) (v := ?_) (hy := Or.inl ⟨by rfl, ?_⟩) (h := ?_); rotate_left; (focus (intro w hSw; (try dsimp only at hSw); go_simp; try with_reducible rfl)); (try simp only [Act.put, List.setIfInBounds_toArray, List.set_cons_zero, List.set_cons_succ])
      refine tk (i := 5) (v := ?_) (hy := Or.inl ⟨by rfl, ?_⟩) (h := ?_); rotate_left; (focus (intro w hSw; (try dsimp only at hSw); go_simp; try with_reducible rfl)); (try simp only [Act.put, List.setIfInBounds_toArray, List.set_cons_zero, List.set_cons_succ])
      refine tk (i := 6) (v := ?_) (hy := Or.inl ⟨by rfl, ?_⟩) (h := ?_); rotate_left; (focus (intro w hSw; (try dsimp only at hSw); go_simp; try with_reducible rfl)); (try simp only [Act.put, List.setIfInBounds_toArray, List.set_cons_zero, List.set_cons_succ])
      refine tk (i := 7) (v := ?_) (hy := Or.inl ⟨by rfl, ?_⟩) (h := ?_); rotate_left; (focus (intro w hSw; (try dsimp only at hSw); go_simp; try with_reducible rfl)); (try simp only [Act.put, List.setIfInBounds_toArray, List.set_cons_zero, List.set_cons_succ])
      refine tk (i := 8) (v := ?_) (hy := Or.inl ⟨by rfl, ?_⟩) (h := ?_); rotate_left; (focus (intro w hSw; (try dsimp only at hSw); go_simp; try with_reducible rfl)); (try simp only [Act.put, List.setIfInBounds_toArray, List.set_cons_zero, List.set_cons_succ])
      refine tk (i := 9) (v := ?_) (hy := Or.inl ⟨by rfl, ?_⟩) (h := ?_); rotate_left; (focus (intro w hSw; (try dsimp only at hSw); go_simp; try with_reducible rfl)); (try simp only [Act.put, List.setIfInBounds_toArray, List.set_cons_zero, List.set_cons_succ])
      refine tk (i := 10) (v := .bool false) (hy := Or.inl ⟨by rfl, ?_⟩) (h := ?_); (focus (intro w hSw; (try dsimp only at hSw); go_simp; try with_reducible rfl)); (try simp only [Act.put, List.setIfInBounds_toArray, List.set_cons_zero, List.set_cons_succ])
      refine tk (i := 11) (v := .bool false) (hy := Or.inl ⟨by rfl, ?_⟩) (h := ?_); (focus (intro w hSw; (try dsimp only at hSw); go_simp; try with_reducible rfl)); (try simp only [Act.put, List.setIfInBounds_toArray, List.set_cons_zero, List.set_cons_succ])
      refine tk (i := 12) (v := .bool false) (hy := Or.inl ⟨by rfl, ?_⟩) (h := ?_); (focus (intro w hSw; (try dsimp only at hSw); go_simp; try with_reducible rfl)); (try simp only [Act.put, List.setIfInBounds_toArray, List.set_cons_zero, List.set_cons_succ])
      refine tk (i := 13) (v := undef) (hy := Or.inr ⟨by rfl, rfl⟩) (h := ?_); (try simp only [Act.put, List.setIfInBounds_toArray, List.set_cons_zero, List.set_cons_succ])
      refine tk (i := 14) (v := undef) (hy := Or.inr ⟨by rfl, rfl⟩) (h := ?_); (try simp only [Act.put, List.setIfInBounds_toArray, List.set_cons_zero, List.set_cons_succ])
      refine tk (i := 15) (v := undef) (hy := Or.inr ⟨by rfl, rfl⟩) (h := ?_); (try simp only [Act.put, List.setIfInBounds_toArray, List.set_cons_zero, List.set_cons_succ])
      refine tk (i := 16) (v := undef) (hy := Or.inr ⟨by rfl, rfl⟩) (h := ?_); (try simp only [Act.put, List.setIfInBounds_toArray, List.set_cons_zero, List.set_cons_succ])
      refine tk (i := 17) (v := undef) (hy := Or.inr ⟨by rfl, rfl⟩) (h := ?_); (try simp only [Act.put, List.setIfInBounds_toArray, List.set_cons_zero, List.set_cons_succ])
      refine tk (i := 18) (v := ?_) (hy := Or.inl ⟨by rfl, ?_⟩) (h := ?_); rotate_left; (focus (intro w hSw; (try dsimp only at hSw); go_simp; try with_reducible rfl)); (try simp only [Act.put, List.setIfInBounds_toArray, List.set_cons_zero, List.set_cons_succ])
      refine tk (i := 19) (v := ?_) (hy := Or.inl ⟨by rfl, ?_⟩) (h := ?_); rotate_left; (focus (intro w hSw; (try dsimp only at hSw); go_simp; try with_reducible rfl)); (try simp only [Act.put, List.setIfInBounds_toArray, List.set_cons_zero, List.set_cons_succ])
      refine wpAnyH_done (by kernel_rfl) ?_ _
      go_wp2_with fail
      go_ret
      exact ⟨by rw [HR.out, decide_eq_false HNQ.out, Bool.false_and]; rfl, below_frm (OwnS.frm HH.out)⟩
end Go.Proofs.Ytkifekjcpnoclaa.Hld
