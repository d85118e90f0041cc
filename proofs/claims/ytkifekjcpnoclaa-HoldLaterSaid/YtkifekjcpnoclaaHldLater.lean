/- HoldLater: the walk. -/
import Derived.Test.YtkifekjcpnoclaaHldFew
namespace Go.Proofs.Ytkifekjcpnoclaa.Hld
open Go Go.RowKit Go.Proofs.YtkifekjcpnoclaaW.PrintWords Go.Proofs.Ytkifekjcpnoclaa.Sep Go.Proofs.Ytkifekjcpnoclaa.Obj
set_option linter.unusedVariables false
set_option linter.unusedSimpArgs false

def belT (a b : List Int) (i : Nat) : Bool := (List.range i).all fun j => decide (a.getD j 0 ≤ b.getD j 0)
theorem belT_all (a b : List Int) : belT a b 16 = belL a b := rfl
theorem belT_step (a b : List Int) (i : Nat) : belT a b (i + 1) = (belT a b i && decide (a.getD i 0 ≤ b.getD i 0)) := by simp [belT, List.range_succ]
set_option maxHeartbeats 4000000 in
set_option maxRecDepth 100000 in
theorem later_calls (w : World) (told : List Int) (x : It) (ht0 : okV told) (hx0 : okI x) : Calls Try.prog 7 #[.agg (vecC told), .agg (itC x)] w (Kept (.bool true) w) := by
  have HT := Aside0.mk ht0
  have HX := Aside0.mk hx0
  have HH : Aside0 (OwnS (fun _ => False) [] w w) := ⟨OwnS.of_own (Own.start w)⟩
  cases hf : fewI x with
  | false =>
    have HFEW := Aside0.mk hf
    clear ht0 hx0 hf
    go_enter Try.func7, Try.ntmps7
    go_wp2_with (first
    | ((with_reducible refine gate_dst (N := 2) rfl ?_); refine evS_box (S := fun _ => False) (w0 := w) (As := []) ?_ rfl (cs := vecC told) (T := 24) ?_ ?_; (focus first | (with_reducible exact HH.out) | ((repeat (first | (with_reducible refine OwnS.alloc ?_ _) | (with_reducible refine OwnS.drewN ?_ _) | (with_reducible refine OwnS.drew ?_))); (with_reducible exact HH.out))); (focus first | (go_simp; done) | (go_simp; rfl)); intro g1 w1 he hh; clear he; have HHx : Aside0 (OwnS (fun _ => False) [Sep.blk g1 (vecC told) 24] w w1) := ⟨hh⟩; clear HH; have HH := HHx; clear HHx; clear hh)
    | ((with_reducible refine gate_dst (N := 3) rfl ?_); refine evS_box (S := fun _ => False) (w0 := w) (As := [Sep.blk g1 (vecC told) 24]) ?_ rfl (cs := itC x) (T := 31) ?_ ?_; (focus first | (with_reducible exact HH.out) | ((repeat (first | (with_reducible refine OwnS.alloc ?_ _) | (with_reducible refine OwnS.drewN ?_ _) | (with_reducible refine OwnS.drew ?_))); (with_reducible exact HH.out))); (focus first | (go_simp; done) | (go_simp; rfl)); intro g2 w2 he hh; clear he; have HHx : Aside0 (OwnS (fun _ => False) [Sep.blk g1 (vecC told) 24, Sep.blk g2 (itC x) 31] w w2) := ⟨hh⟩; clear HH; have HH := HHx; clear HHx; clear hh)
    | (go_at_call 9; refine ownS_call (S := fun _ => False) (w0 := w) (As := [Sep.blk g1 (vecC told) 24, Sep.blk g2 (itC x) 31]) ?_ ?_; (focus first | (with_reducible exact HH.out) | ((repeat (first | (with_reducible refine OwnS.alloc ?_ _) | (with_reducible refine OwnS.drewN ?_ _) | (with_reducible refine OwnS.drew ?_))); (with_reducible exact HH.out))); intro ht; refine (alive_calls _).mono ?_; rintro e w3 ⟨rfl, hb⟩; have HHx : Aside0 (OwnS (fun _ => False) [Sep.blk g1 (vecC told) 24, Sep.blk g2 (itC x) 31] w w3) := ⟨OwnS.step ht hb⟩; clear HH; have HH := HHx; clear HHx; clear hb; clear ht)
    | ((with_reducible refine gate_ (.load 31 (.tmp 3)) rfl ?_); refine ev_loadA (OwnS.blk (S := fun _ => False) (w0 := w) (As := [Sep.blk g1 (vecC told) 24, Sep.blk g2 (itC x) 31]) ?_ 1 rfl) 0 20 (itC x) (all_of _ 20 (itC_size _ HX.out.1.1)) rfl rfl (by rfl) Try.underlying31 rfl (itC_size _ HX.out.1.1) (by kernel_rfl) ?_; (focus first | (with_reducible exact HH.out) | ((repeat (first | (with_reducible refine OwnS.alloc ?_ _) | (with_reducible refine OwnS.drewN ?_ _) | (with_reducible refine OwnS.drew ?_))); (with_reducible exact HH.out))))
    | (go_at_call 10; refine ownS_call (S := fun _ => False) (w0 := w) (As := [Sep.blk g1 (vecC told) 24, Sep.blk g2 (itC x) 31]) ?_ ?_; (focus first | (with_reducible exact HH.out) | ((repeat (first | (with_reducible refine OwnS.alloc ?_ _) | (with_reducible refine OwnS.drewN ?_ _) | (with_reducible refine OwnS.drew ?_))); (with_reducible exact HH.out))); intro ht; refine (few_calls _ x HX.out).mono ?_; rintro e w4 ⟨rfl, hb⟩; rw [HFEW.out]; have HHx : Aside0 (OwnS (fun _ => False) [Sep.blk g1 (vecC told) 24, Sep.blk g2 (itC x) 31] w w4) := ⟨OwnS.step ht hb⟩; clear HH; have HH := HHx; clear HHx; clear hb; clear ht)
    | fail
    | fail)
    go_ret
    exact ⟨rfl, below_frm (OwnS.frm HH.out)⟩
  | true =>
    have HFEW := Aside0.mk hf
    cases hri : rightI x with
    | false =>
      have HRI : Aside0 (rightB x.kind x.past x.text x.frm x.seq = false) := ⟨hri⟩
      obtain ⟨rb, hrb⟩ : ∃ rb, rb = false := ⟨_, rfl⟩
      have HRD : Aside0 (readyB told x = rb) := ⟨by rw [hrb]; unfold readyB; rw [hri]; rfl⟩
      have HRB := Aside0.mk hrb
      clear ht0 hx0 hf hri hrb
      go_enter Try.func7, Try.ntmps7
      go_wp2_with (first
    | ((with_reducible refine gate_dst (N := 2) rfl ?_); refine evS_box (S := fun _ => False) (w0 := w) (As := []) ?_ rfl (cs := vecC told) (T := 24) ?_ ?_; (focus first | (with_reducible exact HH.out) | ((repeat (first | (with_reducible refine OwnS.alloc ?_ _) | (with_reducible refine OwnS.drewN ?_ _) | (with_reducible refine OwnS.drew ?_))); (with_reducible exact HH.out))); (focus first | (go_simp; done) | (go_simp; rfl)); intro g1 w1 he hh; clear he; have HHx : Aside0 (OwnS (fun _ => False) [Sep.blk g1 (vecC told) 24] w w1) := ⟨hh⟩; clear HH; have HH := HHx; clear HHx; clear hh)
    | ((with_reducible refine gate_dst (N := 3) rfl ?_); refine evS_box (S := fun _ => False) (w0 := w) (As := [Sep.blk g1 (vecC told) 24]) ?_ rfl (cs := itC x) (T := 31) ?_ ?_; (focus first | (with_reducible exact HH.out) | ((repeat (first | (with_reducible refine OwnS.alloc ?_ _) | (with_reducible refine OwnS.drewN ?_ _) | (with_reducible refine OwnS.drew ?_))); (with_reducible exact HH.out))); (focus first | (go_simp; done) | (go_simp; rfl)); intro g2 w2 he hh; clear he; have HHx : Aside0 (OwnS (fun _ => False) [Sep.blk g1 (vecC told) 24, Sep.blk g2 (itC x) 31] w w2) := ⟨hh⟩; clear HH; have HH := HHx; clear HHx; clear hh)
    | (go_at_call 9; refine ownS_call (S := fun _ => False) (w0 := w) (As := [Sep.blk g1 (vecC told) 24, Sep.blk g2 (itC x) 31]) ?_ ?_; (focus first | (with_reducible exact HH.out) | ((repeat (first | (with_reducible refine OwnS.alloc ?_ _) | (with_reducible refine OwnS.drewN ?_ _) | (with_reducible refine OwnS.drew ?_))); (with_reducible exact HH.out))); intro ht; refine (alive_calls _).mono ?_; rintro e w3 ⟨rfl, hb⟩; have HHx : Aside0 (OwnS (fun _ => False) [Sep.blk g1 (vecC told) 24, Sep.blk g2 (itC x) 31] w w3) := ⟨OwnS.step ht hb⟩; clear HH; have HH := HHx; clear HHx; clear hb; clear ht)
    | ((with_reducible refine gate_ (.load 31 (.tmp 3)) rfl ?_); refine ev_loadA (OwnS.blk (S := fun _ => False) (w0 := w) (As := [Sep.blk g1 (vecC told) 24, Sep.blk g2 (itC x) 31]) ?_ 1 rfl) 0 20 (itC x) (all_of _ 20 (itC_size _ HX.out.1.1)) rfl rfl (by rfl) Try.underlying31 rfl (itC_size _ HX.out.1.1) (by kernel_rfl) ?_; (focus first | (with_reducible exact HH.out) | ((repeat (first | (with_reducible refine OwnS.alloc ?_ _) | (with_reducible refine OwnS.drewN ?_ _) | (with_reducible refine OwnS.drew ?_))); (with_reducible exact HH.out))))
    | (go_at_call 10; refine ownS_call (S := fun _ => False) (w0 := w) (As := [Sep.blk g1 (vecC told) 24, Sep.blk g2 (itC x) 31]) ?_ ?_; (focus first | (with_reducible exact HH.out) | ((repeat (first | (with_reducible refine OwnS.alloc ?_ _) | (with_reducible refine OwnS.drewN ?_ _) | (with_reducible refine OwnS.drew ?_))); (with_reducible exact HH.out))); intro ht; refine (few_calls _ x HX.out).mono ?_; rintro e w4 ⟨rfl, hb⟩; rw [HFEW.out]; have HHx : Aside0 (OwnS (fun _ => False) [Sep.blk g1 (vecC told) 24, Sep.blk g2 (itC x) 31] w w4) := ⟨OwnS.step ht hb⟩; clear HH; have HH := HHx; clear HHx; clear hb; clear ht)
    | fail
    | fail)
      have HKV : Aside0 (∀ w' : World, OwnS (fun _ => False) [Sep.blk g1 (vecC told) 24, Sep.blk g2 (itC x) 31] w w' → (w'.rangeAt g1 0 (nums .u16 told) ∧ w'.rangeAt g2 0 (itC x).toList)) := ⟨fun W h => ⟨range_vec HT.out.1 (OwnS.blk (S := fun _ => False) (w0 := w) (As := [Sep.blk g1 (vecC told) 24, Sep.blk g2 (itC x) 31]) h 0 rfl), range_it HX.out.1.1 (OwnS.blk (S := fun _ => False) (w0 := w) (As := [Sep.blk g1 (vecC told) 24, Sep.blk g2 (itC x) 31]) h 1 rfl)⟩⟩
      refine wp_region_held_drew (S := fun w' => w'.rangeAt g1 0 (nums .u16 told) ∧ w'.rangeAt g2 0 (itC x).toList) (by kernel_rfl) ?_ (fun hHeld => ?_)
      focus (try dsimp only); (refine HKV.out _ ?_; (focus first | (with_reducible exact HH.out) | ((repeat (first | (with_reducible refine OwnS.alloc ?_ _) | (with_reducible refine OwnS.drewN ?_ _) | (with_reducible refine OwnS.drew ?_))); (with_reducible exact HH.out))))
      (try dsimp only at hHeld)
      refine wpAnyH_take (i := 0) (by simp only [List.getElem?_toArray, List.getElem?_cons_succ, List.getElem?_cons_zero]; rfl) (by kernel_rfl) (by kernel_rfl) (by kernel_rfl) (by exact fun _ _ _ h => h) (yieldsIf_load_mid (by rfl) _ _ rfl _ _ rfl (nums .u16 told) _ ?_ Try.underlying24 rfl (infoV HT.out.1)) (by assumption) ?_; (focus (intro w hSw; (try dsimp only at hSw); go_split_ands; assumption)); (try simp only [Act.put, List.setIfInBounds_toArray, List.set_cons_zero, List.set_cons_succ])
      refine wpAnyH_take (i := 1) (by simp only [List.getElem?_toArray, List.getElem?_cons_succ, List.getElem?_cons_zero]; rfl) (by kernel_rfl) (by kernel_rfl) (by kernel_rfl) (by exact fun _ _ _ h => h) (yieldsIf_load_mid (by rfl) _ _ rfl _ _ rfl ((itC x).toList) _ ?_ Try.underlying31 rfl (by rw [Array.length_toList, (itC_size _ HX.out.1.1)]; kernel_rfl)) (by assumption) ?_; (focus (intro w hSw; (try dsimp only at hSw); go_split_ands; assumption)); (try simp only [Act.put, List.setIfInBounds_toArray, List.set_cons_zero, List.set_cons_succ])
      refine wpAnyH_ready (rs := [2]) (by kernel_rfl) (by simp) ?_; refine AllReadyH.cons (by simp only [List.getElem?_toArray, List.getElem?_cons_succ, List.getElem?_cons_zero]; rfl) (fun K hK => ?_) AllReadyH.nil; go_simp; go_at_call 13; refine ownS_call (S := fun _ => False) (w0 := w) (As := [Sep.blk g1 (vecC told) 24, Sep.blk g2 (itC x) 31]) ?_ ?_; (focus first | (with_reducible exact HH.out) | ((repeat (first | (with_reducible refine OwnS.alloc ?_ _) | (with_reducible refine OwnS.drewN ?_ _) | (with_reducible refine OwnS.drew ?_))); (with_reducible exact HH.out))); intro ht; refine (theirs_calls _ x HX.out).mono ?_; rintro e w5 ⟨rfl, hb⟩; have HHx : Aside0 (OwnS (fun _ => False) [Sep.blk g1 (vecC told) 24, Sep.blk g2 (itC x) 31] w w5) := ⟨OwnS.step ht hb⟩; clear HH; have HH := HHx; clear HHx; clear hb; clear ht; refine hK.out _ _ ?_ (fun hHeld2 => ?_); (focus (try dsimp only); (refine HKV.out _ ?_; (focus first | (with_reducible exact HH.out) | ((repeat (first | (with_reducible refine OwnS.alloc ?_ _) | (with_reducible refine OwnS.drewN ?_ _) | (with_reducible refine OwnS.drew ?_))); (with_reducible exact HH.out))))); clear hK K hHeld; rename _ => hHeld; (try dsimp only at hHeld); (try simp only [Act.put, List.setIfInBounds_toArray, List.set_cons_zero, List.set_cons_succ])
      refine wpAnyH_ready (rs := [3]) (by kernel_rfl) (by simp) ?_; refine AllReadyH.cons (by simp only [List.getElem?_toArray, List.getElem?_cons_succ, List.getElem?_cons_zero]; rfl) (fun K hK => ?_) AllReadyH.nil; go_simp; go_at_call 15; refine ownS_call (S := fun _ => False) (w0 := w) (As := [Sep.blk g1 (vecC told) 24, Sep.blk g2 (itC x) 31]) ?_ ?_; (focus first | (with_reducible exact HH.out) | ((repeat (first | (with_reducible refine OwnS.alloc ?_ _) | (with_reducible refine OwnS.drewN ?_ _) | (with_reducible refine OwnS.drew ?_))); (with_reducible exact HH.out))); intro ht; refine (ready_calls _ told x HT.out HX.out).mono ?_; rintro e w6 ⟨rfl, hb⟩; rw [HRD.out]; have HHx : Aside0 (OwnS (fun _ => False) [Sep.blk g1 (vecC told) 24, Sep.blk g2 (itC x) 31] w w6) := ⟨OwnS.step ht hb⟩; clear HH; have HH := HHx; clear HHx; clear hb; clear ht; refine hK.out _ _ ?_ (fun hHeld2 => ?_); (focus (try dsimp only); (refine HKV.out _ ?_; (focus first | (with_reducible exact HH.out) | ((repeat (first | (with_reducible refine OwnS.alloc ?_ _) | (with_reducible refine OwnS.drewN ?_ _) | (with_reducible refine OwnS.drew ?_))); (with_reducible exact HH.out))))); clear hK K hHeld; rename _ => hHeld; (try dsimp only at hHeld); (try simp only [Act.put, List.setIfInBounds_toArray, List.set_cons_zero, List.set_cons_succ])
      refine wpAnyH_take (i := 4) (v := .bool rb) (by simp only [List.getElem?_toArray, List.getElem?_cons_succ, List.getElem?_cons_zero]; rfl) (by kernel_rfl) (by kernel_rfl) (by kernel_rfl) (by exact fun _ _ _ h => h) (Or.inl ⟨by rfl, ?_⟩) (by assumption) ?_; (focus (intro w hSw; (try dsimp only at hSw); go_simp; try with_reducible rfl)); (try simp only [Act.put, List.setIfInBounds_toArray, List.set_cons_zero, List.set_cons_succ])
      refine wpAnyH_done (by kernel_rfl) ?_ _
      go_wp2_with (first
        | ((with_reducible refine gate_ (.load 29 (.tmp 17)) rfl ?_); refine ev_loadA (OwnS.blk (S := fun _ => False) (w0 := w) (As := [Sep.blk g1 (vecC told) 24, Sep.blk g2 (itC x) 31]) ?_ 1 rfl) 2 18 (bodC (x.kind) (x.past) (x.text)) (itC_bod _ HX.out.1.1) rfl rfl (by rfl) Try.underlying29 rfl (bodC_size _ _ _ HX.out.1.1) (by kernel_rfl) ?_; (focus first | (with_reducible exact HH.out) | ((repeat (first | (with_reducible refine OwnS.alloc ?_ _) | (with_reducible refine OwnS.drewN ?_ _) | (with_reducible refine OwnS.drew ?_))); (with_reducible exact HH.out))))
        | ((with_reducible refine gate_ (.load 5 (.tmp 19)) rfl ?_); refine ev_cell (v := .int .u8 x.frm) ((blk_cell (OwnS.blk (S := fun _ => False) (w0 := w) (As := [Sep.blk g1 (vecC told) 24, Sep.blk g2 (itC x) 31]) ?_ 1 rfl) 0).trans rfl) rfl rfl (by rfl) Try.underlying5 rfl ?_; (focus first | (with_reducible exact HH.out) | ((repeat (first | (with_reducible refine OwnS.alloc ?_ _) | (with_reducible refine OwnS.drewN ?_ _) | (with_reducible refine OwnS.drew ?_))); (with_reducible exact HH.out))))
        | ((with_reducible refine gate_ (.load 3 (.tmp 21)) rfl ?_); refine ev_cell (v := .int .i64 x.seq) ((blk_cell (OwnS.blk (S := fun _ => False) (w0 := w) (As := [Sep.blk g1 (vecC told) 24, Sep.blk g2 (itC x) 31]) ?_ 1 rfl) 1).trans rfl) rfl rfl (by rfl) Try.underlying3 rfl ?_; (focus first | (with_reducible exact HH.out) | ((repeat (first | (with_reducible refine OwnS.alloc ?_ _) | (with_reducible refine OwnS.drewN ?_ _) | (with_reducible refine OwnS.drew ?_))); (with_reducible exact HH.out))))
        | (go_at_call 25; refine ownS_call (S := fun _ => False) (w0 := w) (As := [Sep.blk g1 (vecC told) 24, Sep.blk g2 (itC x) 31]) ?_ ?_; (focus first | (with_reducible exact HH.out) | ((repeat (first | (with_reducible refine OwnS.alloc ?_ _) | (with_reducible refine OwnS.drewN ?_ _) | (with_reducible refine OwnS.drew ?_))); (with_reducible exact HH.out))); intro ht; refine (right_calls _ x.kind x.past x.text x.frm x.seq HX.out.1 HX.out.2.2 HX.out.2.1.1).mono ?_; rintro e w7 ⟨rfl, hb⟩; rw [HRI.out]; have HHx : Aside0 (OwnS (fun _ => False) [Sep.blk g1 (vecC told) 24, Sep.blk g2 (itC x) 31] w w7) := ⟨OwnS.step ht hb⟩; clear HH; have HH := HHx; clear HHx; clear hb; clear ht)
        | fail
        | fail)
      go_ret
      exact ⟨by rw [HRB.out]; rfl, below_frm (OwnS.frm HH.out)⟩
    | true =>
      have HRI : Aside0 (rightB x.kind x.past x.text x.frm x.seq = true) := ⟨hri⟩
      have hf0 : 0 ≤ x.frm := hx0.2.1.1
      obtain ⟨f, hfx⟩ : ∃ f, x.frm = f := ⟨_, rfl⟩
      obtain ⟨q, hqx⟩ : ∃ q, x.seq = q := ⟨_, rfl⟩
      have HFX := Aside0.mk hfx
      have HQX := Aside0.mk hqx
      have hf16 : f < 16 := by
        have hm := hri
        unfold rightI rightB at hm
        rw [Bool.and_eq_true, Bool.and_eq_true] at hm
        rw [← hfx]
        exact of_decide_eq_true hm.1.2
      rw [hfx] at hf0
      have HF : Aside0 (f.toNat < 16) := ⟨by omega⟩
      obtain ⟨n, hn⟩ : ∃ n, told.getD f.toNat 0 = n := ⟨_, rfl⟩
      have hr := okV_at HT.out f.toNat HF.out
      rw [hn] at hr
      have HN := Aside0.mk hn
      have hw := wrap_u16 hr.1 hr.2
      have hnn : 0 ≤ n := hr.1
      obtain ⟨rb, hrb⟩ : ∃ rb, readyB told x = rb := ⟨_, rfl⟩
      have HRD := Aside0.mk hrb
      have HRB : Aside0 (rb = (decide (n = q) && belL x.past told)) := ⟨by rw [← hrb]; unfold readyB; rw [hri]; simp only [Bool.true_and]; rw [hfx, hqx, hn]⟩
      clear ht0 hx0 hf hri hrb hn hr hfx hqx
      go_enter Try.func7, Try.ntmps7
      go_wp2_with (first
    | ((with_reducible refine gate_dst (N := 2) rfl ?_); refine evS_box (S := fun _ => False) (w0 := w) (As := []) ?_ rfl (cs := vecC told) (T := 24) ?_ ?_; (focus first | (with_reducible exact HH.out) | ((repeat (first | (with_reducible refine OwnS.alloc ?_ _) | (with_reducible refine OwnS.drewN ?_ _) | (with_reducible refine OwnS.drew ?_))); (with_reducible exact HH.out))); (focus first | (go_simp; done) | (go_simp; rfl)); intro g1 w1 he hh; clear he; have HHx : Aside0 (OwnS (fun _ => False) [Sep.blk g1 (vecC told) 24] w w1) := ⟨hh⟩; clear HH; have HH := HHx; clear HHx; clear hh)
    | ((with_reducible refine gate_dst (N := 3) rfl ?_); refine evS_box (S := fun _ => False) (w0 := w) (As := [Sep.blk g1 (vecC told) 24]) ?_ rfl (cs := itC x) (T := 31) ?_ ?_; (focus first | (with_reducible exact HH.out) | ((repeat (first | (with_reducible refine OwnS.alloc ?_ _) | (with_reducible refine OwnS.drewN ?_ _) | (with_reducible refine OwnS.drew ?_))); (with_reducible exact HH.out))); (focus first | (go_simp; done) | (go_simp; rfl)); intro g2 w2 he hh; clear he; have HHx : Aside0 (OwnS (fun _ => False) [Sep.blk g1 (vecC told) 24, Sep.blk g2 (itC x) 31] w w2) := ⟨hh⟩; clear HH; have HH := HHx; clear HHx; clear hh)
    | (go_at_call 9; refine ownS_call (S := fun _ => False) (w0 := w) (As := [Sep.blk g1 (vecC told) 24, Sep.blk g2 (itC x) 31]) ?_ ?_; (focus first | (with_reducible exact HH.out) | ((repeat (first | (with_reducible refine OwnS.alloc ?_ _) | (with_reducible refine OwnS.drewN ?_ _) | (with_reducible refine OwnS.drew ?_))); (with_reducible exact HH.out))); intro ht; refine (alive_calls _).mono ?_; rintro e w3 ⟨rfl, hb⟩; have HHx : Aside0 (OwnS (fun _ => False) [Sep.blk g1 (vecC told) 24, Sep.blk g2 (itC x) 31] w w3) := ⟨OwnS.step ht hb⟩; clear HH; have HH := HHx; clear HHx; clear hb; clear ht)
    | ((with_reducible refine gate_ (.load 31 (.tmp 3)) rfl ?_); refine ev_loadA (OwnS.blk (S := fun _ => False) (w0 := w) (As := [Sep.blk g1 (vecC told) 24, Sep.blk g2 (itC x) 31]) ?_ 1 rfl) 0 20 (itC x) (all_of _ 20 (itC_size _ HX.out.1.1)) rfl rfl (by rfl) Try.underlying31 rfl (itC_size _ HX.out.1.1) (by kernel_rfl) ?_; (focus first | (with_reducible exact HH.out) | ((repeat (first | (with_reducible refine OwnS.alloc ?_ _) | (with_reducible refine OwnS.drewN ?_ _) | (with_reducible refine OwnS.drew ?_))); (with_reducible exact HH.out))))
    | (go_at_call 10; refine ownS_call (S := fun _ => False) (w0 := w) (As := [Sep.blk g1 (vecC told) 24, Sep.blk g2 (itC x) 31]) ?_ ?_; (focus first | (with_reducible exact HH.out) | ((repeat (first | (with_reducible refine OwnS.alloc ?_ _) | (with_reducible refine OwnS.drewN ?_ _) | (with_reducible refine OwnS.drew ?_))); (with_reducible exact HH.out))); intro ht; refine (few_calls _ x HX.out).mono ?_; rintro e w4 ⟨rfl, hb⟩; rw [HFEW.out]; have HHx : Aside0 (OwnS (fun _ => False) [Sep.blk g1 (vecC told) 24, Sep.blk g2 (itC x) 31] w w4) := ⟨OwnS.step ht hb⟩; clear HH; have HH := HHx; clear HHx; clear hb; clear ht)
    | fail
    | fail)
      have HKV : Aside0 (∀ w' : World, OwnS (fun _ => False) [Sep.blk g1 (vecC told) 24, Sep.blk g2 (itC x) 31] w w' → (w'.rangeAt g1 0 (nums .u16 told) ∧ w'.rangeAt g2 0 (itC x).toList)) := ⟨fun W h => ⟨range_vec HT.out.1 (OwnS.blk (S := fun _ => False) (w0 := w) (As := [Sep.blk g1 (vecC told) 24, Sep.blk g2 (itC x) 31]) h 0 rfl), range_it HX.out.1.1 (OwnS.blk (S := fun _ => False) (w0 := w) (As := [Sep.blk g1 (vecC told) 24, Sep.blk g2 (itC x) 31]) h 1 rfl)⟩⟩
      refine wp_region_held_drew (S := fun w' => w'.rangeAt g1 0 (nums .u16 told) ∧ w'.rangeAt g2 0 (itC x).toList) (by kernel_rfl) ?_ (fun hHeld => ?_)
      focus (try dsimp only); (refine HKV.out _ ?_; (focus first | (with_reducible exact HH.out) | ((repeat (first | (with_reducible refine OwnS.alloc ?_ _) | (with_reducible refine OwnS.drewN ?_ _) | (with_reducible refine OwnS.drew ?_))); (with_reducible exact HH.out))))
      (try dsimp only at hHeld)
      refine wpAnyH_take (i := 0) (by simp only [List.getElem?_toArray, List.getElem?_cons_succ, List.getElem?_cons_zero]; rfl) (by kernel_rfl) (by kernel_rfl) (by kernel_rfl) (by exact fun _ _ _ h => h) (yieldsIf_load_mid (by rfl) _ _ rfl _ _ rfl (nums .u16 told) _ ?_ Try.underlying24 rfl (infoV HT.out.1)) (by assumption) ?_; (focus (intro w hSw; (try dsimp only at hSw); go_split_ands; assumption)); (try simp only [Act.put, List.setIfInBounds_toArray, List.set_cons_zero, List.set_cons_succ])
      refine wpAnyH_take (i := 1) (by simp only [List.getElem?_toArray, List.getElem?_cons_succ, List.getElem?_cons_zero]; rfl) (by kernel_rfl) (by kernel_rfl) (by kernel_rfl) (by exact fun _ _ _ h => h) (yieldsIf_load_mid (by rfl) _ _ rfl _ _ rfl ((itC x).toList) _ ?_ Try.underlying31 rfl (by rw [Array.length_toList, (itC_size _ HX.out.1.1)]; kernel_rfl)) (by assumption) ?_; (focus (intro w hSw; (try dsimp only at hSw); go_split_ands; assumption)); (try simp only [Act.put, List.setIfInBounds_toArray, List.set_cons_zero, List.set_cons_succ])
      refine wpAnyH_ready (rs := [2]) (by kernel_rfl) (by simp) ?_; refine AllReadyH.cons (by simp only [List.getElem?_toArray, List.getElem?_cons_succ, List.getElem?_cons_zero]; rfl) (fun K hK => ?_) AllReadyH.nil; go_simp; go_at_call 13; refine ownS_call (S := fun _ => False) (w0 := w) (As := [Sep.blk g1 (vecC told) 24, Sep.blk g2 (itC x) 31]) ?_ ?_; (focus first | (with_reducible exact HH.out) | ((repeat (first | (with_reducible refine OwnS.alloc ?_ _) | (with_reducible refine OwnS.drewN ?_ _) | (with_reducible refine OwnS.drew ?_))); (with_reducible exact HH.out))); intro ht; refine (theirs_calls _ x HX.out).mono ?_; rintro e w5 ⟨rfl, hb⟩; have HHx : Aside0 (OwnS (fun _ => False) [Sep.blk g1 (vecC told) 24, Sep.blk g2 (itC x) 31] w w5) := ⟨OwnS.step ht hb⟩; clear HH; have HH := HHx; clear HHx; clear hb; clear ht; refine hK.out _ _ ?_ (fun hHeld2 => ?_); (focus (try dsimp only); (refine HKV.out _ ?_; (focus first | (with_reducible exact HH.out) | ((repeat (first | (with_reducible refine OwnS.alloc ?_ _) | (with_reducible refine OwnS.drewN ?_ _) | (with_reducible refine OwnS.drew ?_))); (with_reducible exact HH.out))))); clear hK K hHeld; rename _ => hHeld; (try dsimp only at hHeld); (try simp only [Act.put, List.setIfInBounds_toArray, List.set_cons_zero, List.set_cons_succ])
      refine wpAnyH_ready (rs := [3]) (by kernel_rfl) (by simp) ?_; refine AllReadyH.cons (by simp only [List.getElem?_toArray, List.getElem?_cons_succ, List.getElem?_cons_zero]; rfl) (fun K hK => ?_) AllReadyH.nil; go_simp; go_at_call 15; refine ownS_call (S := fun _ => False) (w0 := w) (As := [Sep.blk g1 (vecC told) 24, Sep.blk g2 (itC x) 31]) ?_ ?_; (focus first | (with_reducible exact HH.out) | ((repeat (first | (with_reducible refine OwnS.alloc ?_ _) | (with_reducible refine OwnS.drewN ?_ _) | (with_reducible refine OwnS.drew ?_))); (with_reducible exact HH.out))); intro ht; refine (ready_calls _ told x HT.out HX.out).mono ?_; rintro e w6 ⟨rfl, hb⟩; rw [HRD.out]; have HHx : Aside0 (OwnS (fun _ => False) [Sep.blk g1 (vecC told) 24, Sep.blk g2 (itC x) 31] w w6) := ⟨OwnS.step ht hb⟩; clear HH; have HH := HHx; clear HHx; clear hb; clear ht; refine hK.out _ _ ?_ (fun hHeld2 => ?_); (focus (try dsimp only); (refine HKV.out _ ?_; (focus first | (with_reducible exact HH.out) | ((repeat (first | (with_reducible refine OwnS.alloc ?_ _) | (with_reducible refine OwnS.drewN ?_ _) | (with_reducible refine OwnS.drew ?_))); (with_reducible exact HH.out))))); clear hK K hHeld; rename _ => hHeld; (try dsimp only at hHeld); (try simp only [Act.put, List.setIfInBounds_toArray, List.set_cons_zero, List.set_cons_succ])
      refine wpAnyH_take (i := 4) (v := .bool rb) (by simp only [List.getElem?_toArray, List.getElem?_cons_succ, List.getElem?_cons_zero]; rfl) (by kernel_rfl) (by kernel_rfl) (by kernel_rfl) (by exact fun _ _ _ h => h) (Or.inl ⟨by rfl, ?_⟩) (by assumption) ?_; (focus (intro w hSw; (try dsimp only at hSw); go_simp; try with_reducible rfl)); (try simp only [Act.put, List.setIfInBounds_toArray, List.set_cons_zero, List.set_cons_succ])
      refine wpAnyH_done (by kernel_rfl) ?_ _
      go_wp2_with (first
        | ((with_reducible refine gate_ (.load 29 (.tmp 17)) rfl ?_); refine ev_loadA (OwnS.blk (S := fun _ => False) (w0 := w) (As := [Sep.blk g1 (vecC told) 24, Sep.blk g2 (itC x) 31]) ?_ 1 rfl) 2 18 (bodC (x.kind) (x.past) (x.text)) (itC_bod _ HX.out.1.1) rfl rfl (by rfl) Try.underlying29 rfl (bodC_size _ _ _ HX.out.1.1) (by kernel_rfl) ?_; (focus first | (with_reducible exact HH.out) | ((repeat (first | (with_reducible refine OwnS.alloc ?_ _) | (with_reducible refine OwnS.drewN ?_ _) | (with_reducible refine OwnS.drew ?_))); (with_reducible exact HH.out))))
        | ((with_reducible refine gate_ (.load 5 (.tmp 19)) rfl ?_); refine ev_cell (v := .int .u8 x.frm) ((blk_cell (OwnS.blk (S := fun _ => False) (w0 := w) (As := [Sep.blk g1 (vecC told) 24, Sep.blk g2 (itC x) 31]) ?_ 1 rfl) 0).trans rfl) rfl rfl (by rfl) Try.underlying5 rfl ?_; (focus first | (with_reducible exact HH.out) | ((repeat (first | (with_reducible refine OwnS.alloc ?_ _) | (with_reducible refine OwnS.drewN ?_ _) | (with_reducible refine OwnS.drew ?_))); (with_reducible exact HH.out))))
        | ((with_reducible refine gate_ (.load 3 (.tmp 21)) rfl ?_); refine ev_cell (v := .int .i64 x.seq) ((blk_cell (OwnS.blk (S := fun _ => False) (w0 := w) (As := [Sep.blk g1 (vecC told) 24, Sep.blk g2 (itC x) 31]) ?_ 1 rfl) 1).trans rfl) rfl rfl (by rfl) Try.underlying3 rfl ?_; (focus first | (with_reducible exact HH.out) | ((repeat (first | (with_reducible refine OwnS.alloc ?_ _) | (with_reducible refine OwnS.drewN ?_ _) | (with_reducible refine OwnS.drew ?_))); (with_reducible exact HH.out))))
        | (go_at_call 25; refine ownS_call (S := fun _ => False) (w0 := w) (As := [Sep.blk g1 (vecC told) 24, Sep.blk g2 (itC x) 31]) ?_ ?_; (focus first | (with_reducible exact HH.out) | ((repeat (first | (with_reducible refine OwnS.alloc ?_ _) | (with_reducible refine OwnS.drewN ?_ _) | (with_reducible refine OwnS.drew ?_))); (with_reducible exact HH.out))); intro ht; refine (right_calls _ x.kind x.past x.text x.frm x.seq HX.out.1 HX.out.2.2 HX.out.2.1.1).mono ?_; rintro e w7 ⟨rfl, hb⟩; rw [HRI.out]; have HHx : Aside0 (OwnS (fun _ => False) [Sep.blk g1 (vecC told) 24, Sep.blk g2 (itC x) 31] w w7) := ⟨OwnS.step ht hb⟩; clear HH; have HH := HHx; clear HHx; clear hb; clear ht)
        | fail
        | fail)
      go_loopw [6, 27] (fun v6 v27 W => ∃ (i : Nat), v6 = .bool (belT x.past told i) ∧ v27 = .int .i64 (i : Int) ∧ i ≤ 16 ∧ Aside0 (OwnS (fun _ => False) [Sep.blk g1 (vecC told) 24, Sep.blk g2 (itC x) 31] w W)) (fun _ vi _ => 16 - (intOf vi).toNat)
      case atStart => exact ⟨0, rfl, rfl, by omega, HH⟩
      case round =>
        clear HH
        obtain ⟨i, rfl, rfl, hi, HH⟩ := hrel
        by_cases hlt : i < 16
        · obtain ⟨p, hp⟩ : ∃ p, x.past.getD i 0 = p := ⟨_, rfl⟩
          obtain ⟨y, hy⟩ : ∃ y, told.getD i 0 = y := ⟨_, rfl⟩
          have HP := Aside0.mk hp
          have HY := Aside0.mk hy
          have fa : wr.cell? ⟨g2, 3 + i, none⟩ = some (.int .u16 p) := (by rw [← HP.out, Nat.add_comm 3 i]; exact (blk_cell (OwnS.blk (S := fun _ => False) (w0 := w) (As := [Sep.blk g1 (vecC told) 24, Sep.blk g2 (itC x) 31]) HH.out 1 rfl) (i + 3)).trans (itC_at _ i (by rw [HX.out.1.1]; exact hlt)))
          have fb : wr.cell? ⟨g1, i, none⟩ = some (.int .u16 y) := (by rw [← HY.out]; exact (blk_cell (OwnS.blk (S := fun _ => False) (w0 := w) (As := [Sep.blk g1 (vecC told) 24, Sep.blk g2 (itC x) 31]) HH.out 0 rfl) i).trans (vecC_at _ i (by rw [HT.out.1]; exact hlt)))
          have q0 : 0 ≤ (i : Int) := by omega
          have q1 : (i : Int) < 16 := by omega
          obtain ⟨b, hb⟩ : ∃ b, belT x.past told i = b := ⟨_, rfl⟩
          have HBE : Aside0 (belT x.past told (i + 1) = (b && decide (p ≤ y))) := ⟨by rw [belT_step, hb, hp, hy]⟩
          rw [hb]
          clear hb hp hy
          cases b with
          | false =>
            go_wp2_with fail
            go_quiet (fail)
            go_wp2_with fail
            go_roundw
            case rel => exact ⟨i + 1, by rw [HBE.out]; simp, by go_num, by omega, ⟨OwnS.drewN HH.out _⟩⟩
            case measure => simp [intOf]; omega
          | true =>
            obtain ⟨d, hd⟩ : ∃ d, decide (p ≤ y) = d := ⟨_, rfl⟩
            have HBF := HBE.out
            rw [hd] at HBF
            have HBG := Aside0.mk HBF
            clear HBF HBE
            cases d with
            | false =>
              go_wp2_with fail
              go_quiet (fail)
              go_wp2_with fail
              go_roundw
              case rel => exact ⟨i + 1, by rw [HBG.out]; simp, by go_num, by omega, ⟨OwnS.drewN HH.out _⟩⟩
              case measure => simp [intOf]; omega
            | true =>
              go_wp2_with fail
              go_quiet (fail)
              go_wp2_with fail
              go_roundw
              case rel => exact ⟨i + 1, by rw [HBG.out]; simp, by go_num, by omega, ⟨OwnS.drewN HH.out _⟩⟩
              case measure => simp [intOf]; omega
        · have hi16 : i = 16 := by omega
          subst hi16
          have f0 : wr.cell? ⟨g2, 0, none⟩ = some (.int .u8 f) := (by rw [← HFX.out]; exact blk_cell (OwnS.blk (S := fun _ => False) (w0 := w) (As := [Sep.blk g1 (vecC told) 24, Sep.blk g2 (itC x) 31]) HH.out 1 rfl) 0)
          have f1 : wr.cell? ⟨g2, 1, none⟩ = some (.int .i64 q) := (by rw [← HQX.out]; exact blk_cell (OwnS.blk (S := fun _ => False) (w0 := w) (As := [Sep.blk g1 (vecC told) 24, Sep.blk g2 (itC x) 31]) HH.out 1 rfl) 1)
          have f2 : wr.cell? ⟨g1, f.toNat, none⟩ = some (.int .u16 n) := (by rw [← HN.out]; exact (blk_cell (OwnS.blk (S := fun _ => False) (w0 := w) (As := [Sep.blk g1 (vecC told) 24, Sep.blk g2 (itC x) 31]) HH.out 0 rfl) f.toNat).trans (vecC_at _ f.toNat (by rw [HT.out.1]; exact HF.out)))
          have hm : f % 16 = f := by omega
          obtain ⟨b, hb⟩ : ∃ b, belL x.past told = b := ⟨_, rfl⟩
          rw [belT_all, hb]
          have HBB : Aside0 (rb = (decide (n = q) && b)) := ⟨by rw [HRB.out, hb]⟩
          clear hb HRB
          cases b with
          | false =>
            have hrb : rb = false := by rw [HBB.out]; simp
            subst hrb
            go_wp2_with fail
            go_quiet (fail)
            go_wp2_with fail
            go_ret
            exact ⟨rfl, below_frm (OwnS.frm (OwnS.drewN HH.out _))⟩
          | true =>
            by_cases hnq : n = q
            · have hrb : rb = true := by rw [HBB.out]; simp [hnq]
              subst hrb
              have hb1 : (n == q) = true := by simp [hnq]
              clear hnq
              go_wp2_with fail
              go_quiet (fail)
              go_wp2_with fail
              go_ret
              exact ⟨rfl, below_frm (OwnS.frm (OwnS.drewN HH.out _))⟩
            · have hrb : rb = false := by rw [HBB.out]; simp [hnq]
              subst hrb
              have hb1 : (n == q) = false := by simp [hnq]
              clear hnq
              go_wp2_with fail
              go_quiet (fail)
              go_wp2_with fail
              go_ret
              exact ⟨rfl, below_frm (OwnS.frm (OwnS.drewN HH.out _))⟩
end Go.Proofs.Ytkifekjcpnoclaa.Hld
