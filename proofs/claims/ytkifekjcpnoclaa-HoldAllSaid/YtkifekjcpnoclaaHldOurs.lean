/- ours, Ours; '==' of rows and of holds. -/
import Derived.Test.YtkifekjcpnoclaaHldOne
namespace Go.Proofs.Ytkifekjcpnoclaa.Hld
open Go Go.RowKit Go.Proofs.YtkifekjcpnoclaaW.PrintWords Go.Proofs.Ytkifekjcpnoclaa.Sep Go.Proofs.Ytkifekjcpnoclaa.Obj
set_option linter.unusedVariables false
set_option linter.unusedSimpArgs false

theorem range_hov {v : List Int} {s : Value} (hv : v.length = 16) {w : World} {g : Nat} {T : TypeId} (h : w.heap[g]? = some (.cells (hoC v s) T (0, 0))) : w.rangeAt g 0 (nums .u16 v) := by
  have := range_ho hv h
  simpa [vecC] using this

set_option maxHeartbeats 4000000 in
set_option maxRecDepth 100000 in
theorem ours_calls (w : World) (A : Option Addr) (c : Nat) (l : List It) (hr : kIt.C w A l.length l) (hl : l.length ≤ 900000) : Calls Try.prog 22 #[.slice A l.length c] w (fun e w' => ∃ A' c', e = .returned (.slice A' l.length c') ∧ Own [Sep.row kIt 31 (.slice A' l.length c') l] w w') := by
  have HR := Aside0.mk hr
  have HL := Aside0.mk hl
  clear hr
  go_enter Try.func22, Try.ntmps22
  go_wp2_with fail
  go_loopw [3, 8] (fun v3 vi W => ∃ (i : Nat) (B : Option Addr) (d : Nat), v3 = .slice B i d ∧ vi = .int .i64 (i : Int) ∧ i ≤ l.length ∧ Aside0 (OwnS (fun _ => False) [Sep.row kIt 31 (.slice B i d) (l.take i)] w W)) (fun _ vi _ => l.length - (intOf vi).toNat)
  case atStart => exact ⟨0, none, 0, rfl, rfl, by omega, ⟨OwnS.of_own (Own.nil (Own.start w))⟩⟩
  case round =>
    obtain ⟨i, B, d, rfl, rfl, hi, HH⟩ := hrel
    by_cases hlt : i < l.length
    · have hb0 := below_frm (OwnS.frm HH.out)
      obtain ⟨g0, o0, ea, hox, hrx⟩ := at_It (Kd.C_below HR.out hb0) i hlt
      subst ea
      obtain ⟨x, hx⟩ : ∃ x, l[i] = x := ⟨_, rfl⟩
      rw [hx] at hox hrx
      have HOX := Aside0.mk hox
      have HRX := Aside0.mk hrx
      have HTK : Aside0 ((l.take i).length = i) := ⟨by simp; omega⟩
      have HTS : Aside0 (l.take i ++ [x] = l.take (i + 1)) := ⟨by rw [← hx]; exact List.take_append_getElem hlt⟩
      have q0 : 0 ≤ (i : Int) := by omega
      have q1 : (i : Int) < (l.length : Int) := by omega
      clear hox hrx hx hb0
      go_wp2_with (first
        | ((with_reducible refine gate_ (.load 43 (.tmp 10)) rfl ?_); refine ev_loadR (b := g0) (p0 := o0 + i * 20) (n := 20) (cs := itC x) HRX.out rfl rfl (by rfl) Try.underlying43 rfl (itC_size _ HOX.out.1.1) (by kernel_rfl) ?_)
        | ((with_reducible refine gate_dst (N := 5) rfl ?_); refine evS_box (S := fun _ => False) (w0 := w) (As := [Sep.row kIt 31 (.slice B i d) (l.take i)]) ?_ rfl (cs := itC zI) (T := 43) ?_ ?_; (focus first | with_reducible exact HH.out | ((with_reducible repeat first | refine OwnS.alloc ?_ _ | refine OwnS.drewN ?_ _ | refine OwnS.drew ?_); with_reducible exact HH.out)); (focus first | (go_simp; done) | (go_simp; rfl)); intro g1 w21 he hh; clear he; have HHx : Aside0 (OwnS (fun _ => False) [Sep.row kIt 31 (.slice B i d) (l.take i), Sep.blk g1 (itC zI) 43] w w21) := ⟨hh⟩; clear HH; have HH := HHx; clear HHx; clear hh)
        | ((with_reducible refine gate_ (.store 43 (.tmp 5) (.tmp 11)) rfl ?_); refine evS_storeA (S := fun _ => False) (w0 := w) (As := [Sep.row kIt 31 (.slice B i d) (l.take i), Sep.blk g1 (itC zI) 43]) ?_ 1 rfl rfl rfl rfl (by rfl) (.agg (itC x)) (by rfl) (itC x) (by rfl) 20 20 (itC_size _ HOX.out.1.1) (itC_size _ zI_len) (by kernel_rfl) (by decide) (itC_one _) (itC x) (put_all _ _ (by rw [(itC_size _ HOX.out.1.1), (itC_size _ zI_len)])) ?_; (focus first | with_reducible exact HH.out | ((with_reducible repeat first | refine OwnS.alloc ?_ _ | refine OwnS.drewN ?_ _ | refine OwnS.drew ?_); with_reducible exact HH.out)); intro w22 hh; have HHx : Aside0 (OwnS (fun _ => False) [Sep.row kIt 31 (.slice B i d) (l.take i), Sep.blk g1 (itC x) 43] w w22) := ⟨hh⟩; clear HH; have HH := HHx; clear HHx; clear hh)
        | ((with_reducible refine gate_ (.load 5 (.tmp 13)) rfl ?_); refine ev_cell (v := .int .u8 x.frm) ((blk_cell (OwnS.blk (S := fun _ => False) (w0 := w) (As := [Sep.row kIt 31 (.slice B i d) (l.take i), Sep.blk g1 (itC x) 43]) ?_ 1 rfl) 0).trans rfl) rfl rfl (by rfl) Try.underlying5 rfl ?_; (focus first | with_reducible exact HH.out | ((with_reducible repeat first | refine OwnS.alloc ?_ _ | refine OwnS.drewN ?_ _ | refine OwnS.drew ?_); with_reducible exact HH.out)))
        | ((with_reducible refine gate_ (.load 3 (.tmp 15)) rfl ?_); refine ev_cell (v := .int .i64 x.seq) ((blk_cell (OwnS.blk (S := fun _ => False) (w0 := w) (As := [Sep.row kIt 31 (.slice B i d) (l.take i), Sep.blk g1 (itC x) 43]) ?_ 1 rfl) 1).trans rfl) rfl rfl (by rfl) Try.underlying3 rfl ?_; (focus first | with_reducible exact HH.out | ((with_reducible repeat first | refine OwnS.alloc ?_ _ | refine OwnS.drewN ?_ _ | refine OwnS.drew ?_); with_reducible exact HH.out)))
        | ((with_reducible refine gate_ (.load 41 (.tmp 17)) rfl ?_); refine ev_loadA (OwnS.blk (S := fun _ => False) (w0 := w) (As := [Sep.row kIt 31 (.slice B i d) (l.take i), Sep.blk g1 (itC x) 43]) ?_ 1 rfl) 2 18 (bodC (x.kind) (x.past) (x.text)) (itC_bod _ HOX.out.1.1) rfl rfl (by rfl) Try.underlying41 rfl (bodC_size _ _ _ HOX.out.1.1) (by kernel_rfl) ?_; (focus first | with_reducible exact HH.out | ((with_reducible repeat first | refine OwnS.alloc ?_ _ | refine OwnS.drewN ?_ _ | refine OwnS.drew ?_); with_reducible exact HH.out)))
        | ((with_reducible refine gate_dst (N := 19) rfl ?_); refine buildE rfl rfl (v := .agg (itC x)) (by simp only [List.map_toArray, List.map_cons, List.map_nil]; exact buildR_it x HOX.out.1.1 _) ?_)
        | ((with_reducible refine gate_dst (N := 20) rfl ?_); refine litR1 rfl x HOX.out.1.1 rfl rfl ?_)
        | (at_builtin; refine evS_appendR kIt (S := fun _ => False) (w0 := w) (As := [Sep.row kIt 31 (.slice B i d) (l.take i), Sep.blk g1 (itC x) 43]) ?_ 0 rfl (.tmp 12) (.tmp 20) 25 31 (.agg (itC zI)) 72 rfl Try.underlying25 infoR rfl (by first | decide | exact Nat.succ_pos _) (by decide) (.slice B i d) (l.take i) x (itL x) rfl rfl ?_ ?_ ?_ ?_; (focus first | with_reducible exact HH.out | ((with_reducible repeat first | refine OwnS.alloc ?_ _ | refine OwnS.drewN ?_ _ | refine OwnS.drew ?_); with_reducible exact HH.out)); (focus first | rfl | (simp [Act.eval]; done)); (focus exact fun _ => kIt_M HOX.out); (focus have := HL.out; (rw [HTK.out]); omega); intro A9 c9 w23 hh; have HHx : Aside0 (OwnS (fun _ => False) [Sep.row kIt 31 (.slice A9 ((l.take i).length + 1) c9) (l.take i ++ [x]), Sep.blk g1 (itC x) 43] w w23) := ⟨hh⟩; clear HH; have HH := HHx; clear HHx; clear hh)
        | fail
        | fail)
      go_roundw
      case rel =>
        have h8 := OwnS.picks (S := fun _ => False) (w0 := w) (As := [Sep.row kIt 31 (.slice A9 ((l.take i).length + 1) c9) (l.take i ++ [x]), Sep.blk g1 (itC x) 43]) HH.out [0] (by decide)
        rw [HTK.out, HTS.out] at h8
        exact ⟨i + 1, A9, c9, by first | rfl | rw [HTK.out], by go_num, by omega, ⟨h8⟩⟩
      case measure => simp [intOf]; omega
    · have hi2 : i = l.length := by omega
      subst hi2
      have HTK : Aside0 (l.take l.length = l) := ⟨List.take_length⟩
      rw [HTK.out] at HH
      go_wp2_with fail
      go_ret
      exact ⟨B, d, rfl, Own.pick (OwnS.own HH.out) 0 rfl⟩

set_option maxHeartbeats 4000000 in
set_option maxRecDepth 100000 in
theorem Ours_calls (w : World) (told : List Int) (A : Option Addr) (c : Nat) (l : List It) (ht0 : okV told) (hr : kIt.C w A l.length l) (hl : l.length ≤ 900000) : Calls Try.prog 20 #[.agg (hoC told (.slice A l.length c))] w (fun e w' => ∃ A' c', e = .returned (.agg (hoC told (.slice A' l.length c'))) ∧ Own [Sep.row kIt 31 (.slice A' l.length c') l] w w') := by
  have HT := Aside0.mk ht0
  have HR := Aside0.mk hr
  have HL := Aside0.mk hl
  have HH : Aside0 (OwnS (fun _ => False) [] w w) := ⟨OwnS.of_own (Own.start w)⟩
  clear ht0 hr
  go_enter Try.func20, Try.ntmps20
  go_wp2_with (first
    | ((with_reducible refine gate_dst (N := 1) rfl ?_); refine evS_box (S := fun _ => False) (w0 := w) (As := []) ?_ rfl (cs := hoC told (.slice A l.length c)) (T := 36) ?_ ?_; (focus first | with_reducible exact HH.out | ((with_reducible repeat first | refine OwnS.alloc ?_ _ | refine OwnS.drewN ?_ _ | refine OwnS.drew ?_); with_reducible exact HH.out)); (focus first | (go_simp; done) | (go_simp; rfl)); intro g1 w1 he hh; clear he; have HHx : Aside0 (OwnS (fun _ => False) [Sep.blk g1 (hoC told (.slice A l.length c)) 36] w w1) := ⟨hh⟩; clear HH; have HH := HHx; clear HHx; clear hh)
    | ((with_reducible refine gate_dst (N := 2) rfl ?_); refine evS_box (S := fun _ => False) (w0 := w) (As := [Sep.blk g1 (hoC told (.slice A l.length c)) 36]) ?_ rfl (cs := hoC (List.replicate 16 (0 : Int)) (.slice none 0 0)) (T := 27) ?_ ?_; (focus first | with_reducible exact HH.out | ((with_reducible repeat first | refine OwnS.alloc ?_ _ | refine OwnS.drewN ?_ _ | refine OwnS.drew ?_); with_reducible exact HH.out)); (focus first | (go_simp; done) | (go_simp; rfl)); intro g2 w2 he hh; clear he; have HHx : Aside0 (OwnS (fun _ => False) [Sep.blk g1 (hoC told (.slice A l.length c)) 36, Sep.blk g2 (hoC (List.replicate 16 (0 : Int)) (.slice none 0 0)) 27] w w2) := ⟨hh⟩; clear HH; have HH := HHx; clear HHx; clear hh)
    | fail
    | fail)
  have HKV : Aside0 (∀ w' : World, OwnS (fun _ => False) [Sep.blk g1 (hoC told (.slice A l.length c)) 36, Sep.blk g2 (hoC (List.replicate 16 (0 : Int)) (.slice none 0 0)) 27] w w' → (w'.rangeAt g1 0 (nums .u16 told) ∧ w'.cell? ⟨g1, 16, none⟩ = some (.slice A l.length c))) := ⟨fun W h => ⟨range_hov HT.out.1 (OwnS.blk (S := fun _ => False) (w0 := w) (As := [Sep.blk g1 (hoC told (.slice A l.length c)) 36, Sep.blk g2 (hoC (List.replicate 16 (0 : Int)) (.slice none 0 0)) 27]) h 0 rfl), (blk_cell (OwnS.blk (S := fun _ => False) (w0 := w) (As := [Sep.blk g1 (hoC told (.slice A l.length c)) 36, Sep.blk g2 (hoC (List.replicate 16 (0 : Int)) (.slice none 0 0)) 27]) h 0 rfl) 16).trans (hoC_last _ _ HT.out.1)⟩⟩
  refine wp_region_held_drew (S := fun w' => w'.rangeAt g1 0 (nums .u16 told) ∧ w'.cell? ⟨g1, 16, none⟩ = some (.slice A l.length c)) (by kernel_rfl) ?_ (fun hHeld => ?_)
  focus (try dsimp only); (refine HKV.out _ ?_; (focus first | with_reducible exact HH.out | ((with_reducible repeat first | refine OwnS.alloc ?_ _ | refine OwnS.drewN ?_ _ | refine OwnS.drew ?_); with_reducible exact HH.out)))
  (try dsimp only at hHeld)
  refine tk (i := 0) (v := ?_) (hy := Or.inl ⟨by rfl, ?_⟩) (h := ?_); rotate_left; (focus (intro w hSw; (try dsimp only at hSw); go_simp; try with_reducible rfl)); (try simp only [Act.put, List.setIfInBounds_toArray, List.set_cons_zero, List.set_cons_succ])
  refine tk (i := 1) (hy := yieldsIf_load_mid (by rfl) _ _ rfl _ _ rfl (nums .u16 told) _ ?_ Try.underlying24 rfl (infoV HT.out.1)) (h := ?_); (focus (intro w hSw; (try dsimp only at hSw); go_split_ands; assumption)); (try simp only [Act.put, List.setIfInBounds_toArray, List.set_cons_zero, List.set_cons_succ])
  refine tk (i := 2) (v := ?_) (hy := Or.inl ⟨by rfl, ?_⟩) (h := ?_); rotate_left; (focus (intro w hSw; (try dsimp only at hSw); go_simp; try with_reducible rfl)); (try simp only [Act.put, List.setIfInBounds_toArray, List.set_cons_zero, List.set_cons_succ])
  refine tk (i := 3) (v := .slice A l.length c) (hy := Or.inl ⟨by rfl, ?_⟩) (h := ?_); (focus (intro w hSw; (try dsimp only at hSw); go_simp; try with_reducible rfl)); (try simp only [Act.put, List.setIfInBounds_toArray, List.set_cons_zero, List.set_cons_succ])
  refine wpAnyH_ready (rs := [4]) (by kernel_rfl) (by simp) ?_
  refine AllReadyH.cons (by simp only [List.getElem?_toArray, List.getElem?_cons_succ, List.getElem?_cons_zero]; rfl) (fun K hK => ?_) AllReadyH.nil; go_simp; go_at_call 22; refine ownS_call (S := fun _ => False) (w0 := w) (As := [Sep.blk g1 (hoC told (.slice A l.length c)) 36, Sep.blk g2 (hoC (List.replicate 16 (0 : Int)) (.slice none 0 0)) 27]) ?_ ?_; (focus first | with_reducible exact HH.out | ((with_reducible repeat first | refine OwnS.alloc ?_ _ | refine OwnS.drewN ?_ _ | refine OwnS.drew ?_); with_reducible exact HH.out)); intro ht; refine (ours_calls _ A c l ?_ HL.out).mono ?_; (focus exact Kd.C_below HR.out (below_frm (OwnS.frm ht))); rintro e w3 ⟨B0, d0, rfl, ho⟩; have HHx : Aside0 (OwnS (fun _ => False) [Sep.blk g1 (hoC told (.slice A l.length c)) 36, Sep.blk g2 (hoC (List.replicate 16 (0 : Int)) (.slice none 0 0)) 27, Sep.row kIt 31 (.slice B0 l.length d0) l] w w3) := ⟨OwnS.joinL (S := fun _ => False) (w0 := w) (As := [Sep.blk g1 (hoC told (.slice A l.length c)) 36, Sep.blk g2 (hoC (List.replicate 16 (0 : Int)) (.slice none 0 0)) 27]) (Bs := [Sep.row kIt 31 (.slice B0 l.length d0) l]) ht ho⟩; clear HH; have HH := HHx; clear HHx; clear ho; clear ht; clear HKV; have HKV : Aside0 (∀ w' : World, OwnS (fun _ => False) [Sep.blk g1 (hoC told (.slice A l.length c)) 36, Sep.blk g2 (hoC (List.replicate 16 (0 : Int)) (.slice none 0 0)) 27, Sep.row kIt 31 (.slice B0 l.length d0) l] w w' → (w'.rangeAt g1 0 (nums .u16 told) ∧ w'.cell? ⟨g1, 16, none⟩ = some (.slice A l.length c))) := ⟨fun W h => ⟨range_hov HT.out.1 (OwnS.blk (S := fun _ => False) (w0 := w) (As := [Sep.blk g1 (hoC told (.slice A l.length c)) 36, Sep.blk g2 (hoC (List.replicate 16 (0 : Int)) (.slice none 0 0)) 27, Sep.row kIt 31 (.slice B0 l.length d0) l]) h 0 rfl), (blk_cell (OwnS.blk (S := fun _ => False) (w0 := w) (As := [Sep.blk g1 (hoC told (.slice A l.length c)) 36, Sep.blk g2 (hoC (List.replicate 16 (0 : Int)) (.slice none 0 0)) 27, Sep.row kIt 31 (.slice B0 l.length d0) l]) h 0 rfl) 16).trans (hoC_last _ _ HT.out.1)⟩⟩; refine hK.out _ _ ?_ (fun hHeld2 => ?_); (focus (try dsimp only); (refine HKV.out _ ?_; (focus first | with_reducible exact HH.out | ((with_reducible repeat first | refine OwnS.alloc ?_ _ | refine OwnS.drewN ?_ _ | refine OwnS.drew ?_); with_reducible exact HH.out)))); clear hK K hHeld; rename _ => hHeld; (try dsimp only at hHeld); (try simp only [Act.put, List.setIfInBounds_toArray, List.set_cons_zero, List.set_cons_succ])
  refine tk (i := 5) (v := ?_) (hy := (Or.inl ⟨by rfl, fun w _ => build_take rfl (by simp only [List.map_toArray, List.map_cons, List.map_nil]; exact buildR_h told HT.out.1 _ _ _ _)⟩)) (h := ?_); (try simp only [Act.put, List.setIfInBounds_toArray, List.set_cons_zero, List.set_cons_succ])
  refine wpAnyH_ready (rs := [6]) (by kernel_rfl) (by simp) ?_
  refine AllReadyH.cons (by simp only [List.getElem?_toArray, List.getElem?_cons_succ, List.getElem?_cons_zero]; rfl) (fun K hK => ?_) AllReadyH.nil; refine evS_storeA_step (S := fun _ => False) (w0 := w) (As := [Sep.blk g1 (hoC told (.slice A l.length c)) 36, Sep.blk g2 (hoC (List.replicate 16 (0 : Int)) (.slice none 0 0)) 27, Sep.row kIt 31 (.slice B0 l.length d0) l]) ?_ 1 (by rfl) rfl rfl rfl (by rfl) (.agg (hoC told (.slice B0 l.length d0))) (by rfl) (hoC told (.slice B0 l.length d0)) (by rfl) 17 17 (hoC_size _ _ HT.out.1) (hoC_size _ _ (by rfl)) (by kernel_rfl) (by decide) (hoC_one _ _ rfl) (hoC told (.slice B0 l.length d0)) (put_all _ _ (by rw [(hoC_size _ _ HT.out.1), (hoC_size _ _ (by rfl))])) ?_; (focus first | with_reducible exact HH.out | ((with_reducible repeat first | refine OwnS.alloc ?_ _ | refine OwnS.drewN ?_ _ | refine OwnS.drew ?_); with_reducible exact HH.out)); intro w4 hh; have HHx : Aside0 (OwnS (fun _ => False) [Sep.blk g1 (hoC told (.slice A l.length c)) 36, Sep.blk g2 (hoC told (.slice B0 l.length d0)) 27, Sep.row kIt 31 (.slice B0 l.length d0) l] w w4) := ⟨hh⟩; clear HH; have HH := HHx; clear HHx; clear hh; clear HKV; have HKV : Aside0 (∀ w' : World, OwnS (fun _ => False) [Sep.blk g1 (hoC told (.slice A l.length c)) 36, Sep.blk g2 (hoC told (.slice B0 l.length d0)) 27, Sep.row kIt 31 (.slice B0 l.length d0) l] w w' → (w'.rangeAt g1 0 (nums .u16 told) ∧ w'.cell? ⟨g1, 16, none⟩ = some (.slice A l.length c))) := ⟨fun W h => ⟨range_hov HT.out.1 (OwnS.blk (S := fun _ => False) (w0 := w) (As := [Sep.blk g1 (hoC told (.slice A l.length c)) 36, Sep.blk g2 (hoC told (.slice B0 l.length d0)) 27, Sep.row kIt 31 (.slice B0 l.length d0) l]) h 0 rfl), (blk_cell (OwnS.blk (S := fun _ => False) (w0 := w) (As := [Sep.blk g1 (hoC told (.slice A l.length c)) 36, Sep.blk g2 (hoC told (.slice B0 l.length d0)) 27, Sep.row kIt 31 (.slice B0 l.length d0) l]) h 0 rfl) 16).trans (hoC_last _ _ HT.out.1)⟩⟩; refine hK.out _ _ ?_ (fun hHeld2 => ?_); (focus (try dsimp only); (refine HKV.out _ ?_; (focus first | with_reducible exact HH.out | ((with_reducible repeat first | refine OwnS.alloc ?_ _ | refine OwnS.drewN ?_ _ | refine OwnS.drew ?_); with_reducible exact HH.out)))); clear hK K hHeld; rename _ => hHeld; (try dsimp only at hHeld); (try simp only [Act.put, List.setIfInBounds_toArray, List.set_cons_zero, List.set_cons_succ])
  refine wpAnyH_done (by kernel_rfl) ?_ _
  go_wp2_with fail
  refine bodyPost_ret (v := .agg (hoC told (.slice B0 l.length d0))) (results_cell_row rfl _ _ g2 27 (hoC told (.slice B0 l.length d0)) (0, 0) _ rfl (OwnS.blk HH.out 1 rfl) Try.underlying27 rfl (by rw [(hoC_size _ _ HT.out.1)]; kernel_rfl)) rfl ?_
  exact ⟨B0, d0, rfl, Own.pick (OwnS.own HH.out) 2 rfl⟩

set_option maxHeartbeats 4000000 in
set_option maxRecDepth 100000 in
theorem items_calls (w : World) (A B : Option Addr) (c d : Nat) (l m : List It) (hr : kIt.C w A l.length l) (hs : kIt.C w B m.length m) (hkl : ∀ x ∈ l, okK x) (hkm : ∀ x ∈ m, okK x) (hl : l.length ≤ 1000000) (hm : m.length ≤ 1000000) : Calls Try.prog 21 #[.slice A l.length c, .slice B m.length d] w (Kept (.bool (decide (l = m))) w) := by
  have HH : Aside0 (OwnS (fun _ => False) [] w w) := ⟨OwnS.of_own (Own.start w)⟩
  by_cases hlm : l.length = m.length
  · have HM := Aside0.mk hlm
    have HLL : (m.length : Int) = (l.length : Int) := by omega
    go_enter Try.func21, Try.ntmps21
    go_wp2_with fail
    go_loopw [5] (fun vi W => ∃ (i : Nat), vi = .int .i64 (i : Int) ∧ i ≤ l.length ∧ Aside0 (l.take i = m.take i) ∧ Aside0 (OwnS (fun _ => False) [] w W)) (fun vi _ => l.length - (intOf vi).toNat)
    case atStart => exact ⟨0, rfl, by omega, ⟨by simp⟩, HH⟩
    case round =>
      clear HH
      obtain ⟨i, rfl, hi, HA, HH⟩ := hrel
      by_cases hlt : i < l.length
      · have hlt2 : i < m.length := by omega
        obtain ⟨g0, o0, ea, hox, _⟩ := at_It hr i hlt
        subst ea
        obtain ⟨h0, p0, ea, hoy, _⟩ := at_It hs i hlt2
        subst ea
        obtain ⟨x, hx⟩ : ∃ x, l[i] = x := ⟨_, rfl⟩
        obtain ⟨y, hy⟩ : ∃ y, m[i] = y := ⟨_, rfl⟩
        rw [hx] at hox
        rw [hy] at hoy
        have HOX := Aside0.mk hox
        have HOY := Aside0.mk hoy
        have HKX : Aside0 (okK x) := ⟨hkl x (hx ▸ List.getElem_mem hlt)⟩
        have HKY : Aside0 (okK y) := ⟨hkm y (hy ▸ List.getElem_mem hlt2)⟩
        have HRX : Aside0 (∀ {W : World}, Below w.heap.size w W → W.rangeAt g0 (o0 + i * 20) (itC x).toList) := ⟨row_at (A := none) hr hlt hx⟩
        have HRY : Aside0 (∀ {W : World}, Below w.heap.size w W → W.rangeAt h0 (p0 + i * 20) (itC y).toList) := ⟨row_at (A := none) hs hlt2 hy⟩
        have q0 : 0 ≤ (i : Int) := by omega
        have q1 : (i : Int) < (l.length : Int) := by omega
        have q2 : (i : Int) < (m.length : Int) := by omega
        by_cases hxy : x = y
        · have HEQ : Aside0 (eqI x y = true) := ⟨(eqI_iff x y).2 hxy⟩
          have HS : Aside0 (l.take (i + 1) = m.take (i + 1)) := ⟨by rw [← List.take_append_getElem hlt, ← List.take_append_getElem hlt2, HA.out, hx, hy, hxy]⟩
          clear hox hoy hx hy hxy HA hkl hkm
          clear hr hs
          go_wp2_with fail
          have HKV : Aside0 (∀ w' : World, OwnS (fun _ => False) [] w w' → (w'.rangeAt g0 (o0 + i * 20) (itC x).toList ∧ w'.rangeAt h0 (p0 + i * 20) (itC y).toList)) := ⟨fun W h => ⟨HRX.out (below_frm (OwnS.frm h)), HRY.out (below_frm (OwnS.frm h))⟩⟩
          refine wp_region_held_drew (S := fun w' => w'.rangeAt g0 (o0 + i * 20) (itC x).toList ∧ w'.rangeAt h0 (p0 + i * 20) (itC y).toList) (by kernel_rfl) ?_ (fun hHeld => ?_)
          focus (try dsimp only); (refine HKV.out _ ?_; (focus first | with_reducible exact HH.out | ((with_reducible repeat first | refine OwnS.alloc ?_ _ | refine OwnS.drewN ?_ _ | refine OwnS.drew ?_); with_reducible exact HH.out)))
          (try dsimp only at hHeld)
          refine tk (i := 0) (v := .slice (some ⟨g0, o0, none⟩) l.length c) (hy := Or.inl ⟨by rfl, ?_⟩) (h := ?_); (focus (intro w hSw; (try dsimp only at hSw); go_simp; try with_reducible rfl)); (try simp only [Act.put, List.setIfInBounds_toArray, List.set_cons_zero, List.set_cons_succ])
          refine tk (i := 1) (v := .int .i64 (i : Int)) (hy := Or.inl ⟨by rfl, ?_⟩) (h := ?_); (focus (intro w hSw; (try dsimp only at hSw); go_simp; try with_reducible rfl)); (try simp only [Act.put, List.setIfInBounds_toArray, List.set_cons_zero, List.set_cons_succ])
          refine tk (i := 2) (v := ?_) (hy := Or.inl ⟨by rfl, ?_⟩) (h := ?_); rotate_left; (focus (intro w hSw; (try dsimp only at hSw); go_simp; try with_reducible rfl)); (try simp only [Act.put, List.setIfInBounds_toArray, List.set_cons_zero, List.set_cons_succ])
          refine tk (i := 3) (hy := yieldsIf_load_mid (by rfl) _ _ rfl _ _ rfl ((itC x).toList) _ ?_ Try.underlying31 rfl (by rw [Array.length_toList, (itC_size _ HOX.out.1.1)]; kernel_rfl)) (h := ?_); (focus (intro w hSw; (try dsimp only at hSw); go_split_ands; assumption)); (try simp only [Act.put, List.setIfInBounds_toArray, List.set_cons_zero, List.set_cons_succ])
          refine tk (i := 4) (v := .slice (some ⟨h0, p0, none⟩) m.length d) (hy := Or.inl ⟨by rfl, ?_⟩) (h := ?_); (focus (intro w hSw; (try dsimp only at hSw); go_simp; try with_reducible rfl)); (try simp only [Act.put, List.setIfInBounds_toArray, List.set_cons_zero, List.set_cons_succ])
          refine tk (i := 5) (v := .int .i64 (i : Int)) (hy := Or.inl ⟨by rfl, ?_⟩) (h := ?_); (focus (intro w hSw; (try dsimp only at hSw); go_simp; try with_reducible rfl)); (try simp only [Act.put, List.setIfInBounds_toArray, List.set_cons_zero, List.set_cons_succ])
          refine tk (i := 6) (v := ?_) (hy := Or.inl ⟨by rfl, ?_⟩) (h := ?_); rotate_left; (focus (intro w hSw; (try dsimp only at hSw); go_simp; try with_reducible rfl)); (try simp only [Act.put, List.setIfInBounds_toArray, List.set_cons_zero, List.set_cons_succ])
          refine tk (i := 7) (hy := yieldsIf_load_mid (by rfl) _ _ rfl _ _ rfl ((itC y).toList) _ ?_ Try.underlying31 rfl (by rw [Array.length_toList, (itC_size _ HOY.out.1.1)]; kernel_rfl)) (h := ?_); (focus (intro w hSw; (try dsimp only at hSw); go_split_ands; assumption)); (try simp only [Act.put, List.setIfInBounds_toArray, List.set_cons_zero, List.set_cons_succ])
          refine tk (i := 8) (v := .bool false) (hy := (Or.inl ⟨by rfl, fun w hSw => by
        clear hSw hHeld
        have hq : ∀ W : World, (Op.equalIn 10000 31 (.agg (itC x)) (.agg (itC y))).run Try.prog W = .ok true W := fun W => by rw [eqItR x y HOX.out HOY.out HKX.out HKY.out, HEQ.out]
        go_simp⟩)) (h := ?_); (try simp only [Act.put, List.setIfInBounds_toArray, List.set_cons_zero, List.set_cons_succ])
          refine wpAnyH_done (by kernel_rfl) ?_ _
          go_wp2_with fail
          go_roundw
          case rel => exact ⟨i + 1, by go_num, by omega, HS, ⟨OwnS.drew HH.out⟩⟩
          case measure => simp [intOf]; omega
        · have HEQ : Aside0 (eqI x y = false) := ⟨by cases e : eqI x y with
            | false => rfl
            | true => exact absurd ((eqI_iff x y).1 e) hxy⟩
          have HF : Aside0 (decide (l = m) = false) := ⟨decide_eq_false (fun e => hxy (by subst e; exact hx.symm.trans hy))⟩
          clear hox hoy hx hy hxy HA hkl hkm
          clear hr hs
          go_wp2_with fail
          have HKV : Aside0 (∀ w' : World, OwnS (fun _ => False) [] w w' → (w'.rangeAt g0 (o0 + i * 20) (itC x).toList ∧ w'.rangeAt h0 (p0 + i * 20) (itC y).toList)) := ⟨fun W h => ⟨HRX.out (below_frm (OwnS.frm h)), HRY.out (below_frm (OwnS.frm h))⟩⟩
          refine wp_region_held_drew (S := fun w' => w'.rangeAt g0 (o0 + i * 20) (itC x).toList ∧ w'.rangeAt h0 (p0 + i * 20) (itC y).toList) (by kernel_rfl) ?_ (fun hHeld => ?_)
          focus (try dsimp only); (refine HKV.out _ ?_; (focus first | with_reducible exact HH.out | ((with_reducible repeat first | refine OwnS.alloc ?_ _ | refine OwnS.drewN ?_ _ | refine OwnS.drew ?_); with_reducible exact HH.out)))
          (try dsimp only at hHeld)
          refine tk (i := 0) (v := .slice (some ⟨g0, o0, none⟩) l.length c) (hy := Or.inl ⟨by rfl, ?_⟩) (h := ?_); (focus (intro w hSw; (try dsimp only at hSw); go_simp; try with_reducible rfl)); (try simp only [Act.put, List.setIfInBounds_toArray, List.set_cons_zero, List.set_cons_succ])
          refine tk (i := 1) (v := .int .i64 (i : Int)) (hy := Or.inl ⟨by rfl, ?_⟩) (h := ?_); (focus (intro w hSw; (try dsimp only at hSw); go_simp; try with_reducible rfl)); (try simp only [Act.put, List.setIfInBounds_toArray, List.set_cons_zero, List.set_cons_succ])
          refine tk (i := 2) (v := ?_) (hy := Or.inl ⟨by rfl, ?_⟩) (h := ?_); rotate_left; (focus (intro w hSw; (try dsimp only at hSw); go_simp; try with_reducible rfl)); (try simp only [Act.put, List.setIfInBounds_toArray, List.set_cons_zero, List.set_cons_succ])
          refine tk (i := 3) (hy := yieldsIf_load_mid (by rfl) _ _ rfl _ _ rfl ((itC x).toList) _ ?_ Try.underlying31 rfl (by rw [Array.length_toList, (itC_size _ HOX.out.1.1)]; kernel_rfl)) (h := ?_); (focus (intro w hSw; (try dsimp only at hSw); go_split_ands; assumption)); (try simp only [Act.put, List.setIfInBounds_toArray, List.set_cons_zero, List.set_cons_succ])
          refine tk (i := 4) (v := .slice (some ⟨h0, p0, none⟩) m.length d) (hy := Or.inl ⟨by rfl, ?_⟩) (h := ?_); (focus (intro w hSw; (try dsimp only at hSw); go_simp; try with_reducible rfl)); (try simp only [Act.put, List.setIfInBounds_toArray, List.set_cons_zero, List.set_cons_succ])
          refine tk (i := 5) (v := .int .i64 (i : Int)) (hy := Or.inl ⟨by rfl, ?_⟩) (h := ?_); (focus (intro w hSw; (try dsimp only at hSw); go_simp; try with_reducible rfl)); (try simp only [Act.put, List.setIfInBounds_toArray, List.set_cons_zero, List.set_cons_succ])
          refine tk (i := 6) (v := ?_) (hy := Or.inl ⟨by rfl, ?_⟩) (h := ?_); rotate_left; (focus (intro w hSw; (try dsimp only at hSw); go_simp; try with_reducible rfl)); (try simp only [Act.put, List.setIfInBounds_toArray, List.set_cons_zero, List.set_cons_succ])
          refine tk (i := 7) (hy := yieldsIf_load_mid (by rfl) _ _ rfl _ _ rfl ((itC y).toList) _ ?_ Try.underlying31 rfl (by rw [Array.length_toList, (itC_size _ HOY.out.1.1)]; kernel_rfl)) (h := ?_); (focus (intro w hSw; (try dsimp only at hSw); go_split_ands; assumption)); (try simp only [Act.put, List.setIfInBounds_toArray, List.set_cons_zero, List.set_cons_succ])
          refine tk (i := 8) (v := .bool true) (hy := (Or.inl ⟨by rfl, fun w hSw => by
        clear hSw hHeld
        have hq : ∀ W : World, (Op.equalIn 10000 31 (.agg (itC x)) (.agg (itC y))).run Try.prog W = .ok false W := fun W => by rw [eqItR x y HOX.out HOY.out HKX.out HKY.out, HEQ.out]
        go_simp⟩)) (h := ?_); (try simp only [Act.put, List.setIfInBounds_toArray, List.set_cons_zero, List.set_cons_succ])
          refine wpAnyH_done (by kernel_rfl) ?_ _
          go_wp2_with fail
          go_ret
          exact ⟨by rw [HF.out]; rfl, below_frm (OwnS.frm (OwnS.drew HH.out))⟩
      · have hi2 : i = l.length := by omega
        subst hi2
        have HF : Aside0 (decide (l = m) = true) := ⟨decide_eq_true (by have := HA.out; rw [List.take_length, hlm, List.take_length] at this; exact this)⟩
        clear hr hs hkl hkm
        go_wp2_with fail
        go_ret
        exact ⟨by rw [HF.out]; rfl, below_frm (OwnS.frm HH.out)⟩
  · have HF : Aside0 (decide (l = m) = false) := ⟨decide_eq_false (fun e => hlm (by rw [e]))⟩
    have hne : ¬ ((l.length : Int) = (m.length : Int)) := by omega
    clear hr hs hkl hkm
    go_enter Try.func21, Try.ntmps21
    go_wp2_with fail
    go_ret
    exact ⟨by rw [HF.out]; rfl, below_frm (OwnS.frm HH.out)⟩

set_option maxHeartbeats 4000000 in
set_option maxRecDepth 100000 in
theorem same_calls (w : World) (ta tb : List Int) (A B : Option Addr) (c d : Nat) (l m : List It) (hta : okV ta) (htb : okV tb) (hr : kIt.C w A l.length l) (hs : kIt.C w B m.length m) (hkl : ∀ x ∈ l, okK x) (hkm : ∀ x ∈ m, okK x) (hl : l.length ≤ 1000000) (hm : m.length ≤ 1000000) : Calls Try.prog 19 #[.agg (hoC ta (.slice A l.length c)), .agg (hoC tb (.slice B m.length d))] w (Kept (.bool (decide (ta = tb) && decide (l = m))) w) := by
  have HTA := Aside0.mk hta
  have HTB := Aside0.mk htb
  have HR := Aside0.mk hr
  have HS := Aside0.mk hs
  have HKL := Aside0.mk hkl
  have HKM := Aside0.mk hkm
  have HL := Aside0.mk hl
  have HM := Aside0.mk hm
  have HH : Aside0 (OwnS (fun _ => False) [] w w) := ⟨OwnS.of_own (Own.start w)⟩
  obtain ⟨e1, he1⟩ : ∃ b, decide (ta = tb) = b := ⟨_, rfl⟩
  obtain ⟨e2, he2⟩ : ∃ b, decide (l = m) = b := ⟨_, rfl⟩
  have HIT := Aside0.mk he2
  have hq : ∀ W : World, (Op.equalIn 10000 24 (.agg (vecC ta)) (.agg (vecC tb))).run Try.prog W = .ok e1 W := fun W => by rw [eqV ta tb hta htb, he1]
  rw [he1, he2]
  clear hta htb hr hs hkl hkm hl hm he1 he2
  go_enter Try.func19, Try.ntmps19
  cases e1 with
  | false =>
    go_wp2_with (first
      | ((with_reducible refine gate_dst (N := 2) rfl ?_); refine evS_box (S := fun _ => False) (w0 := w) (As := []) ?_ rfl (cs := hoC ta (.slice A l.length c)) (T := 27) ?_ ?_; (focus first | with_reducible exact HH.out | ((with_reducible repeat first | refine OwnS.alloc ?_ _ | refine OwnS.drewN ?_ _ | refine OwnS.drew ?_); with_reducible exact HH.out)); (focus first | (go_simp; done) | (go_simp; rfl)); intro g1 w1 he hh; clear he; have HHx : Aside0 (OwnS (fun _ => False) [Sep.blk g1 (hoC ta (.slice A l.length c)) 27] w w1) := ⟨hh⟩; clear HH; have HH := HHx; clear HHx; clear hh)
      | ((with_reducible refine gate_dst (N := 3) rfl ?_); refine evS_box (S := fun _ => False) (w0 := w) (As := [Sep.blk g1 (hoC ta (.slice A l.length c)) 27]) ?_ rfl (cs := hoC tb (.slice B m.length d)) (T := 27) ?_ ?_; (focus first | with_reducible exact HH.out | ((with_reducible repeat first | refine OwnS.alloc ?_ _ | refine OwnS.drewN ?_ _ | refine OwnS.drew ?_); with_reducible exact HH.out)); (focus first | (go_simp; done) | (go_simp; rfl)); intro g2 w2 he hh; clear he; have HHx : Aside0 (OwnS (fun _ => False) [Sep.blk g1 (hoC ta (.slice A l.length c)) 27, Sep.blk g2 (hoC tb (.slice B m.length d)) 27] w w2) := ⟨hh⟩; clear HH; have HH := HHx; clear HHx; clear hh)
      | ((with_reducible refine gate_ (.load 24 (.tmp 5)) rfl ?_); refine ev_loadA (OwnS.blk (S := fun _ => False) (w0 := w) (As := [Sep.blk g1 (hoC ta (.slice A l.length c)) 27, Sep.blk g2 (hoC tb (.slice B m.length d)) 27]) ?_ 0 rfl) 0 16 (vecC ta) (hoC_vec _ _ HTA.out.1) rfl rfl (by rfl) Try.underlying24 rfl (vecC_size _ HTA.out.1) (by kernel_rfl) ?_; (focus first | with_reducible exact HH.out | ((with_reducible repeat first | refine OwnS.alloc ?_ _ | refine OwnS.drewN ?_ _ | refine OwnS.drew ?_); with_reducible exact HH.out)))
      | ((with_reducible refine gate_ (.load 24 (.tmp 7)) rfl ?_); refine ev_loadA (OwnS.blk (S := fun _ => False) (w0 := w) (As := [Sep.blk g1 (hoC ta (.slice A l.length c)) 27, Sep.blk g2 (hoC tb (.slice B m.length d)) 27]) ?_ 1 rfl) 0 16 (vecC tb) (hoC_vec _ _ HTB.out.1) rfl rfl (by rfl) Try.underlying24 rfl (vecC_size _ HTB.out.1) (by kernel_rfl) ?_; (focus first | with_reducible exact HH.out | ((with_reducible repeat first | refine OwnS.alloc ?_ _ | refine OwnS.drewN ?_ _ | refine OwnS.drew ?_); with_reducible exact HH.out)); have fc1 : w2.cell? ⟨g1, 16, none⟩ = some (.slice A l.length c) := ((blk_cell (OwnS.blk (S := fun _ => False) (w0 := w) (As := [Sep.blk g1 (hoC ta (.slice A l.length c)) 27, Sep.blk g2 (hoC tb (.slice B m.length d)) 27]) HH.out 0 rfl) 16).trans (hoC_last _ _ HTA.out.1)); have fc2 : w2.cell? ⟨g2, 16, none⟩ = some (.slice B m.length d) := ((blk_cell (OwnS.blk (S := fun _ => False) (w0 := w) (As := [Sep.blk g1 (hoC ta (.slice A l.length c)) 27, Sep.blk g2 (hoC tb (.slice B m.length d)) 27]) HH.out 1 rfl) 16).trans (hoC_last _ _ HTB.out.1)))
      | (go_at_call 21; refine ownS_call (S := fun _ => False) (w0 := w) (As := [Sep.blk g1 (hoC ta (.slice A l.length c)) 27, Sep.blk g2 (hoC tb (.slice B m.length d)) 27]) ?_ ?_; (focus first | with_reducible exact HH.out | ((with_reducible repeat first | refine OwnS.alloc ?_ _ | refine OwnS.drewN ?_ _ | refine OwnS.drew ?_); with_reducible exact HH.out)); intro ht; refine (items_calls _ A B c d l m ?_ ?_ HKL.out HKM.out HL.out HM.out).mono ?_; (focus exact Kd.C_below HR.out (below_frm (OwnS.frm ht))); (focus exact Kd.C_below HS.out (below_frm (OwnS.frm ht))); rintro e w3 ⟨rfl, hb⟩; rw [HIT.out]; have HHx : Aside0 (OwnS (fun _ => False) [Sep.blk g1 (hoC ta (.slice A l.length c)) 27, Sep.blk g2 (hoC tb (.slice B m.length d)) 27] w w3) := ⟨OwnS.step ht hb⟩; clear HH; have HH := HHx; clear HHx; clear hb; clear ht)
      | fail
      | fail)
    go_ret
    exact ⟨rfl, below_frm (OwnS.frm HH.out)⟩
  | true =>
    go_wp2_with (first
      | ((with_reducible refine gate_dst (N := 2) rfl ?_); refine evS_box (S := fun _ => False) (w0 := w) (As := []) ?_ rfl (cs := hoC ta (.slice A l.length c)) (T := 27) ?_ ?_; (focus first | with_reducible exact HH.out | ((with_reducible repeat first | refine OwnS.alloc ?_ _ | refine OwnS.drewN ?_ _ | refine OwnS.drew ?_); with_reducible exact HH.out)); (focus first | (go_simp; done) | (go_simp; rfl)); intro g1 w1 he hh; clear he; have HHx : Aside0 (OwnS (fun _ => False) [Sep.blk g1 (hoC ta (.slice A l.length c)) 27] w w1) := ⟨hh⟩; clear HH; have HH := HHx; clear HHx; clear hh)
      | ((with_reducible refine gate_dst (N := 3) rfl ?_); refine evS_box (S := fun _ => False) (w0 := w) (As := [Sep.blk g1 (hoC ta (.slice A l.length c)) 27]) ?_ rfl (cs := hoC tb (.slice B m.length d)) (T := 27) ?_ ?_; (focus first | with_reducible exact HH.out | ((with_reducible repeat first | refine OwnS.alloc ?_ _ | refine OwnS.drewN ?_ _ | refine OwnS.drew ?_); with_reducible exact HH.out)); (focus first | (go_simp; done) | (go_simp; rfl)); intro g2 w2 he hh; clear he; have HHx : Aside0 (OwnS (fun _ => False) [Sep.blk g1 (hoC ta (.slice A l.length c)) 27, Sep.blk g2 (hoC tb (.slice B m.length d)) 27] w w2) := ⟨hh⟩; clear HH; have HH := HHx; clear HHx; clear hh)
      | ((with_reducible refine gate_ (.load 24 (.tmp 5)) rfl ?_); refine ev_loadA (OwnS.blk (S := fun _ => False) (w0 := w) (As := [Sep.blk g1 (hoC ta (.slice A l.length c)) 27, Sep.blk g2 (hoC tb (.slice B m.length d)) 27]) ?_ 0 rfl) 0 16 (vecC ta) (hoC_vec _ _ HTA.out.1) rfl rfl (by rfl) Try.underlying24 rfl (vecC_size _ HTA.out.1) (by kernel_rfl) ?_; (focus first | with_reducible exact HH.out | ((with_reducible repeat first | refine OwnS.alloc ?_ _ | refine OwnS.drewN ?_ _ | refine OwnS.drew ?_); with_reducible exact HH.out)))
      | ((with_reducible refine gate_ (.load 24 (.tmp 7)) rfl ?_); refine ev_loadA (OwnS.blk (S := fun _ => False) (w0 := w) (As := [Sep.blk g1 (hoC ta (.slice A l.length c)) 27, Sep.blk g2 (hoC tb (.slice B m.length d)) 27]) ?_ 1 rfl) 0 16 (vecC tb) (hoC_vec _ _ HTB.out.1) rfl rfl (by rfl) Try.underlying24 rfl (vecC_size _ HTB.out.1) (by kernel_rfl) ?_; (focus first | with_reducible exact HH.out | ((with_reducible repeat first | refine OwnS.alloc ?_ _ | refine OwnS.drewN ?_ _ | refine OwnS.drew ?_); with_reducible exact HH.out)); have fc1 : w2.cell? ⟨g1, 16, none⟩ = some (.slice A l.length c) := ((blk_cell (OwnS.blk (S := fun _ => False) (w0 := w) (As := [Sep.blk g1 (hoC ta (.slice A l.length c)) 27, Sep.blk g2 (hoC tb (.slice B m.length d)) 27]) HH.out 0 rfl) 16).trans (hoC_last _ _ HTA.out.1)); have fc2 : w2.cell? ⟨g2, 16, none⟩ = some (.slice B m.length d) := ((blk_cell (OwnS.blk (S := fun _ => False) (w0 := w) (As := [Sep.blk g1 (hoC ta (.slice A l.length c)) 27, Sep.blk g2 (hoC tb (.slice B m.length d)) 27]) HH.out 1 rfl) 16).trans (hoC_last _ _ HTB.out.1)))
      | (go_at_call 21; refine ownS_call (S := fun _ => False) (w0 := w) (As := [Sep.blk g1 (hoC ta (.slice A l.length c)) 27, Sep.blk g2 (hoC tb (.slice B m.length d)) 27]) ?_ ?_; (focus first | with_reducible exact HH.out | ((with_reducible repeat first | refine OwnS.alloc ?_ _ | refine OwnS.drewN ?_ _ | refine OwnS.drew ?_); with_reducible exact HH.out)); intro ht; refine (items_calls _ A B c d l m ?_ ?_ HKL.out HKM.out HL.out HM.out).mono ?_; (focus exact Kd.C_below HR.out (below_frm (OwnS.frm ht))); (focus exact Kd.C_below HS.out (below_frm (OwnS.frm ht))); rintro e w3 ⟨rfl, hb⟩; rw [HIT.out]; have HHx : Aside0 (OwnS (fun _ => False) [Sep.blk g1 (hoC ta (.slice A l.length c)) 27, Sep.blk g2 (hoC tb (.slice B m.length d)) 27] w w3) := ⟨OwnS.step ht hb⟩; clear HH; have HH := HHx; clear HHx; clear hb; clear ht)
      | fail
      | fail)
    go_ret
    exact ⟨by first | rfl | simp, below_frm (OwnS.frm HH.out)⟩
end Go.Proofs.Ytkifekjcpnoclaa.Hld
