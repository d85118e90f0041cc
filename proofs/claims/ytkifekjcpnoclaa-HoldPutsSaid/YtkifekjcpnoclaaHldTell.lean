/- The reference's tell. -/
import Derived.Test.YtkifekjcpnoclaaHldRefP
namespace Go.Proofs.Ytkifekjcpnoclaa.Hld
open Go Go.RowKit Go.Proofs.YtkifekjcpnoclaaW.PrintWords Go.Proofs.Ytkifekjcpnoclaa.Sep Go.Proofs.Ytkifekjcpnoclaa.Obj
set_option linter.unusedVariables false
set_option linter.unusedSimpArgs false

set_option maxHeartbeats 4000000 in
set_option maxRecDepth 100000 in
theorem tell_calls (w : World) (told : List Int) (A : Option Addr) (c : Nat) (l : List It) (x : It) (ht0 : okV told) (hx0 : okI x) (hr : kIt.C w A l.length l) (hready : readyB told x = true) (hkx : okK x) (hkl : ∀ y ∈ l, okK y) (hl : l.length ≤ 1000000) : Calls Try.prog 35 #[.agg (hoC told (.slice A l.length c)), .agg (itC x)] w (fun e w' => ∃ B d, e = .returned (.agg (hoC (inc told x) (.slice B (l.filter (notI x)).length d))) ∧ Own [Sep.row kIt 31 (.slice B (l.filter (notI x)).length d) (l.filter (notI x))] w w') := by
  have HT := Aside0.mk ht0
  have HX := Aside0.mk hx0
  have HR := Aside0.mk hr
  have HKX := Aside0.mk hkx
  have HKL := Aside0.mk hkl
  have HL := Aside0.mk hl
  have HH : Aside0 (OwnS (fun _ => False) [] w w) := ⟨OwnS.of_own (Own.start w)⟩
  obtain ⟨hri, hof, _⟩ := ready_right hready
  obtain ⟨_, hle, _⟩ := ready_told hx0 hready
  obtain ⟨hf1, hf2, hf3⟩ := right_frm hx0 hri
  have HT2 : Aside0 (okV (inc told x)) := ⟨inc_ok ht0 hx0 hready⟩
  obtain ⟨f, hfx⟩ : ∃ f, x.frm = f := ⟨_, rfl⟩
  obtain ⟨n, hn⟩ : ∃ n, x.seq = n := ⟨_, rfl⟩
  have HFX := Aside0.mk hfx
  unfold ofT at hof
  rw [hfx] at hf1 hf2 hf3 hof
  rw [hn] at hof hle
  have HN := Aside0.mk hof
  have HF := Aside0.mk hf1
  have HFS : Aside0 (f.toNat + 1 ≤ 16) := ⟨by omega⟩
  have HPS : Aside0 ((putL (vecC told).toList f.toNat (#[Value.int .u16 (n + 1)]).toList).toArray = vecC (inc told x)) := ⟨by unfold inc ofT; rw [hfx, hof]; exact vecC_put _ _ _ HT.out.1 hf1⟩
  have hnn := okV_at HT.out f.toNat hf1
  rw [hof] at hnn
  obtain ⟨hn0, hn1⟩ := hnn
  have hw2 : IntKind.u16.wrap (n + 1) = n + 1 := by rw [IntKind.wrap_u16]; omega
  clear ht0 hx0 hr hkx hkl hri hof hfx hn hready hle
  go_enter Try.func35, Try.ntmps35
  go_wp2_with (first
    | ((with_reducible refine gate_dst (N := 2) rfl ?_); refine evS_box (S := fun _ => False) (w0 := w) (As := []) ?_ rfl (cs := hoC told (.slice A l.length c)) (T := 27) ?_ ?_; (focus first | with_reducible exact HH.out | ((with_reducible repeat first | refine OwnS.alloc ?_ _ | refine OwnS.drewN ?_ _ | refine OwnS.drew ?_); with_reducible exact HH.out)); (focus first | (go_simp; done) | (go_simp; rfl)); intro g1 w1 he hh; clear he; have HHx : Aside0 (OwnS (fun _ => False) [Sep.blk g1 (hoC told (.slice A l.length c)) 27] w w1) := ⟨hh⟩; clear HH; have HH := HHx; clear HHx; clear hh)
    | ((with_reducible refine gate_dst (N := 3) rfl ?_); refine evS_box (S := fun _ => False) (w0 := w) (As := [Sep.blk g1 (hoC told (.slice A l.length c)) 27]) ?_ rfl (cs := itC x) (T := 31) ?_ ?_; (focus first | with_reducible exact HH.out | ((with_reducible repeat first | refine OwnS.alloc ?_ _ | refine OwnS.drewN ?_ _ | refine OwnS.drew ?_); with_reducible exact HH.out)); (focus first | (go_simp; done) | (go_simp; rfl)); intro g2 w2 he hh; clear he; have HHx : Aside0 (OwnS (fun _ => False) [Sep.blk g1 (hoC told (.slice A l.length c)) 27, Sep.blk g2 (itC x) 31] w w2) := ⟨hh⟩; clear HH; have HH := HHx; clear HHx; clear hh)
    | ((with_reducible refine gate_dst (N := 4) rfl ?_); refine evS_box (S := fun _ => False) (w0 := w) (As := [Sep.blk g1 (hoC told (.slice A l.length c)) 27, Sep.blk g2 (itC x) 31]) ?_ rfl (cs := hoC (List.replicate 16 (0 : Int)) (.slice none 0 0)) (T := 27) ?_ ?_; (focus first | with_reducible exact HH.out | ((with_reducible repeat first | refine OwnS.alloc ?_ _ | refine OwnS.drewN ?_ _ | refine OwnS.drew ?_); with_reducible exact HH.out)); (focus first | (go_simp; done) | (go_simp; rfl)); intro g3 w3 he hh; clear he; have HHx : Aside0 (OwnS (fun _ => False) [Sep.blk g1 (hoC told (.slice A l.length c)) 27, Sep.blk g2 (itC x) 31, Sep.blk g3 (hoC (List.replicate 16 (0 : Int)) (.slice none 0 0)) 27] w w3) := ⟨hh⟩; clear HH; have HH := HHx; clear HHx; clear hh)
    | ((with_reducible refine gate_ (.load 24 (.tmp 8)) rfl ?_); refine ev_loadA (OwnS.blk (S := fun _ => False) (w0 := w) (As := [Sep.blk g1 (hoC told (.slice A l.length c)) 27, Sep.blk g2 (itC x) 31, Sep.blk g3 (hoC (List.replicate 16 (0 : Int)) (.slice none 0 0)) 27]) ?_ 0 rfl) 0 16 (vecC told) (hoC_vec _ _ HT.out.1) rfl rfl (by rfl) Try.underlying24 rfl (vecC_size _ HT.out.1) (by kernel_rfl) ?_; (focus first | with_reducible exact HH.out | ((with_reducible repeat first | refine OwnS.alloc ?_ _ | refine OwnS.drewN ?_ _ | refine OwnS.drew ?_); with_reducible exact HH.out)))
    | ((with_reducible refine gate_dst (N := 5) rfl ?_); refine evS_box (S := fun _ => False) (w0 := w) (As := [Sep.blk g1 (hoC told (.slice A l.length c)) 27, Sep.blk g2 (itC x) 31, Sep.blk g3 (hoC (List.replicate 16 (0 : Int)) (.slice none 0 0)) 27]) ?_ rfl (cs := vecC (List.replicate 16 (0 : Int))) (T := 24) ?_ ?_; (focus first | with_reducible exact HH.out | ((with_reducible repeat first | refine OwnS.alloc ?_ _ | refine OwnS.drewN ?_ _ | refine OwnS.drew ?_); with_reducible exact HH.out)); (focus first | (go_simp; done) | (go_simp; rfl)); intro g4 w4 he hh; clear he; have HHx : Aside0 (OwnS (fun _ => False) [Sep.blk g1 (hoC told (.slice A l.length c)) 27, Sep.blk g2 (itC x) 31, Sep.blk g3 (hoC (List.replicate 16 (0 : Int)) (.slice none 0 0)) 27, Sep.blk g4 (vecC (List.replicate 16 (0 : Int))) 24] w w4) := ⟨hh⟩; clear HH; have HH := HHx; clear HHx; clear hh)
    | ((with_reducible refine gate_ (.store 24 (.tmp 5) (.tmp 9)) rfl ?_); refine evS_storeA (S := fun _ => False) (w0 := w) (As := [Sep.blk g1 (hoC told (.slice A l.length c)) 27, Sep.blk g2 (itC x) 31, Sep.blk g3 (hoC (List.replicate 16 (0 : Int)) (.slice none 0 0)) 27, Sep.blk g4 (vecC (List.replicate 16 (0 : Int))) 24]) ?_ 3 rfl rfl rfl rfl (by rfl) (.agg (vecC told)) (by rfl) (vecC told) (by rfl) 16 16 (vecC_size _ HT.out.1) (vecC_size _ (by rfl)) (by kernel_rfl) (by decide) (vecC_one _) (vecC told) (put_all _ _ (by rw [(vecC_size _ HT.out.1), (vecC_size _ (by rfl))])) ?_; (focus first | with_reducible exact HH.out | ((with_reducible repeat first | refine OwnS.alloc ?_ _ | refine OwnS.drewN ?_ _ | refine OwnS.drew ?_); with_reducible exact HH.out)); intro w5 hh; have HHx : Aside0 (OwnS (fun _ => False) [Sep.blk g1 (hoC told (.slice A l.length c)) 27, Sep.blk g2 (itC x) 31, Sep.blk g3 (hoC (List.replicate 16 (0 : Int)) (.slice none 0 0)) 27, Sep.blk g4 (vecC told) 24] w w5) := ⟨hh⟩; clear HH; have HH := HHx; clear HHx; clear hh)
    | fail
    | fail)
  have HCT : Aside0 (∀ W, OwnS (fun _ => False) [Sep.blk g1 (hoC told (.slice A l.length c)) 27, Sep.blk g2 (itC x) 31, Sep.blk g3 (hoC (List.replicate 16 (0 : Int)) (.slice none 0 0)) 27, Sep.blk g4 (vecC told) 24] w W → W.cell? ⟨g4, f.toNat, none⟩ = some (.int .u16 n)) := ⟨fun W h => by rw [← HN.out]; exact (blk_cell (OwnS.blk (S := fun _ => False) (w0 := w) (As := [Sep.blk g1 (hoC told (.slice A l.length c)) 27, Sep.blk g2 (itC x) 31, Sep.blk g3 (hoC (List.replicate 16 (0 : Int)) (.slice none 0 0)) 27, Sep.blk g4 (vecC told) 24]) h 3 rfl) f.toNat).trans (vecC_at _ f.toNat (by rw [HT.out.1]; exact HF.out))⟩
  have HKV : Aside0 (∀ w' : World, OwnS (fun _ => False) [Sep.blk g1 (hoC told (.slice A l.length c)) 27, Sep.blk g2 (itC x) 31, Sep.blk g3 (hoC (List.replicate 16 (0 : Int)) (.slice none 0 0)) 27, Sep.blk g4 (vecC told) 24] w w' → (w'.cell? ⟨g2, 0, none⟩ = some (.int .u8 f))) := ⟨fun W h => (by rw [← HFX.out]; exact blk_cell (OwnS.blk (S := fun _ => False) (w0 := w) (As := [Sep.blk g1 (hoC told (.slice A l.length c)) 27, Sep.blk g2 (itC x) 31, Sep.blk g3 (hoC (List.replicate 16 (0 : Int)) (.slice none 0 0)) 27, Sep.blk g4 (vecC told) 24]) h 1 rfl) 0)⟩
  refine wp_region_held_drew (S := fun w' => w'.cell? ⟨g2, 0, none⟩ = some (.int .u8 f)) (by kernel_rfl) ?_ (fun hHeld => ?_)
  focus (try dsimp only); (refine HKV.out _ ?_; (focus first | with_reducible exact HH.out | ((with_reducible repeat first | refine OwnS.alloc ?_ _ | refine OwnS.drewN ?_ _ | refine OwnS.drew ?_); with_reducible exact HH.out)))
  (try dsimp only at hHeld)
  refine tk (i := 0) (v := ?_) (hy := Or.inl ⟨by rfl, ?_⟩) (h := ?_); rotate_left; (focus (intro w hSw; (try dsimp only at hSw); go_simp; try with_reducible rfl)); (try simp only [Act.put, List.setIfInBounds_toArray, List.set_cons_zero, List.set_cons_succ])
  refine tk (i := 1) (v := .int .u8 f) (hy := Or.inl ⟨by rfl, ?_⟩) (h := ?_); (focus (intro w hSw; (try dsimp only at hSw); go_simp; try with_reducible rfl)); (try simp only [Act.put, List.setIfInBounds_toArray, List.set_cons_zero, List.set_cons_succ])
  refine tk (i := 2) (v := ?_) (hy := Or.inl ⟨by rfl, ?_⟩) (h := ?_); rotate_left; (focus (intro w hSw; (try dsimp only at hSw); go_simp; try with_reducible rfl)); (try simp only [Act.put, List.setIfInBounds_toArray, List.set_cons_zero, List.set_cons_succ])
  refine tk (i := 3) (v := .int .u8 f) (hy := Or.inl ⟨by rfl, ?_⟩) (h := ?_); (focus (intro w hSw; (try dsimp only at hSw); go_simp; try with_reducible rfl)); (try simp only [Act.put, List.setIfInBounds_toArray, List.set_cons_zero, List.set_cons_succ])
  refine tk (i := 4) (v := ?_) (hy := Or.inl ⟨by rfl, ?_⟩) (h := ?_); rotate_left; (focus (intro w hSw; (try dsimp only at hSw); go_simp; try with_reducible rfl)); (try simp only [Act.put, List.setIfInBounds_toArray, List.set_cons_zero, List.set_cons_succ])
  refine wpAnyH_ready (rs := [5]) (by kernel_rfl) (by simp) ?_
  refine AllReadyH.cons (by simp only [List.getElem?_toArray, List.getElem?_cons_succ, List.getElem?_cons_zero]; rfl) (fun K hK => ?_) AllReadyH.nil; refine ev_cell_step (v := .int .u16 n) (HCT.out _ ?_) (by rfl) rfl (by rfl) Try.underlying22 rfl ?_; (focus first | with_reducible exact HH.out | ((with_reducible repeat first | refine OwnS.alloc ?_ _ | refine OwnS.drewN ?_ _ | refine OwnS.drew ?_); with_reducible exact HH.out)); refine hK.out _ _ ?_ (fun hHeld2 => ?_); (focus (try dsimp only); (refine HKV.out _ ?_; (focus first | with_reducible exact HH.out | ((with_reducible repeat first | refine OwnS.alloc ?_ _ | refine OwnS.drewN ?_ _ | refine OwnS.drew ?_); with_reducible exact HH.out)))); clear hK K hHeld; rename _ => hHeld; (try dsimp only at hHeld); (try simp only [Act.put, List.setIfInBounds_toArray, List.set_cons_zero, List.set_cons_succ])
  refine tk (i := 6) (v := .int .u16 (n + 1)) (hy := Or.inl ⟨by rfl, ?_⟩) (h := ?_); (focus (intro w hSw; (try dsimp only at hSw); go_simp; try with_reducible rfl)); (try simp only [Act.put, List.setIfInBounds_toArray, List.set_cons_zero, List.set_cons_succ])
  refine tk (i := 7) (v := ?_) (hy := Or.inl ⟨by rfl, ?_⟩) (h := ?_); rotate_left; (focus (intro w hSw; (try dsimp only at hSw); go_simp; try with_reducible rfl)); (try simp only [Act.put, List.setIfInBounds_toArray, List.set_cons_zero, List.set_cons_succ])
  refine wpAnyH_ready (rs := [8]) (by kernel_rfl) (by simp) ?_
  refine AllReadyH.cons (by simp only [List.getElem?_toArray, List.getElem?_cons_succ, List.getElem?_cons_zero]; rfl) (fun K hK => ?_) AllReadyH.nil; refine evS_storeA_step (S := fun _ => False) (w0 := w) (As := [Sep.blk g1 (hoC told (.slice A l.length c)) 27, Sep.blk g2 (itC x) 31, Sep.blk g3 (hoC (List.replicate 16 (0 : Int)) (.slice none 0 0)) 27, Sep.blk g4 (vecC told) 24]) ?_ 3 (by rfl) rfl rfl rfl (by rfl) (.int .u16 (n + 1)) (by rfl) (#[.int .u16 (n + 1)]) (by rfl) 1 16 rfl (vecC_size _ HT.out.1) (by kernel_rfl) HFS.out (by simp [Value.oneCell']) (vecC (inc told x)) HPS.out ?_; (focus first | with_reducible exact HH.out | ((with_reducible repeat first | refine OwnS.alloc ?_ _ | refine OwnS.drewN ?_ _ | refine OwnS.drew ?_); with_reducible exact HH.out)); intro w6 hh; have HHx : Aside0 (OwnS (fun _ => False) [Sep.blk g1 (hoC told (.slice A l.length c)) 27, Sep.blk g2 (itC x) 31, Sep.blk g3 (hoC (List.replicate 16 (0 : Int)) (.slice none 0 0)) 27, Sep.blk g4 (vecC (inc told x)) 24] w w6) := ⟨hh⟩; clear HH; have HH := HHx; clear HHx; clear hh; clear HKV; have HKV : Aside0 (∀ w' : World, OwnS (fun _ => False) [Sep.blk g1 (hoC told (.slice A l.length c)) 27, Sep.blk g2 (itC x) 31, Sep.blk g3 (hoC (List.replicate 16 (0 : Int)) (.slice none 0 0)) 27, Sep.blk g4 (vecC (inc told x)) 24] w w' → (w'.cell? ⟨g2, 0, none⟩ = some (.int .u8 f))) := ⟨fun W h => (by rw [← HFX.out]; exact blk_cell (OwnS.blk (S := fun _ => False) (w0 := w) (As := [Sep.blk g1 (hoC told (.slice A l.length c)) 27, Sep.blk g2 (itC x) 31, Sep.blk g3 (hoC (List.replicate 16 (0 : Int)) (.slice none 0 0)) 27, Sep.blk g4 (vecC (inc told x)) 24]) h 1 rfl) 0)⟩; refine hK.out _ _ ?_ (fun hHeld2 => ?_); (focus (try dsimp only); (refine HKV.out _ ?_; (focus first | with_reducible exact HH.out | ((with_reducible repeat first | refine OwnS.alloc ?_ _ | refine OwnS.drewN ?_ _ | refine OwnS.drew ?_); with_reducible exact HH.out)))); clear hK K hHeld; rename _ => hHeld; (try dsimp only at hHeld); (try simp only [Act.put, List.setIfInBounds_toArray, List.set_cons_zero, List.set_cons_succ])
  refine wpAnyH_done (by kernel_rfl) ?_ _
  go_wp2_with fail
  go_loopw [6, 7] (fun v6 vi W => ∃ (i : Nat) (m : List It) (B : Option Addr) (d : Nat), v6 = .slice B m.length d ∧ vi = .int .i64 (i : Int) ∧ i ≤ l.length ∧ Aside0 (m = (l.take i).filter (notI x)) ∧ Aside0 (OwnS (fun _ => False) [Sep.blk g1 (hoC told (.slice A l.length c)) 27, Sep.blk g2 (itC x) 31, Sep.blk g3 (hoC (List.replicate 16 (0 : Int)) (.slice none 0 0)) 27, Sep.blk g4 (vecC (inc told x)) 24, Sep.row kIt 31 (.slice B m.length d) m] w W)) (fun _ vi _ => l.length - (intOf vi).toNat)
  case atStart => exact ⟨0, [], none, 0, rfl, rfl, by omega, ⟨by simp⟩, ⟨OwnS.joinL HH.out (Bs := [Sep.row kIt 31 (.slice none 0 0) []]) (Own.nil (Own.start _))⟩⟩
  case round =>
    clear HH HCT
    obtain ⟨i, m, B, d, rfl, rfl, hi, HM, HH⟩ := hrel
    by_cases hlt : i < l.length
    · obtain ⟨g0, o0, ea, hoy, _⟩ := at_It HR.out i hlt
      subst ea
      obtain ⟨y, hy⟩ : ∃ y, l[i] = y := ⟨_, rfl⟩
      rw [hy] at hoy
      have HOY := Aside0.mk hoy
      have HKY : Aside0 (okK y) := ⟨HKL.out y (hy ▸ List.getElem_mem hlt)⟩
      have HRX : Aside0 (∀ {W : World}, Below w.heap.size w W → W.rangeAt g0 (o0 + i * 20) (itC y).toList) := ⟨row_at (A := none) HR.out hlt hy⟩
      have HML : Aside0 (m.length ≤ l.length) := ⟨by rw [HM.out]; exact Nat.le_trans (List.length_filter_le _ _) (by simp; omega)⟩
      have q0 : 0 ≤ (i : Int) := by omega
      have q1 : (i : Int) < (l.length : Int) := by omega
      have hft := filter_take (notI x) hlt
      rw [← HM.out, hy] at hft
      cases he : eqI y x with
      | true =>
        have HEQ := Aside0.mk he
        have HM2 : Aside0 (m = (l.take (i + 1)).filter (notI x)) := ⟨by rw [hft]; unfold notI; rw [he]; simp⟩
        clear hoy hy hft he
        go_wp2_with (first
        | ((with_reducible refine gate_ (.load 25 (.tmp 19)) rfl ?_); refine ev_cell (v := .slice (some ⟨g0, o0, none⟩) l.length c) ((blk_cell (OwnS.blk (S := fun _ => False) (w0 := w) (As := [Sep.blk g1 (hoC told (.slice (some ⟨g0, o0, none⟩) l.length c)) 27, Sep.blk g2 (itC x) 31, Sep.blk g3 (hoC (List.replicate 16 (0 : Int)) (.slice none 0 0)) 27, Sep.blk g4 (vecC (inc told x)) 24, Sep.row kIt 31 (.slice B m.length d) m]) ?_ 0 rfl) 16).trans (hoC_last _ _ HT.out.1)) rfl rfl (by rfl) Try.underlying25 rfl ?_; (focus first | with_reducible exact HH.out | ((with_reducible repeat first | refine OwnS.alloc ?_ _ | refine OwnS.drewN ?_ _ | refine OwnS.drew ?_); with_reducible exact HH.out)))
        | fail
        | fail)
        have HKV : Aside0 (∀ w' : World, OwnS (fun _ => False) [Sep.blk g1 (hoC told (.slice (some ⟨g0, o0, none⟩) l.length c)) 27, Sep.blk g2 (itC x) 31, Sep.blk g3 (hoC (List.replicate 16 (0 : Int)) (.slice none 0 0)) 27, Sep.blk g4 (vecC (inc told x)) 24, Sep.row kIt 31 (.slice B m.length d) m] w w' → (w'.cell? ⟨g1, 16, none⟩ = some (.slice (some ⟨g0, o0, none⟩) l.length c) ∧ w'.rangeAt g0 (o0 + i * 20) (itC y).toList ∧ w'.rangeAt g2 0 (itC x).toList)) := ⟨fun W h => ⟨(blk_cell (OwnS.blk (S := fun _ => False) (w0 := w) (As := [Sep.blk g1 (hoC told (.slice (some ⟨g0, o0, none⟩) l.length c)) 27, Sep.blk g2 (itC x) 31, Sep.blk g3 (hoC (List.replicate 16 (0 : Int)) (.slice none 0 0)) 27, Sep.blk g4 (vecC (inc told x)) 24, Sep.row kIt 31 (.slice B m.length d) m]) h 0 rfl) 16).trans (hoC_last _ _ HT.out.1), HRX.out (below_frm (OwnS.frm h)), range_blk (OwnS.blk (S := fun _ => False) (w0 := w) (As := [Sep.blk g1 (hoC told (.slice (some ⟨g0, o0, none⟩) l.length c)) 27, Sep.blk g2 (itC x) 31, Sep.blk g3 (hoC (List.replicate 16 (0 : Int)) (.slice none 0 0)) 27, Sep.blk g4 (vecC (inc told x)) 24, Sep.row kIt 31 (.slice B m.length d) m]) h 1 rfl)⟩⟩
        refine wp_region_held_drew (S := fun w' => w'.cell? ⟨g1, 16, none⟩ = some (.slice (some ⟨g0, o0, none⟩) l.length c) ∧ w'.rangeAt g0 (o0 + i * 20) (itC y).toList ∧ w'.rangeAt g2 0 (itC x).toList) (by kernel_rfl) ?_ (fun hHeld => ?_)
        focus (try dsimp only); (refine HKV.out _ ?_; (focus first | with_reducible exact HH.out | ((with_reducible repeat first | refine OwnS.alloc ?_ _ | refine OwnS.drewN ?_ _ | refine OwnS.drew ?_); with_reducible exact HH.out)))
        (try dsimp only at hHeld)
        refine tk (i := 0) (v := ?_) (hy := Or.inl ⟨by rfl, ?_⟩) (h := ?_); rotate_left; (focus (intro w hSw; (try dsimp only at hSw); go_simp; try with_reducible rfl)); (try simp only [Act.put, List.setIfInBounds_toArray, List.set_cons_zero, List.set_cons_succ])
        refine tk (i := 1) (v := .slice (some ⟨g0, o0, none⟩) l.length c) (hy := Or.inl ⟨by rfl, ?_⟩) (h := ?_); (focus (intro w hSw; (try dsimp only at hSw); go_simp; try with_reducible rfl)); (try simp only [Act.put, List.setIfInBounds_toArray, List.set_cons_zero, List.set_cons_succ])
        refine tk (i := 2) (v := .int .i64 (i : Int)) (hy := Or.inl ⟨by rfl, ?_⟩) (h := ?_); (focus (intro w hSw; (try dsimp only at hSw); go_simp; try with_reducible rfl)); (try simp only [Act.put, List.setIfInBounds_toArray, List.set_cons_zero, List.set_cons_succ])
        refine tk (i := 3) (v := ?_) (hy := Or.inl ⟨by rfl, ?_⟩) (h := ?_); rotate_left; (focus (intro w hSw; (try dsimp only at hSw); go_simp; try with_reducible rfl)); (try simp only [Act.put, List.setIfInBounds_toArray, List.set_cons_zero, List.set_cons_succ])
        refine tk (i := 4) (hy := yieldsIf_load_mid (by rfl) _ _ rfl _ _ rfl ((itC y).toList) _ ?_ Try.underlying31 rfl (by rw [Array.length_toList, (itC_size _ HOY.out.1.1)]; kernel_rfl)) (h := ?_); (focus (intro w hSw; (try dsimp only at hSw); go_split_ands; assumption)); (try simp only [Act.put, List.setIfInBounds_toArray, List.set_cons_zero, List.set_cons_succ])
        refine tk (i := 5) (hy := yieldsIf_load_mid (by rfl) _ _ rfl _ _ rfl ((itC x).toList) _ ?_ Try.underlying31 rfl (by rw [Array.length_toList, (itC_size _ HX.out.1.1)]; kernel_rfl)) (h := ?_); (focus (intro w hSw; (try dsimp only at hSw); go_split_ands; assumption)); (try simp only [Act.put, List.setIfInBounds_toArray, List.set_cons_zero, List.set_cons_succ])
        refine tk (i := 6) (v := .bool false) (hy := (Or.inl ⟨by rfl, fun w hSw => by
        clear hSw hHeld
        have hq : ∀ W : World, (Op.equalIn 10000 31 (.agg (itC y)) (.agg (itC x))).run Try.prog W = .ok true W := fun W => by rw [eqItR y x HOY.out HX.out HKY.out HKX.out, HEQ.out]
        go_simp⟩)) (h := ?_); (try simp only [Act.put, List.setIfInBounds_toArray, List.set_cons_zero, List.set_cons_succ])
        refine wpAnyH_done (by kernel_rfl) ?_ _
        go_wp2_with fail
        go_roundw
        case rel => exact ⟨i + 1, m, B, d, rfl, by go_num, by omega, HM2, ⟨OwnS.drew HH.out⟩⟩
        case measure => simp [intOf]; omega
      | false =>
        have HEQ := Aside0.mk he
        have HM2 : Aside0 (m ++ [y] = (l.take (i + 1)).filter (notI x)) := ⟨by rw [hft]; unfold notI; rw [he]; simp⟩
        have HAL : Aside0 (m.length + 1 = (m ++ [y]).length) := ⟨by simp⟩
        clear hoy hy hft he
        go_wp2_with (first
        | ((with_reducible refine gate_ (.load 25 (.tmp 19)) rfl ?_); refine ev_cell (v := .slice (some ⟨g0, o0, none⟩) l.length c) ((blk_cell (OwnS.blk (S := fun _ => False) (w0 := w) (As := [Sep.blk g1 (hoC told (.slice (some ⟨g0, o0, none⟩) l.length c)) 27, Sep.blk g2 (itC x) 31, Sep.blk g3 (hoC (List.replicate 16 (0 : Int)) (.slice none 0 0)) 27, Sep.blk g4 (vecC (inc told x)) 24, Sep.row kIt 31 (.slice B m.length d) m]) ?_ 0 rfl) 16).trans (hoC_last _ _ HT.out.1)) rfl rfl (by rfl) Try.underlying25 rfl ?_; (focus first | with_reducible exact HH.out | ((with_reducible repeat first | refine OwnS.alloc ?_ _ | refine OwnS.drewN ?_ _ | refine OwnS.drew ?_); with_reducible exact HH.out)))
        | fail
        | fail)
        have HKV : Aside0 (∀ w' : World, OwnS (fun _ => False) [Sep.blk g1 (hoC told (.slice (some ⟨g0, o0, none⟩) l.length c)) 27, Sep.blk g2 (itC x) 31, Sep.blk g3 (hoC (List.replicate 16 (0 : Int)) (.slice none 0 0)) 27, Sep.blk g4 (vecC (inc told x)) 24, Sep.row kIt 31 (.slice B m.length d) m] w w' → (w'.cell? ⟨g1, 16, none⟩ = some (.slice (some ⟨g0, o0, none⟩) l.length c) ∧ w'.rangeAt g0 (o0 + i * 20) (itC y).toList ∧ w'.rangeAt g2 0 (itC x).toList)) := ⟨fun W h => ⟨(blk_cell (OwnS.blk (S := fun _ => False) (w0 := w) (As := [Sep.blk g1 (hoC told (.slice (some ⟨g0, o0, none⟩) l.length c)) 27, Sep.blk g2 (itC x) 31, Sep.blk g3 (hoC (List.replicate 16 (0 : Int)) (.slice none 0 0)) 27, Sep.blk g4 (vecC (inc told x)) 24, Sep.row kIt 31 (.slice B m.length d) m]) h 0 rfl) 16).trans (hoC_last _ _ HT.out.1), HRX.out (below_frm (OwnS.frm h)), range_blk (OwnS.blk (S := fun _ => False) (w0 := w) (As := [Sep.blk g1 (hoC told (.slice (some ⟨g0, o0, none⟩) l.length c)) 27, Sep.blk g2 (itC x) 31, Sep.blk g3 (hoC (List.replicate 16 (0 : Int)) (.slice none 0 0)) 27, Sep.blk g4 (vecC (inc told x)) 24, Sep.row kIt 31 (.slice B m.length d) m]) h 1 rfl)⟩⟩
        refine wp_region_held_drew (S := fun w' => w'.cell? ⟨g1, 16, none⟩ = some (.slice (some ⟨g0, o0, none⟩) l.length c) ∧ w'.rangeAt g0 (o0 + i * 20) (itC y).toList ∧ w'.rangeAt g2 0 (itC x).toList) (by kernel_rfl) ?_ (fun hHeld => ?_)
        focus (try dsimp only); (refine HKV.out _ ?_; (focus first | with_reducible exact HH.out | ((with_reducible repeat first | refine OwnS.alloc ?_ _ | refine OwnS.drewN ?_ _ | refine OwnS.drew ?_); with_reducible exact HH.out)))
        (try dsimp only at hHeld)
        refine tk (i := 0) (v := ?_) (hy := Or.inl ⟨by rfl, ?_⟩) (h := ?_); rotate_left; (focus (intro w hSw; (try dsimp only at hSw); go_simp; try with_reducible rfl)); (try simp only [Act.put, List.setIfInBounds_toArray, List.set_cons_zero, List.set_cons_succ])
        refine tk (i := 1) (v := .slice (some ⟨g0, o0, none⟩) l.length c) (hy := Or.inl ⟨by rfl, ?_⟩) (h := ?_); (focus (intro w hSw; (try dsimp only at hSw); go_simp; try with_reducible rfl)); (try simp only [Act.put, List.setIfInBounds_toArray, List.set_cons_zero, List.set_cons_succ])
        refine tk (i := 2) (v := .int .i64 (i : Int)) (hy := Or.inl ⟨by rfl, ?_⟩) (h := ?_); (focus (intro w hSw; (try dsimp only at hSw); go_simp; try with_reducible rfl)); (try simp only [Act.put, List.setIfInBounds_toArray, List.set_cons_zero, List.set_cons_succ])
        refine tk (i := 3) (v := ?_) (hy := Or.inl ⟨by rfl, ?_⟩) (h := ?_); rotate_left; (focus (intro w hSw; (try dsimp only at hSw); go_simp; try with_reducible rfl)); (try simp only [Act.put, List.setIfInBounds_toArray, List.set_cons_zero, List.set_cons_succ])
        refine tk (i := 4) (hy := yieldsIf_load_mid (by rfl) _ _ rfl _ _ rfl ((itC y).toList) _ ?_ Try.underlying31 rfl (by rw [Array.length_toList, (itC_size _ HOY.out.1.1)]; kernel_rfl)) (h := ?_); (focus (intro w hSw; (try dsimp only at hSw); go_split_ands; assumption)); (try simp only [Act.put, List.setIfInBounds_toArray, List.set_cons_zero, List.set_cons_succ])
        refine tk (i := 5) (hy := yieldsIf_load_mid (by rfl) _ _ rfl _ _ rfl ((itC x).toList) _ ?_ Try.underlying31 rfl (by rw [Array.length_toList, (itC_size _ HX.out.1.1)]; kernel_rfl)) (h := ?_); (focus (intro w hSw; (try dsimp only at hSw); go_split_ands; assumption)); (try simp only [Act.put, List.setIfInBounds_toArray, List.set_cons_zero, List.set_cons_succ])
        refine tk (i := 6) (v := .bool true) (hy := (Or.inl ⟨by rfl, fun w hSw => by
        clear hSw hHeld
        have hq : ∀ W : World, (Op.equalIn 10000 31 (.agg (itC y)) (.agg (itC x))).run Try.prog W = .ok false W := fun W => by rw [eqItR y x HOY.out HX.out HKY.out HKX.out, HEQ.out]
        go_simp⟩)) (h := ?_); (try simp only [Act.put, List.setIfInBounds_toArray, List.set_cons_zero, List.set_cons_succ])
        refine wpAnyH_done (by kernel_rfl) ?_ _
        go_wp2_with (first
            | ((with_reducible refine gate_ (.load 31 (.tmp 36)) rfl ?_); refine ev_loadR (b := g0) (p0 := o0 + i * 20) (n := 20) (cs := itC y) (HRX.out (below_frm (OwnS.frm (S := fun _ => False) (w0 := w) (As := [Sep.blk g1 (hoC told (.slice (some ⟨g0, o0, none⟩) l.length c)) 27, Sep.blk g2 (itC x) 31, Sep.blk g3 (hoC (List.replicate 16 (0 : Int)) (.slice none 0 0)) 27, Sep.blk g4 (vecC (inc told x)) 24, Sep.row kIt 31 (.slice B m.length d) m]) ?_))) rfl rfl (by rfl) Try.underlying31 rfl (itC_size _ HOY.out.1.1) (by kernel_rfl) ?_; (focus first | with_reducible exact HH.out | ((with_reducible repeat first | refine OwnS.alloc ?_ _ | refine OwnS.drewN ?_ _ | refine OwnS.drew ?_); with_reducible exact HH.out)))
            | ((with_reducible refine gate_ (.load 25 (.tmp 33)) rfl ?_); refine ev_cell (v := .slice (some ⟨g0, o0, none⟩) l.length c) ((blk_cell (OwnS.blk (S := fun _ => False) (w0 := w) (As := [Sep.blk g1 (hoC told (.slice (some ⟨g0, o0, none⟩) l.length c)) 27, Sep.blk g2 (itC x) 31, Sep.blk g3 (hoC (List.replicate 16 (0 : Int)) (.slice none 0 0)) 27, Sep.blk g4 (vecC (inc told x)) 24, Sep.row kIt 31 (.slice B m.length d) m]) ?_ 0 rfl) 16).trans (hoC_last _ _ HT.out.1)) rfl rfl (by rfl) Try.underlying25 rfl ?_; (focus first | with_reducible exact HH.out | ((with_reducible repeat first | refine OwnS.alloc ?_ _ | refine OwnS.drewN ?_ _ | refine OwnS.drew ?_); with_reducible exact HH.out)))
            | ((with_reducible refine gate_dst (N := 38) rfl ?_); refine litR1 rfl y HOY.out.1.1 rfl rfl ?_)
            | (at_builtin; refine evS_appendR kIt (S := fun _ => False) (w0 := w) (As := [Sep.blk g1 (hoC told (.slice (some ⟨g0, o0, none⟩) l.length c)) 27, Sep.blk g2 (itC x) 31, Sep.blk g3 (hoC (List.replicate 16 (0 : Int)) (.slice none 0 0)) 27, Sep.blk g4 (vecC (inc told x)) 24, Sep.row kIt 31 (.slice B m.length d) m]) ?_ 4 rfl (.tmp 32) (.tmp 38) 25 31 (.agg (itC zI)) 72 rfl Try.underlying25 infoR rfl (by first | decide | exact Nat.succ_pos _) (by decide) (.slice B m.length d) m y (itL y) rfl rfl ?_ ?_ ?_ ?_; (focus first | with_reducible exact HH.out | ((with_reducible repeat first | refine OwnS.alloc ?_ _ | refine OwnS.drewN ?_ _ | refine OwnS.drew ?_); with_reducible exact HH.out)); (focus first | rfl | (simp [Act.eval]; done)); (focus exact fun _ => kIt_M HOY.out); (focus have := HL.out; have := HML.out; omega); intro A9 c9 w81 hh; have HHx : Aside0 (OwnS (fun _ => False) [Sep.blk g1 (hoC told (.slice (some ⟨g0, o0, none⟩) l.length c)) 27, Sep.blk g2 (itC x) 31, Sep.blk g3 (hoC (List.replicate 16 (0 : Int)) (.slice none 0 0)) 27, Sep.blk g4 (vecC (inc told x)) 24, Sep.row kIt 31 (.slice A9 (m.length + 1) c9) (m ++ [y])] w w81) := ⟨hh⟩; clear HH; have HH := HHx; clear HHx; clear hh)
            | fail
            | fail)
        go_roundw
        case rel =>
          have h8 := HH.out
          rw [HAL.out] at h8
          exact ⟨i + 1, m ++ [y], A9, c9, by rw [HAL.out], by go_num, by omega, HM2, ⟨h8⟩⟩
        case measure => simp [intOf]; omega
    · have hge : i = l.length := by omega
      subst hge
      have hm := HM.out
      rw [List.take_length] at hm
      have HM3 := Aside0.mk hm
      clear hm
      go_wp2_with (first
        | ((with_reducible refine gate_ (.load 25 (.tmp 19)) rfl ?_); refine ev_cell (v := .slice A l.length c) ((blk_cell (OwnS.blk (S := fun _ => False) (w0 := w) (As := [Sep.blk g1 (hoC told (.slice A l.length c)) 27, Sep.blk g2 (itC x) 31, Sep.blk g3 (hoC (List.replicate 16 (0 : Int)) (.slice none 0 0)) 27, Sep.blk g4 (vecC (inc told x)) 24, Sep.row kIt 31 (.slice B m.length d) m]) ?_ 0 rfl) 16).trans (hoC_last _ _ HT.out.1)) rfl rfl (by rfl) Try.underlying25 rfl ?_; (focus first | with_reducible exact HH.out | ((with_reducible repeat first | refine OwnS.alloc ?_ _ | refine OwnS.drewN ?_ _ | refine OwnS.drew ?_); with_reducible exact HH.out)))
        | ((with_reducible refine gate_ (.load 24 (.tmp 5)) rfl ?_); refine ev_loadA (OwnS.blk (S := fun _ => False) (w0 := w) (As := [Sep.blk g1 (hoC told (.slice A l.length c)) 27, Sep.blk g2 (itC x) 31, Sep.blk g3 (hoC (List.replicate 16 (0 : Int)) (.slice none 0 0)) 27, Sep.blk g4 (vecC (inc told x)) 24, Sep.row kIt 31 (.slice B m.length d) m]) ?_ 3 rfl) 0 16 (vecC (inc told x)) (all_of _ 16 (vecC_size _ HT2.out.1)) rfl rfl (by rfl) Try.underlying24 rfl (vecC_size _ HT2.out.1) (by kernel_rfl) ?_; (focus first | with_reducible exact HH.out | ((with_reducible repeat first | refine OwnS.alloc ?_ _ | refine OwnS.drewN ?_ _ | refine OwnS.drew ?_); with_reducible exact HH.out)))
        | ((with_reducible refine gate_dst (N := 42) rfl ?_); refine buildE rfl rfl (v := .agg (hoC (inc told x) (.slice B m.length d))) (by simp only [List.map_toArray, List.map_cons, List.map_nil]; exact buildR_h (inc told x) HT2.out.1 _ _ _ _) ?_)
        | ((with_reducible refine gate_ (.store 27 (.tmp 4) (.tmp 42)) rfl ?_); refine evS_storeA (S := fun _ => False) (w0 := w) (As := [Sep.blk g1 (hoC told (.slice A l.length c)) 27, Sep.blk g2 (itC x) 31, Sep.blk g3 (hoC (List.replicate 16 (0 : Int)) (.slice none 0 0)) 27, Sep.blk g4 (vecC (inc told x)) 24, Sep.row kIt 31 (.slice B m.length d) m]) ?_ 2 rfl rfl rfl rfl (by rfl) (.agg (hoC (inc told x) (.slice B m.length d))) (by rfl) (hoC (inc told x) (.slice B m.length d)) (by rfl) 17 17 (hoC_size _ _ HT2.out.1) (hoC_size _ _ (by rfl)) (by kernel_rfl) (by decide) (hoC_one _ _ rfl) (hoC (inc told x) (.slice B m.length d)) (put_all _ _ (by rw [(hoC_size _ _ HT2.out.1), (hoC_size _ _ (by rfl))])) ?_; (focus first | with_reducible exact HH.out | ((with_reducible repeat first | refine OwnS.alloc ?_ _ | refine OwnS.drewN ?_ _ | refine OwnS.drew ?_); with_reducible exact HH.out)); intro w121 hh; have HHx : Aside0 (OwnS (fun _ => False) [Sep.blk g1 (hoC told (.slice A l.length c)) 27, Sep.blk g2 (itC x) 31, Sep.blk g3 (hoC (inc told x) (.slice B m.length d)) 27, Sep.blk g4 (vecC (inc told x)) 24, Sep.row kIt 31 (.slice B m.length d) m] w w121) := ⟨hh⟩; clear HH; have HH := HHx; clear HHx; clear hh)
        | fail
        | fail)
      refine bodyPost_ret (v := .agg (hoC (inc told x) (.slice B m.length d))) (results_cell_row rfl _ _ g3 27 (hoC (inc told x) (.slice B m.length d)) (0, 0) _ rfl (OwnS.blk HH.out 2 rfl) Try.underlying27 rfl (by rw [(hoC_size _ _ HT2.out.1)]; kernel_rfl)) rfl ?_
      exact ⟨B, d, by rw [HM3.out], by rw [← HM3.out]; exact Own.pick (OwnS.own HH.out) 4 rfl⟩
end Go.Proofs.Ytkifekjcpnoclaa.Hld
