/- few, theirs. -/
import Derived.Test.YtkifekjcpnoclaaHldAlive2
namespace Go.Proofs.Ytkifekjcpnoclaa.Hld
open Go Go.RowKit Go.Proofs.YtkifekjcpnoclaaW.PrintWords Go.Proofs.Ytkifekjcpnoclaa.Sep Go.Proofs.Ytkifekjcpnoclaa.Obj
set_option linter.unusedVariables false
set_option linter.unusedSimpArgs false

def fewI (x : It) : Bool := decide (x.text.size ≤ 500)

set_option maxHeartbeats 1000000 in
set_option maxRecDepth 100000 in
theorem few_calls (w : World) (x : It) (hx0 : okI x) : Calls Try.prog 10 #[.agg (itC x)] w (Kept (.bool (fewI x)) w) := by
  have HX := Aside0.mk hx0
  have ht := hx0.2.2
  have HH : Aside0 (OwnS (fun _ => False) [] w w) := ⟨OwnS.of_own (Own.start w)⟩
  go_enter Try.func10, Try.ntmps10
  go_wp2_with (first
    | ((with_reducible refine gate_dst (N := 1) rfl ?_); refine evS_box (S := fun _ => False) (w0 := w) (As := []) ?_ rfl (cs := itC x) (T := 31) ?_ ?_; (focus first | with_reducible exact HH.out | ((with_reducible repeat first | refine OwnS.alloc ?_ _ | refine OwnS.drewN ?_ _ | refine OwnS.drew ?_); with_reducible exact HH.out)); (focus first | (go_simp; done) | (go_simp; rfl)); intro g1 w1 he hh; clear he; have HHx : Aside0 (OwnS (fun _ => False) [Sep.blk g1 (itC x) 31] w w1) := ⟨hh⟩; clear HH; have HH := HHx; clear HHx; clear hh)
    | ((with_reducible refine gate_ (.load 9 (.tmp 4)) rfl ?_); refine ev_cell (v := .string x.text) ((blk_cell (OwnS.blk (S := fun _ => False) (w0 := w) (As := [Sep.blk g1 (itC x) 31]) ?_ 0 rfl) 19).trans (itC_last _ HX.out.1.1)) rfl rfl (by rfl) Try.underlying9 rfl ?_; (focus first | with_reducible exact HH.out | ((with_reducible repeat first | refine OwnS.alloc ?_ _ | refine OwnS.drewN ?_ _ | refine OwnS.drew ?_); with_reducible exact HH.out)))
    | fail
    | fail)
  go_ret
  exact ⟨by simp [fewI]; omega, below_frm (OwnS.frm HH.out)⟩

set_option maxHeartbeats 1000000 in
set_option maxRecDepth 100000 in
theorem theirs_calls (w : World) (x : It) (hx0 : okI x) : Calls Try.prog 13 #[.agg (itC x)] w (Kept (.agg (itC x)) w) := by
  have HX := Aside0.mk hx0
  have HH : Aside0 (OwnS (fun _ => False) [] w w) := ⟨OwnS.of_own (Own.start w)⟩
  go_enter Try.func13, Try.ntmps13
  go_wp2_with (first
    | ((with_reducible refine gate_dst (N := 1) rfl ?_); refine evS_box (S := fun _ => False) (w0 := w) (As := []) ?_ rfl (cs := itC x) (T := 31) ?_ ?_; (focus first | with_reducible exact HH.out | ((with_reducible repeat first | refine OwnS.alloc ?_ _ | refine OwnS.drewN ?_ _ | refine OwnS.drew ?_); with_reducible exact HH.out)); (focus first | (go_simp; done) | (go_simp; rfl)); intro g1 w1 he hh; clear he; have HHx : Aside0 (OwnS (fun _ => False) [Sep.blk g1 (itC x) 31] w w1) := ⟨hh⟩; clear HH; have HH := HHx; clear HHx; clear hh)
    | ((with_reducible refine gate_dst (N := 2) rfl ?_); refine evS_box (S := fun _ => False) (w0 := w) (As := [Sep.blk g1 (itC x) 31]) ?_ rfl (cs := itC zI) (T := 43) ?_ ?_; (focus first | with_reducible exact HH.out | ((with_reducible repeat first | refine OwnS.alloc ?_ _ | refine OwnS.drewN ?_ _ | refine OwnS.drew ?_); with_reducible exact HH.out)); (focus first | (go_simp; done) | (go_simp; rfl)); intro g2 w2 he hh; clear he; have HHx : Aside0 (OwnS (fun _ => False) [Sep.blk g1 (itC x) 31, Sep.blk g2 (itC zI) 43] w w2) := ⟨hh⟩; clear HH; have HH := HHx; clear HHx; clear hh)
    | ((with_reducible refine gate_ (.load 5 (.tmp 3)) rfl ?_); refine ev_cell (v := .int .u8 x.frm) ((blk_cell (OwnS.blk (S := fun _ => False) (w0 := w) (As := [Sep.blk g1 (itC x) 31, Sep.blk g2 (itC zI) 43]) ?_ 0 rfl) 0).trans rfl) rfl rfl (by rfl) Try.underlying5 rfl ?_; (focus first | with_reducible exact HH.out | ((with_reducible repeat first | refine OwnS.alloc ?_ _ | refine OwnS.drewN ?_ _ | refine OwnS.drew ?_); with_reducible exact HH.out)))
    | ((with_reducible refine gate_ (.load 3 (.tmp 5)) rfl ?_); refine ev_cell (v := .int .i64 x.seq) ((blk_cell (OwnS.blk (S := fun _ => False) (w0 := w) (As := [Sep.blk g1 (itC x) 31, Sep.blk g2 (itC zI) 43]) ?_ 0 rfl) 1).trans rfl) rfl rfl (by rfl) Try.underlying3 rfl ?_; (focus first | with_reducible exact HH.out | ((with_reducible repeat first | refine OwnS.alloc ?_ _ | refine OwnS.drewN ?_ _ | refine OwnS.drew ?_); with_reducible exact HH.out)))
    | ((with_reducible refine gate_ (.load 29 (.tmp 7)) rfl ?_); refine ev_loadA (OwnS.blk (S := fun _ => False) (w0 := w) (As := [Sep.blk g1 (itC x) 31, Sep.blk g2 (itC zI) 43]) ?_ 0 rfl) 2 18 (bodC (x.kind) (x.past) (x.text)) (itC_bod _ HX.out.1.1) rfl rfl (by rfl) Try.underlying29 rfl (bodC_size _ _ _ HX.out.1.1) (by kernel_rfl) ?_; (focus first | with_reducible exact HH.out | ((with_reducible repeat first | refine OwnS.alloc ?_ _ | refine OwnS.drewN ?_ _ | refine OwnS.drew ?_); with_reducible exact HH.out)))
    | ((with_reducible refine gate_dst (N := 9) rfl ?_); refine buildE rfl rfl (v := .agg (itC x)) (by simp only [List.map_toArray, List.map_cons, List.map_nil]; exact build_it x HX.out.1.1 _) ?_)
    | ((with_reducible refine gate_ (.store 43 (.tmp 2) (.tmp 9)) rfl ?_); refine evS_storeA (S := fun _ => False) (w0 := w) (As := [Sep.blk g1 (itC x) 31, Sep.blk g2 (itC zI) 43]) ?_ 1 rfl rfl rfl rfl (by rfl) (.agg (itC x)) (by rfl) (itC x) (by rfl) 20 20 (itC_size _ HX.out.1.1) (itC_size _ zI_len) (by kernel_rfl) (by decide) (itC_one _) (itC x) (put_all _ _ (by rw [(itC_size _ HX.out.1.1), (itC_size _ zI_len)])) ?_; (focus first | with_reducible exact HH.out | ((with_reducible repeat first | refine OwnS.alloc ?_ _ | refine OwnS.drewN ?_ _ | refine OwnS.drew ?_); with_reducible exact HH.out)); intro w3 hh; have HHx : Aside0 (OwnS (fun _ => False) [Sep.blk g1 (itC x) 31, Sep.blk g2 (itC x) 43] w w3) := ⟨hh⟩; clear HH; have HH := HHx; clear HHx; clear hh)
    | fail
    | fail)
  refine bodyPost_ret (v := .agg (itC x)) (results_cell_row rfl _ _ g2 43 (itC x) (0, 0) _ rfl (OwnS.blk HH.out 1 rfl) Try.underlying43 rfl (by rw [(itC_size _ HX.out.1.1)]; kernel_rfl)) rfl ?_
  exact ⟨rfl, below_frm (OwnS.frm HH.out)⟩
end Go.Proofs.Ytkifekjcpnoclaa.Hld
