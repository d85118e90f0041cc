/- A net's Again. -/
import Derived.Test.YtnlpfigdinnboaaNetTake
namespace Go.Proofs.Ytnlpfigdinnboaa.Net
open Go Go.RowKit Go.Proofs.YtnlpfigdinnboaaW.PrintWords Go.Proofs.Ytnlpfigdinnboaa.Sep Go.Proofs.Ytnlpfigdinnboaa.Obj
set_option linter.unusedVariables false
set_option linter.unusedSimpArgs false

theorem val_of_row {w : World} {S : Nat → Prop} {x : Lt} {v : Value} (h : (Sep.row kU 5 v x.body).P w S) : (Sep.val kLt x (cL x v)).P w S := kLt_mkM h

set_option maxHeartbeats 2000000 in
set_option maxRecDepth 100000 in
theorem again_full (S : Nat → Prop) (w : World) (g : Nat) (l : List Lt) (room : Int) (hT : OwnS S [netA g l room] w w) (h0 : 0 < room) (i : Nat) (hi : i < l.length) (hlb : (l[i]).body.length ≤ 1000000) (hl : l.length ≤ 1000000) (hfull : room ≤ (l.length : Int)) :
    Calls Try.prog 15 #[.pointer (some ⟨g, 0, none⟩), .int .i64 (i : Int)] w (fun e w' => e = .returned (.int .i64 7) ∧ OwnS S [netA g l room] w w') := by
  obtain ⟨A, c, hx⟩ := netA_open1 hT
  have HL := Aside0.mk (fun W hg hC => look_in W g A l c room h0 hg hC i hi hlb hl)
  clear hT
  have HH := Aside0.mk hx
  clear hx
  generalize l[i] = x at *
  obtain ⟨f, d, s, bd, tg⟩ := x
  dsimp only [cL] at *
  go_enter Try.func15, Try.ntmps15
  go_wp2_with (first
    | (go_at_call 16; refine ownS_call (S := S) (w0 := w) (As := [Sep.blk g #[.slice A l.length c, .int .i64 room] 54, Sep.row kLt 36 (.slice A l.length c) l]) ?_ ?_; (focus ((repeat (first | (with_reducible refine OwnS.alloc ?_ _) | (with_reducible refine OwnS.drewN ?_ _) | (with_reducible refine OwnS.drew ?_))); (with_reducible exact HH.out))); intro ht; refine (HL.out w ?_ ?_).mono ?_; (focus exact (OwnS.blk ht 0 rfl)); (focus exact (OwnS.C ht 1 rfl)); rintro e w2 ⟨A1, c1, rfl, ho⟩; have HHx : Aside0 (OwnS S [Sep.blk g #[.slice A l.length c, .int .i64 room] 54, Sep.row kLt 36 (.slice A l.length c) l, Sep.row kU 5 (.slice A1 bd.length c1) bd] w w2) := ⟨OwnS.joinL (S := S) (w0 := w) (As := [Sep.blk g #[.slice A l.length c, .int .i64 room] 54, Sep.row kLt 36 (.slice A l.length c) l]) (Bs := [Sep.row kU 5 (.slice A1 bd.length c1) bd]) ht ho⟩; clear HH; have HH := HHx; clear HHx; clear ho; clear ht)
    | ((with_reducible refine gate_dst (N := 5) rfl ?_); refine evS_box (S := S) (w0 := w) (As := [Sep.blk g #[.slice A l.length c, .int .i64 room] 54, Sep.row kLt 36 (.slice A l.length c) l, Sep.row kU 5 (.slice A1 bd.length c1) bd]) ?_ rfl (cs := #[.int .u8 0, .int .u8 0, .int .u32 0, .slice none 0 0, .string ⟨#[]⟩]) (T := 36) ?_ ?_; (focus ((repeat (first | (with_reducible refine OwnS.alloc ?_ _) | (with_reducible refine OwnS.drewN ?_ _) | (with_reducible refine OwnS.drew ?_))); (with_reducible exact HH.out))); (focus first | (go_simp; done) | (go_simp; rfl)); intro g2 w3 he hh; clear he; have HHx : Aside0 (OwnS S [Sep.blk g #[.slice A l.length c, .int .i64 room] 54, Sep.row kLt 36 (.slice A l.length c) l, Sep.row kU 5 (.slice A1 bd.length c1) bd, Sep.blk g2 #[.int .u8 0, .int .u8 0, .int .u32 0, .slice none 0 0, .string ⟨#[]⟩] 36] w w3) := ⟨hh⟩; clear HH; have HH := HHx; clear HHx; clear hh)
    | ((with_reducible refine gate_ (.store 36 (.tmp 5) (.tmp 11)) rfl ?_); refine evS_store (S := S) (w0 := w) (As := [Sep.blk g #[.slice A l.length c, .int .i64 room] 54, Sep.row kLt 36 (.slice A l.length c) l, Sep.row kU 5 (.slice A1 bd.length c1) bd, Sep.blk g2 #[.int .u8 0, .int .u8 0, .int .u32 0, .slice none 0 0, .string ⟨#[]⟩] 36]) ?_ 3 rfl rfl rfl rfl (by rfl) (.agg #[.int .u8 f, .int .u8 d, .int .u32 s, .slice A1 bd.length c1, .string tg]) (by rfl) [.int .u8 f, .int .u8 d, .int .u32 s, .slice A1 bd.length c1, .string tg] (by rfl) (by kernel_rfl) (by simp) (by simp [Value.oneCell']) ?_; (focus ((repeat (first | (with_reducible refine OwnS.alloc ?_ _) | (with_reducible refine OwnS.drewN ?_ _) | (with_reducible refine OwnS.drew ?_))); (with_reducible exact HH.out))); intro w4 hh; have HHx : Aside0 (OwnS S [Sep.blk g #[.slice A l.length c, .int .i64 room] 54, Sep.row kLt 36 (.slice A l.length c) l, Sep.row kU 5 (.slice A1 bd.length c1) bd, Sep.blk g2 #[.int .u8 f, .int .u8 d, .int .u32 s, .slice A1 bd.length c1, .string tg] 36] w w4) := ⟨hh⟩; clear HH; have HH := HHx; clear HHx; clear hh; have hc0 : w4.cell? ⟨g, 0, none⟩ = some (.slice A l.length c) := (blk_cell (OwnS.blk HH.out 0 rfl) 0).trans rfl; have hc1 : w4.cell? ⟨g, 1, none⟩ = some (.int .i64 room) := (blk_cell (OwnS.blk HH.out 0 rfl) 1).trans rfl)
    | fail
    | fail)
  go_quiet (fail)
  go_wp2_with fail
  go_ret
  exact ⟨rfl, netA_close rfl (OwnS.picks (S := S) (w0 := w) (As := [Sep.blk g #[.slice A l.length c, .int .i64 room] 54, Sep.row kLt 36 (.slice A l.length c) l, Sep.row kU 5 (.slice A1 bd.length c1) bd, Sep.blk g2 #[.int .u8 f, .int .u8 d, .int .u32 s, .slice A1 bd.length c1, .string tg] 36]) (by (repeat (first | (with_reducible refine OwnS.alloc ?_ _) | (with_reducible refine OwnS.drewN ?_ _) | (with_reducible refine OwnS.drew ?_))); (with_reducible exact HH.out)) [0, 1] (by decide))⟩

set_option maxHeartbeats 2000000 in
set_option maxRecDepth 100000 in
theorem again_in (S : Nat → Prop) (w : World) (g : Nat) (l : List Lt) (room : Int) (hT : OwnS S [netA g l room] w w) (h0 : 0 < room) (i : Nat) (hi : i < l.length) (hlb : (l[i]).body.length ≤ 1000000) (hl : l.length ≤ 1000000) (hfull : (l.length : Int) < room) :
    Calls Try.prog 15 #[.pointer (some ⟨g, 0, none⟩), .int .i64 (i : Int)] w (fun e w' => e = .returned (.int .i64 0) ∧ OwnS S [netA g (l ++ [l[i]]) room] w w') := by
  obtain ⟨A, c, hx⟩ := netA_open1 hT
  have HL := Aside0.mk (fun W hg hC => look_in W g A l c room h0 hg hC i hi hlb hl)
  clear hT
  have HH := Aside0.mk hx
  clear hx
  generalize l[i] = x at *
  obtain ⟨f, d, s, bd, tg⟩ := x
  dsimp only [cL] at *
  go_enter Try.func15, Try.ntmps15
  go_wp2_with (first
    | (go_at_call 16; refine ownS_call (S := S) (w0 := w) (As := [Sep.blk g #[.slice A l.length c, .int .i64 room] 54, Sep.row kLt 36 (.slice A l.length c) l]) ?_ ?_; (focus ((repeat (first | (with_reducible refine OwnS.alloc ?_ _) | (with_reducible refine OwnS.drewN ?_ _) | (with_reducible refine OwnS.drew ?_))); (with_reducible exact HH.out))); intro ht; refine (HL.out w ?_ ?_).mono ?_; (focus exact (OwnS.blk ht 0 rfl)); (focus exact (OwnS.C ht 1 rfl)); rintro e w2 ⟨A1, c1, rfl, ho⟩; have HHx : Aside0 (OwnS S [Sep.blk g #[.slice A l.length c, .int .i64 room] 54, Sep.row kLt 36 (.slice A l.length c) l, Sep.row kU 5 (.slice A1 bd.length c1) bd] w w2) := ⟨OwnS.joinL (S := S) (w0 := w) (As := [Sep.blk g #[.slice A l.length c, .int .i64 room] 54, Sep.row kLt 36 (.slice A l.length c) l]) (Bs := [Sep.row kU 5 (.slice A1 bd.length c1) bd]) ht ho⟩; clear HH; have HH := HHx; clear HHx; clear ho; clear ht)
    | ((with_reducible refine gate_dst (N := 5) rfl ?_); refine evS_box (S := S) (w0 := w) (As := [Sep.blk g #[.slice A l.length c, .int .i64 room] 54, Sep.row kLt 36 (.slice A l.length c) l, Sep.row kU 5 (.slice A1 bd.length c1) bd]) ?_ rfl (cs := #[.int .u8 0, .int .u8 0, .int .u32 0, .slice none 0 0, .string ⟨#[]⟩]) (T := 36) ?_ ?_; (focus ((repeat (first | (with_reducible refine OwnS.alloc ?_ _) | (with_reducible refine OwnS.drewN ?_ _) | (with_reducible refine OwnS.drew ?_))); (with_reducible exact HH.out))); (focus first | (go_simp; done) | (go_simp; rfl)); intro g2 w3 he hh; clear he; have HHx : Aside0 (OwnS S [Sep.blk g #[.slice A l.length c, .int .i64 room] 54, Sep.row kLt 36 (.slice A l.length c) l, Sep.row kU 5 (.slice A1 bd.length c1) bd, Sep.blk g2 #[.int .u8 0, .int .u8 0, .int .u32 0, .slice none 0 0, .string ⟨#[]⟩] 36] w w3) := ⟨hh⟩; clear HH; have HH := HHx; clear HHx; clear hh)
    | ((with_reducible refine gate_ (.store 36 (.tmp 5) (.tmp 11)) rfl ?_); refine evS_store (S := S) (w0 := w) (As := [Sep.blk g #[.slice A l.length c, .int .i64 room] 54, Sep.row kLt 36 (.slice A l.length c) l, Sep.row kU 5 (.slice A1 bd.length c1) bd, Sep.blk g2 #[.int .u8 0, .int .u8 0, .int .u32 0, .slice none 0 0, .string ⟨#[]⟩] 36]) ?_ 3 rfl rfl rfl rfl (by rfl) (.agg #[.int .u8 f, .int .u8 d, .int .u32 s, .slice A1 bd.length c1, .string tg]) (by rfl) [.int .u8 f, .int .u8 d, .int .u32 s, .slice A1 bd.length c1, .string tg] (by rfl) (by kernel_rfl) (by simp) (by simp [Value.oneCell']) ?_; (focus ((repeat (first | (with_reducible refine OwnS.alloc ?_ _) | (with_reducible refine OwnS.drewN ?_ _) | (with_reducible refine OwnS.drew ?_))); (with_reducible exact HH.out))); intro w4 hh; have HHx : Aside0 (OwnS S [Sep.blk g #[.slice A l.length c, .int .i64 room] 54, Sep.row kLt 36 (.slice A l.length c) l, Sep.row kU 5 (.slice A1 bd.length c1) bd, Sep.blk g2 #[.int .u8 f, .int .u8 d, .int .u32 s, .slice A1 bd.length c1, .string tg] 36] w w4) := ⟨hh⟩; clear HH; have HH := HHx; clear HHx; clear hh; have hc0 : w4.cell? ⟨g, 0, none⟩ = some (.slice A l.length c) := (blk_cell (OwnS.blk HH.out 0 rfl) 0).trans rfl; have hc1 : w4.cell? ⟨g, 1, none⟩ = some (.int .i64 room) := (blk_cell (OwnS.blk HH.out 0 rfl) 1).trans rfl; have hl0 := blk_cell (OwnS.blk HH.out 3 rfl) 0; have hl1 := blk_cell (OwnS.blk HH.out 3 rfl) 1; have hl2 := blk_cell (OwnS.blk HH.out 3 rfl) 2; have hl3 := blk_cell (OwnS.blk HH.out 3 rfl) 3; have hl4 := blk_cell (OwnS.blk HH.out 3 rfl) 4; have lt0 := blk_lt (OwnS.blk HH.out 0 rfl); have lt3 := blk_lt (OwnS.blk HH.out 3 rfl))
    | fail
    | fail)
  go_quiet (fail)
  go_wp2_with fail
  have HHx : Aside0 (OwnS S [Sep.blk g #[.slice A l.length c, .int .i64 room] 54, Sep.row kLt 36 (.slice A l.length c) l, Sep.val kLt (⟨f, d, s, bd, tg⟩ : Lt) [.int .u8 f, .int .u8 d, .int .u32 s, .slice A1 bd.length c1, .string tg], Sep.blk g2 #[.int .u8 f, .int .u8 d, .int .u32 s, .slice A1 bd.length c1, .string tg] 36] w w4) := ⟨HH.out.weak 2 rfl (fun T hp => kLt_mkM (x := (⟨f, d, s, bd, tg⟩ : Lt)) hp)⟩; clear HH; have HH := HHx; clear HHx
  have hq0 := pw_cell_below (below_alloc (Below.refl _ (w4.drewN (nq + 1))) (Obj.cells #[.int .u8 f, .int .u8 d, .int .u32 s, .slice A1 bd.length c1, .string tg] 36)) hc0
  go_region_law (first
    | (refine evS_appendR_val_step kLt (S := S) (w0 := w) (As := [Sep.blk g #[.slice A l.length c, .int .i64 room] 54, Sep.row kLt 36 (.slice A l.length c) l, Sep.val kLt (⟨f, d, s, bd, tg⟩ : Lt) [.int .u8 f, .int .u8 d, .int .u32 s, .slice A1 bd.length c1, .string tg], Sep.blk g2 #[.int .u8 f, .int .u8 d, .int .u32 s, .slice A1 bd.length c1, .string tg] 36]) ?_ 1 2 (by decide) (by rfl) (.tmp 32) (.tmp 34) 49 36 (.agg #[.int .u8 0, .int .u8 0, .int .u32 0, .slice none 0 0, .string ⟨#[]⟩]) 48 (by rfl) Try.underlying49 infoLt rfl (by decide) (by decide) (.slice A l.length c) l (⟨f, d, s, bd, tg⟩ : Lt) [.int .u8 f, .int .u8 d, .int .u32 s, .slice A1 bd.length c1, .string tg] rfl rfl (by rfl) ?_ ?_ ?_; (focus ((repeat (first | (with_reducible refine OwnS.alloc ?_ _) | (with_reducible refine OwnS.drewN ?_ _) | (with_reducible refine OwnS.drew ?_))); (with_reducible exact HH.out))); (focus first | rfl | (simp [Act.eval]; done)); (focus omega); intro A9 c9 w5 hh; have HHx : Aside0 (OwnS S [Sep.blk g #[.slice A l.length c, .int .i64 room] 54, Sep.row kLt 36 (.slice A9 (l.length + 1) c9) (l ++ [(⟨f, d, s, bd, tg⟩ : Lt)]), emp, Sep.blk g2 #[.int .u8 f, .int .u8 d, .int .u32 s, .slice A1 bd.length c1, .string tg] 36] w w5) := ⟨hh⟩; clear HH; have HH := HHx; clear HHx; clear hh; have hs0 := blk_cell (OwnS.blk HH.out 0 rfl) 0; have hs1 := blk_frozen (OwnS.blk HH.out 0 rfl) 0)
    | fail
    | fail)
  all_goals (have HHx : Aside0 (OwnS S [Sep.blk g #[.slice A9 (l.length + 1) c9, .int .i64 room] 54, Sep.row kLt 36 (.slice A9 (l.length + 1) c9) (l ++ [(⟨f, d, s, bd, tg⟩ : Lt)]), emp, Sep.blk g2 #[.int .u8 f, .int .u8 d, .int .u32 s, .slice A1 bd.length c1, .string tg] 36] w (w5.setCell ⟨g, 0, none⟩ (.slice A9 (l.length + 1) c9))) := ⟨HH.out.setC 0 rfl 0 _⟩; clear HH; have HH := HHx; clear HHx; go_wp2_with fail; go_ret; exact ⟨rfl, netA_close (by simp) (OwnS.picks (S := S) (w0 := w) (As := [Sep.blk g #[.slice A9 (l.length + 1) c9, .int .i64 room] 54, Sep.row kLt 36 (.slice A9 (l.length + 1) c9) (l ++ [(⟨f, d, s, bd, tg⟩ : Lt)]), emp, Sep.blk g2 #[.int .u8 f, .int .u8 d, .int .u32 s, .slice A1 bd.length c1, .string tg] 36]) (by (repeat (first | (with_reducible refine OwnS.alloc ?_ _) | (with_reducible refine OwnS.drewN ?_ _) | (with_reducible refine OwnS.drew ?_))); (with_reducible exact HH.out)) [0, 1] (by decide))⟩)
end Go.Proofs.Ytnlpfigdinnboaa.Net
