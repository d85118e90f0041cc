/- A net's Post. -/
import Derived.Test.YtnlpfigdinnboaaNetAgain
namespace Go.Proofs.Ytnlpfigdinnboaa.Net
open Go Go.RowKit Go.Proofs.YtnlpfigdinnboaaW.PrintWords Go.Proofs.Ytnlpfigdinnboaa.Sep Go.Proofs.Ytnlpfigdinnboaa.Obj
set_option linter.unusedVariables false
set_option linter.unusedSimpArgs false

set_option maxRecDepth 100000 in
theorem post_nil (w : World) (v : Value) : Calls Try.prog 18 #[.pointer none, v] w (Kept (.int .i64 0) w) := by
  go_enter Try.func18, Try.ntmps18
  go_wp2_with (first
    | (go_at_call 22; refine (good_nil w).mono ?_; rintro e w1 ⟨rfl, hb⟩; have HB := Aside0.mk hb; clear hb)
    | fail)
  go_ret
  exact ⟨rfl, HB.out⟩
set_option maxRecDepth 100000 in
theorem post_zero (w : World) (g : Nat) (u v : Value) (room : Int) (h0 : ¬ 0 < room) (hg : w.heap[g]? = some (.cells #[u, .int .i64 room] 54 (0, 0))) : Calls Try.prog 18 #[.pointer (some ⟨g, 0, none⟩), v] w (Kept (.int .i64 0) w) := by
  have HG := Aside0.mk hg
  clear hg
  go_enter Try.func18, Try.ntmps18
  go_wp2_with (first
    | (go_at_call 22; refine (good_calls w g u room ?_).mono ?_; (focus exact HG.out); rintro e w1 ⟨rfl, hb⟩; rw [decide_eq_false h0]; have HB := Aside0.mk hb; clear hb)
    | fail)
  go_ret
  exact ⟨rfl, HB.out⟩
theorem netA_open2 {S : Nat → Prop} {g : Nat} {l : List Lt} {room : Int} {B : Asr} {w w' : World} (h : OwnS S [netA g l room, B] w w') : ∃ A c, OwnS S [Sep.blk g #[.slice A l.length c, .int .i64 room] 54, Sep.row kLt 36 (.slice A l.length c) l, B] w w' := by
  obtain ⟨A, c, h1⟩ := netA_open h
  exact ⟨A, c, h1.picks [0, 2, 1] (by decide)⟩

theorem relP {S : Nat → Prop} {g i : Nat} {A : Option Addr} {c : Nat} {l ls r L : List Lt} {x : Lt} {room : Int} {B : Asr} {w w' : World} (hr : ls.take (i + 1) = r ++ [x]) (hL : l ++ r = L) (hn : L.length = l.length + i) (h : OwnS S [Sep.blk g #[.slice A (L.length + 1) c, .int .i64 room] 54, Sep.row kLt 36 (.slice A (L.length + 1) c) (L ++ [x]), B] w w') :
    OwnS S [Sep.blk g #[.slice A (l.length + (i + 1)) c, .int .i64 room] 54, Sep.row kLt 36 (.slice A (l.length + (i + 1)) c) (l ++ ls.take (i + 1)), B] w w' := by
  rw [hr, ← List.append_assoc, hL, ← Nat.add_assoc, ← hn]
  exact h
set_option maxHeartbeats 4000000 in
set_option maxRecDepth 100000 in
theorem post_calls (S : Nat → Prop) (b w : World) (g : Nat) (l ls : List Lt) (room : Int) (B : Asr) (hT : OwnS S [netA g l room, B] w w) (h0 : 0 < room) (A : Option Addr) (c : Nat) (hlr : (l.length : Int) ≤ room) (hroom : room ≤ 5000) (hls : ls.length ≤ 1000000) (hc : ls.length ≤ c) (hlb : ∀ x ∈ ls, x.body.length ≤ 1000000)
    (hB : ∀ W T, Below b.heap.size b W → B.P W T → kLt.C W A ls.length ls) (hbw : Below b.heap.size b w) (hS : ∀ k, S k → b.heap.size ≤ k) (k : Nat) (hk : k = min ls.length (room.toNat - l.length)) :
    Calls Try.prog 18 #[.pointer (some ⟨g, 0, none⟩), .slice A ls.length c] w (fun e w' => e = .returned (.int .i64 (k : Int)) ∧ OwnS S [netA g (l ++ ls.take k) room, B] w w') := by
  obtain ⟨A0, c0, hx⟩ := netA_open2 hT
  have HB := Aside0.mk hB
  have HS := Aside0.mk hS
  have HBW := Aside0.mk hbw
  have HLB := Aside0.mk hlb
  have HH := Aside0.mk hx
  clear hT hx hB hS hbw hlb
  have hmin : min (ls.length : Int) (room - (l.length : Int)) = (k : Int) := by omega
  have hmin2 : (if room - (l.length : Int) < (ls.length : Int) then room - (l.length : Int) else (ls.length : Int)) = (k : Int) := by split <;> omega
  have hkl : k ≤ ls.length := by omega
  have hkc : (k : Int) ≤ (c : Int) := by omega
  have hk0 : 0 ≤ (k : Int) := by omega
  have hkr : l.length + k ≤ 5000 := by omega
  clear hk
  go_enter Try.func18, Try.ntmps18
  go_upto_region 3 with (first
    | (go_at_call 22; refine ownS_call (S := S) (w0 := w) (As := [Sep.blk g #[.slice A0 l.length c0, .int .i64 room] 54, Sep.row kLt 36 (.slice A0 l.length c0) l, B]) ?_ ?_; (focus ((repeat (first | (with_reducible refine OwnS.alloc ?_ _) | (with_reducible refine OwnS.drewN ?_ _) | (with_reducible refine OwnS.drew ?_))); (with_reducible exact HH.out))); intro ht; refine (good_calls w g (.slice A0 l.length c0) room ?_).mono ?_; (focus exact (OwnS.blk ht 0 rfl)); rintro e w1 ⟨rfl, hb⟩; rw [decide_eq_true h0]; have HHx : Aside0 (OwnS S [Sep.blk g #[.slice A0 l.length c0, .int .i64 room] 54, Sep.row kLt 36 (.slice A0 l.length c0) l, B] w w1) := ⟨OwnS.step ht hb⟩; clear HH; have HH := HHx; clear HHx; clear hb; clear ht; have hc0 : w1.cell? ⟨g, 0, none⟩ = some (.slice A0 l.length c0) := (blk_cell (OwnS.blk HH.out 0 rfl) 0).trans rfl; have hc1 : w1.cell? ⟨g, 1, none⟩ = some (.int .i64 room) := (blk_cell (OwnS.blk HH.out 0 rfl) 1).trans rfl)
    | fail
    | fail)
  go_cut [5] (fun s5 wx => s5 = .int .i64 (k : Int) ∧ Aside0 (OwnS S [Sep.blk g #[.slice A0 l.length c0, .int .i64 room] 54, Sep.row kLt 36 (.slice A0 l.length c0) l, B] w wx))
  case first =>
    go_quiet (fail)
    all_goals ((try go_wp2_with fail); go_meet; exact ⟨by first | (congr 1; omega) | rfl, ⟨(by (repeat (first | (with_reducible refine OwnS.alloc ?_ _) | (with_reducible refine OwnS.drewN ?_ _) | (with_reducible refine OwnS.drew ?_))); (with_reducible exact HH.out))⟩⟩)
  case rest =>
    clear HH hc0 hc1
    obtain ⟨rfl, HH⟩ := hcut
    rename World => wq
    go_wp2_with fail
    go_loopw [28] (fun v28 W => ∃ (i : Nat) (A' : Option Addr) (c' : Nat), v28 = .int .i64 (i : Int) ∧ i ≤ k ∧ Aside0 (OwnS S [Sep.blk g #[.slice A' (l.length + i) c', .int .i64 room] 54, Sep.row kLt 36 (.slice A' (l.length + i) c') (l ++ ls.take i), B] w W)) (fun v28 _ => k - (intOf v28).toNat)
    case atStart => exact ⟨0, A0, c0, rfl, by omega, by simpa using HH⟩
    case round =>
      clear HH
      obtain ⟨i, A', c', rfl, hi, HH⟩ := hrel
      by_cases hlt : i < k
      · have hix : i < ls.length := by omega
        have HBR : Aside0 (Below b.heap.size b wr) := ⟨Frm.base HH.out.frm HBW.out HS.out⟩
        obtain ⟨ad, Ab, cb, ea, hr, hcb, k0, k1, k2, k3, k4⟩ := at_Lt (HB.out _ _ HBR.out (HH.out.get 2 rfl)) i hix
        have hlx := HLB.out ls[i] (List.getElem_mem _)
        have htk : ls.take (i + 1) = ls.take i ++ [ls[i]] := (List.take_append_getElem hix).symm
        have HTK := Aside0.mk htk
        clear htk
        generalize ls[i] = x at *
        obtain ⟨f, d, s, bd, tg⟩ := x
        dsimp only at *
        have HR := Aside0.mk hr
        cases ea
        have g0 : 0 ≤ (i : Int) := by omega
        have g1 : (i : Int) < (k : Int) := by omega
        obtain ⟨L, hL⟩ : ∃ L, l ++ ls.take i = L := ⟨_, rfl⟩
        have HLn : Aside0 (L.length = l.length + i) := ⟨by rw [← hL]; simp; omega⟩
        have HHL : Aside0 (OwnS S [Sep.blk g #[.slice A' L.length c', .int .i64 room] 54, Sep.row kLt 36 (.slice A' L.length c') L, B] w wr) := ⟨by have := HH.out; rw [HLn.out, ← hL]; exact this⟩
        have HL := Aside0.mk hL
        clear hr HH hL
        have HH := HHL
        clear HHL
        go_wp2_with fail
        have hq0 := pw_cell_below (below_alloc (Below.refl _ wr) (Obj.cells #[.int .u8 f, .int .u8 d, .int .u32 s, .slice Ab bd.length cb, .string tg] 36)) (blk_cell (OwnS.blk HH.out 0 rfl) 0)
        go_region_law (first
          | (go_simp; go_at_call 23; refine ownS_call (S := S) (w0 := w) (As := [Sep.blk g #[.slice A' L.length c', .int .i64 room] 54, Sep.row kLt 36 (.slice A' L.length c') L, B]) ?_ ?_; (focus ((repeat (first | (with_reducible refine OwnS.alloc ?_ _) | (with_reducible refine OwnS.drewN ?_ _) | (with_reducible refine OwnS.drew ?_))); (with_reducible exact HH.out))); intro ht; refine (own_walk f d s bd tg Ab cb _ (Kd.C_below HR.out (by (repeat (first | (with_reducible refine below_alloc ?_ _) | (with_reducible refine pw_below_drewN ?_ _) | (with_reducible refine below_drew ?_))); (with_reducible exact Below.refl _ _))) hlx).mono ?_; rintro e w10 ⟨A1, c1, rfl, ho⟩; have HHx : Aside0 (OwnS S [Sep.blk g #[.slice A' L.length c', .int .i64 room] 54, Sep.row kLt 36 (.slice A' L.length c') L, B, Sep.row kU 5 (.slice A1 bd.length c1) bd] w w10) := ⟨OwnS.joinL (S := S) (w0 := w) (As := [Sep.blk g #[.slice A' L.length c', .int .i64 room] 54, Sep.row kLt 36 (.slice A' L.length c') L, B]) (Bs := [Sep.row kU 5 (.slice A1 bd.length c1) bd]) ht ho⟩; clear HH; have HH := HHx; clear HHx; clear ho; clear ht; have HHx : Aside0 (OwnS S [Sep.blk g #[.slice A' L.length c', .int .i64 room] 54, Sep.row kLt 36 (.slice A' L.length c') L, B, Sep.val kLt (⟨f, d, s, bd, tg⟩ : Lt) [.int .u8 f, .int .u8 d, .int .u32 s, .slice A1 bd.length c1, .string tg]] w w10) := ⟨HH.out.weak 3 rfl (fun T hp => kLt_mkM (x := (⟨f, d, s, bd, tg⟩ : Lt)) hp)⟩; clear HH; have HH := HHx; clear HHx; unfold cL; dsimp only; have hc1 := blk_cell (OwnS.blk HH.out 0 rfl) 0; have hc2 := pw_cell_below (below_alloc (Below.refl _ w10) (Obj.cells #[.int .u8 f, .int .u8 d, .int .u32 s, .slice A1 bd.length c1, .string tg] 36)) hc1)
          | (refine evS_appendR_val_step kLt (S := S) (w0 := w) (As := [Sep.blk g #[.slice A' L.length c', .int .i64 room] 54, Sep.row kLt 36 (.slice A' L.length c') L, B, Sep.val kLt (⟨f, d, s, bd, tg⟩ : Lt) [.int .u8 f, .int .u8 d, .int .u32 s, .slice A1 bd.length c1, .string tg]]) ?_ 1 3 (by decide) (by rfl) (.tmp 36) (.tmp 39) 49 36 (.agg #[.int .u8 0, .int .u8 0, .int .u32 0, .slice none 0 0, .string ⟨#[]⟩]) 48 (by rfl) Try.underlying49 infoLt rfl (by decide) (by decide) (.slice A' L.length c') L (⟨f, d, s, bd, tg⟩ : Lt) [.int .u8 f, .int .u8 d, .int .u32 s, .slice A1 bd.length c1, .string tg] rfl rfl (by rfl) ?_ ?_ ?_; (focus ((repeat (first | (with_reducible refine OwnS.alloc ?_ _) | (with_reducible refine OwnS.drewN ?_ _) | (with_reducible refine OwnS.drew ?_))); (with_reducible exact HH.out))); (focus first | rfl | (simp [Act.eval]; done)); (focus have := HLn.out; omega); intro A9 c9 w11 hh; have HHx : Aside0 (OwnS S [Sep.blk g #[.slice A' L.length c', .int .i64 room] 54, Sep.row kLt 36 (.slice A9 (L.length + 1) c9) (L ++ [(⟨f, d, s, bd, tg⟩ : Lt)]), B, emp] w w11) := ⟨hh⟩; clear HH; have HH := HHx; clear HHx; clear hh; have hs0 := blk_cell (OwnS.blk HH.out 0 rfl) 0; have hs1 := blk_frozen (OwnS.blk HH.out 0 rfl) 0)
          | fail
          | fail)
        all_goals (have HHx : Aside0 (OwnS S [Sep.blk g #[.slice A9 (L.length + 1) c9, .int .i64 room] 54, Sep.row kLt 36 (.slice A9 (L.length + 1) c9) (L ++ [(⟨f, d, s, bd, tg⟩ : Lt)]), B, emp] w (w11.setCell ⟨g, 0, none⟩ (.slice A9 (L.length + 1) c9))) := ⟨HH.out.setC 0 rfl 0 _⟩; clear HH; have HH := HHx; clear HHx; go_wp2_with fail; go_roundw)
        all_goals first | exact ⟨i + 1, A9, c9, by go_num, by omega, ⟨relP HTK.out HL.out HLn.out (OwnS.picks (S := S) (w0 := w) (As := [Sep.blk g #[.slice A9 (L.length + 1) c9, .int .i64 room] 54, Sep.row kLt 36 (.slice A9 (L.length + 1) c9) (L ++ [(⟨f, d, s, bd, tg⟩ : Lt)]), B, emp]) (by (repeat (first | (with_reducible refine OwnS.alloc ?_ _) | (with_reducible refine OwnS.drewN ?_ _) | (with_reducible refine OwnS.drew ?_))); (with_reducible exact HH.out)) [0, 1, 2] (by decide))⟩⟩ | (simp [intOf]; omega)
      · have hik : i = k := by omega
        subst hik
        go_wp2_with fail
        go_ret
        exact ⟨rfl, netA_close (by simp; omega) HH.out⟩
end Go.Proofs.Ytnlpfigdinnboaa.Net
