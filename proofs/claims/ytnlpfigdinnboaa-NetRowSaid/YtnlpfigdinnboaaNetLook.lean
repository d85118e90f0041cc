/- A net's Len and Look. -/
import Derived.Test.YtnlpfigdinnboaaNetFns
namespace Go.Proofs.Ytnlpfigdinnboaa.Net
open Go Go.RowKit Go.Proofs.YtnlpfigdinnboaaW.PrintWords Go.Proofs.Ytnlpfigdinnboaa.Sep Go.Proofs.Ytnlpfigdinnboaa.Obj
set_option linter.unusedVariables false
set_option linter.unusedSimpArgs false

theorem at_Lt {w : World} {A : Option Addr} {n : Nat} {xs : List Lt} (h : kLt.C w A n xs) (i : Nat) (h1 : i < xs.length) : ∃ ad Ab cb, A = some ad ∧ kU.C w Ab xs[i].body.length xs[i].body ∧ xs[i].body.length ≤ cb ∧ w.cell? (ad.add (i * 5)) = some (.int .u8 xs[i].frm) ∧
    w.cell? ⟨(ad.add (i * 5)).block, (ad.add (i * 5)).off + 1, none⟩ = some (.int .u8 xs[i].dst) ∧ w.cell? ⟨(ad.add (i * 5)).block, (ad.add (i * 5)).off + 2, none⟩ = some (.int .u32 xs[i].seq) ∧
    w.cell? ⟨(ad.add (i * 5)).block, (ad.add (i * 5)).off + 3, none⟩ = some (.slice Ab xs[i].body.length cb) ∧ w.cell? ⟨(ad.add (i * 5)).block, (ad.add (i * 5)).off + 4, none⟩ = some (.string xs[i].tag) := by
  have hn := Kd.C_len h
  obtain ⟨ad, c, e, _, hK, hc0⟩ := Kd.C_get h zL (i : Int) (by omega) (by omega)
  have hx : xs.getD (i : Int).toNat zL = xs[i] := by simp [h1]
  rw [hx] at hK
  have hc : ∀ j u, c[j]? = some u → w.cell? (ad.add (i * 5 + j)) = some u := hc0
  obtain ⟨Ab, cb, rfl, h2, h3⟩ := kLt_open hK
  refine ⟨ad, Ab, cb, e, h3, h2, hc 0 _ rfl, ?_, ?_, ?_, ?_⟩
  · rw [← add_field _ _ 1 (by omega)]; exact hc 1 _ rfl
  · rw [← add_field _ _ 2 (by omega)]; exact hc 2 _ rfl
  · rw [← add_field _ _ 3 (by omega)]; exact hc 3 _ rfl
  · rw [← add_field _ _ 4 (by omega)]; exact hc 4 _ rfl

set_option maxRecDepth 100000 in
theorem len_nil (w : World) : Calls Try.prog 20 #[.pointer none] w (Kept (.int .i64 0) w) := by
  go_enter Try.func20, Try.ntmps20
  go_wp2_with (first
    | (go_at_call 22; refine (good_nil w).mono ?_; rintro e w1 ⟨rfl, hb⟩; have HB := Aside0.mk hb; clear hb)
    | fail)
  go_ret
  exact ⟨rfl, HB.out⟩
set_option maxRecDepth 100000 in
theorem len_zero (w : World) (g : Nat) (A : Option Addr) (n c : Nat) (room : Int) (h0 : ¬ 0 < room) (hg : w.heap[g]? = some (.cells #[.slice A n c, .int .i64 room] 54 (0, 0))) : Calls Try.prog 20 #[.pointer (some ⟨g, 0, none⟩)] w (Kept (.int .i64 0) w) := by
  have HG := Aside0.mk hg
  clear hg
  go_enter Try.func20, Try.ntmps20
  go_wp2_with (first
    | (go_at_call 22; refine (good_calls w g (.slice A n c) room ?_).mono ?_; (focus exact HG.out); rintro e w1 ⟨rfl, hb⟩; rw [decide_eq_false h0]; have HB := Aside0.mk hb; clear hb)
    | fail)
  go_ret
  exact ⟨rfl, HB.out⟩
set_option maxRecDepth 100000 in
theorem len_calls (w : World) (g : Nat) (A : Option Addr) (n c : Nat) (room : Int) (h0 : 0 < room) (hg : w.heap[g]? = some (.cells #[.slice A n c, .int .i64 room] 54 (0, 0))) : Calls Try.prog 20 #[.pointer (some ⟨g, 0, none⟩)] w (Kept (.int .i64 (n : Int)) w) := by
  have HG := Aside0.mk hg
  clear hg
  go_enter Try.func20, Try.ntmps20
  go_wp2_with (first
    | (go_at_call 22; refine (good_calls w g (.slice A n c) room ?_).mono ?_; (focus exact HG.out); rintro e w1 ⟨rfl, hb⟩; rw [decide_eq_true h0]; have HB := Aside0.mk hb; have hc0 : w1.cell? ⟨g, 0, none⟩ = some (.slice A n c) := (blk_cell (blk_below HG.out hb) 0).trans rfl; clear hb)
    | fail)
  go_ret
  exact ⟨rfl, HB.out⟩

set_option maxRecDepth 100000 in
theorem look_nil (w : World) (at_ : Int) : Calls Try.prog 16 #[.pointer none, .int .i64 at_] w (fun e w' => e = .returned (.tuple #[.agg #[.int .u8 0, .int .u8 0, .int .u32 0, .slice none 0 0, .string ⟨#[]⟩], .int .i64 1]) ∧ Below w.heap.size w w') := by
  have HH : Aside0 (OwnS (fun _ => False) [] w w) := ⟨OwnS.of_own (Own.start w)⟩
  go_enter Try.func16, Try.ntmps16
  go_wp2_with (first
    | ((with_reducible refine gate_dst (N := 4) rfl ?_); refine evS_box (S := fun _ => False) (w0 := w) (As := []) ?_ rfl (cs := #[.int .u8 0, .int .u8 0, .int .u32 0, .slice none 0 0, .string ⟨#[]⟩]) (T := 36) ?_ ?_; (focus ((repeat (first | (with_reducible refine OwnS.alloc ?_ _) | (with_reducible refine OwnS.drewN ?_ _) | (with_reducible refine OwnS.drew ?_))); (with_reducible exact HH.out))); (focus first | (go_simp; done) | (go_simp; rfl)); intro g1 w1 he hh; clear he; have HHx : Aside0 (OwnS (fun _ => False) [Sep.blk g1 #[.int .u8 0, .int .u8 0, .int .u32 0, .slice none 0 0, .string ⟨#[]⟩] 36] w w1) := ⟨hh⟩; clear HH; have HH := HHx; clear HHx; clear hh)
    | (go_at_call 22; refine ownS_call (S := fun _ => False) (w0 := w) (As := [Sep.blk g1 #[.int .u8 0, .int .u8 0, .int .u32 0, .slice none 0 0, .string ⟨#[]⟩] 36]) ?_ ?_; (focus ((repeat (first | (with_reducible refine OwnS.alloc ?_ _) | (with_reducible refine OwnS.drewN ?_ _) | (with_reducible refine OwnS.drew ?_))); (with_reducible exact HH.out))); intro ht; refine (good_nil w1).mono ?_; rintro e w2 ⟨rfl, hb⟩; have HHx : Aside0 (OwnS (fun _ => False) [Sep.blk g1 #[.int .u8 0, .int .u8 0, .int .u32 0, .slice none 0 0, .string ⟨#[]⟩] 36] w w2) := ⟨OwnS.step ht hb⟩; clear HH; have HH := HHx; clear HHx; clear hb; clear ht)
    | ((with_reducible refine gate_ (.store 36 (.tmp 4) (.tmp 10)) rfl ?_); refine evS_store (S := fun _ => False) (w0 := w) (As := [Sep.blk g1 #[.int .u8 0, .int .u8 0, .int .u32 0, .slice none 0 0, .string ⟨#[]⟩] 36]) ?_ 0 rfl rfl rfl rfl (by rfl) (.agg #[.int .u8 0, .int .u8 0, .int .u32 0, .slice none 0 0, .string ⟨#[]⟩]) (by rfl) [.int .u8 0, .int .u8 0, .int .u32 0, .slice none 0 0, .string ⟨#[]⟩] (by rfl) (by kernel_rfl) (by simp) (by simp [Value.oneCell']) ?_; (focus ((repeat (first | (with_reducible refine OwnS.alloc ?_ _) | (with_reducible refine OwnS.drewN ?_ _) | (with_reducible refine OwnS.drew ?_))); (with_reducible exact HH.out))); intro w3 hh; have HHx : Aside0 (OwnS (fun _ => False) [Sep.blk g1 #[.int .u8 0, .int .u8 0, .int .u32 0, .slice none 0 0, .string ⟨#[]⟩] 36] w w3) := ⟨hh⟩; clear HH; have HH := HHx; clear HHx; clear hh)
    | fail
    | fail)
  all_goals first | (exfalso; omega) | skip
  all_goals (refine bodyPost_ret (v := .tuple #[.agg #[.int .u8 0, .int .u8 0, .int .u32 0, .slice none 0 0, .string ⟨#[]⟩], .int .i64 1]) (results_list (rs := [.cell 4 36, .tmp 5]) (vs := [.agg #[.int .u8 0, .int .u8 0, .int .u32 0, .slice none 0 0, .string ⟨#[]⟩], _]) rfl (by simp) (.cell g1 36 #[.int .u8 0, .int .u8 0, .int .u32 0, .slice none 0 0, .string ⟨#[]⟩] (0, 0) _ rfl (OwnS.blk HH.out 0 rfl) Try.underlying36 rfl (by kernel_rfl) (.tmp .nil))) rfl ?_; exact ⟨rfl, below_frm (OwnS.frm HH.out)⟩)

set_option maxRecDepth 100000 in
theorem look_zero (w : World) (at_ : Int) (g : Nat) (v : Value) (room : Int) (h0 : ¬ 0 < room) (hg : w.heap[g]? = some (.cells #[v, .int .i64 room] 54 (0, 0))) : Calls Try.prog 16 #[.pointer (some ⟨g, 0, none⟩), .int .i64 at_] w (fun e w' => e = .returned (.tuple #[.agg #[.int .u8 0, .int .u8 0, .int .u32 0, .slice none 0 0, .string ⟨#[]⟩], .int .i64 1]) ∧ Below w.heap.size w w') := by
  have HG := Aside0.mk hg
  clear hg
  have HH : Aside0 (OwnS (fun _ => False) [] w w) := ⟨OwnS.of_own (Own.start w)⟩
  go_enter Try.func16, Try.ntmps16
  go_wp2_with (first
    | ((with_reducible refine gate_dst (N := 4) rfl ?_); refine evS_box (S := fun _ => False) (w0 := w) (As := []) ?_ rfl (cs := #[.int .u8 0, .int .u8 0, .int .u32 0, .slice none 0 0, .string ⟨#[]⟩]) (T := 36) ?_ ?_; (focus ((repeat (first | (with_reducible refine OwnS.alloc ?_ _) | (with_reducible refine OwnS.drewN ?_ _) | (with_reducible refine OwnS.drew ?_))); (with_reducible exact HH.out))); (focus first | (go_simp; done) | (go_simp; rfl)); intro g1 w1 he hh; clear he; have HHx : Aside0 (OwnS (fun _ => False) [Sep.blk g1 #[.int .u8 0, .int .u8 0, .int .u32 0, .slice none 0 0, .string ⟨#[]⟩] 36] w w1) := ⟨hh⟩; clear HH; have HH := HHx; clear HHx; clear hh)
    | (go_at_call 22; refine ownS_call (S := fun _ => False) (w0 := w) (As := [Sep.blk g1 #[.int .u8 0, .int .u8 0, .int .u32 0, .slice none 0 0, .string ⟨#[]⟩] 36]) ?_ ?_; (focus ((repeat (first | (with_reducible refine OwnS.alloc ?_ _) | (with_reducible refine OwnS.drewN ?_ _) | (with_reducible refine OwnS.drew ?_))); (with_reducible exact HH.out))); intro ht; refine (good_calls w1 g v room ?_).mono ?_; (focus exact (blk_below HG.out (below_frm (OwnS.frm ht)))); rintro e w2 ⟨rfl, hb⟩; rw [decide_eq_false h0]; have HHx : Aside0 (OwnS (fun _ => False) [Sep.blk g1 #[.int .u8 0, .int .u8 0, .int .u32 0, .slice none 0 0, .string ⟨#[]⟩] 36] w w2) := ⟨OwnS.step ht hb⟩; clear HH; have HH := HHx; clear HHx; clear hb; clear ht)
    | ((with_reducible refine gate_ (.store 36 (.tmp 4) (.tmp 10)) rfl ?_); refine evS_store (S := fun _ => False) (w0 := w) (As := [Sep.blk g1 #[.int .u8 0, .int .u8 0, .int .u32 0, .slice none 0 0, .string ⟨#[]⟩] 36]) ?_ 0 rfl rfl rfl rfl (by rfl) (.agg #[.int .u8 0, .int .u8 0, .int .u32 0, .slice none 0 0, .string ⟨#[]⟩]) (by rfl) [.int .u8 0, .int .u8 0, .int .u32 0, .slice none 0 0, .string ⟨#[]⟩] (by rfl) (by kernel_rfl) (by simp) (by simp [Value.oneCell']) ?_; (focus ((repeat (first | (with_reducible refine OwnS.alloc ?_ _) | (with_reducible refine OwnS.drewN ?_ _) | (with_reducible refine OwnS.drew ?_))); (with_reducible exact HH.out))); intro w3 hh; have HHx : Aside0 (OwnS (fun _ => False) [Sep.blk g1 #[.int .u8 0, .int .u8 0, .int .u32 0, .slice none 0 0, .string ⟨#[]⟩] 36] w w3) := ⟨hh⟩; clear HH; have HH := HHx; clear HHx; clear hh)
    | fail
    | fail)
  all_goals first | (exfalso; omega) | skip
  all_goals (refine bodyPost_ret (v := .tuple #[.agg #[.int .u8 0, .int .u8 0, .int .u32 0, .slice none 0 0, .string ⟨#[]⟩], .int .i64 1]) (results_list (rs := [.cell 4 36, .tmp 5]) (vs := [.agg #[.int .u8 0, .int .u8 0, .int .u32 0, .slice none 0 0, .string ⟨#[]⟩], _]) rfl (by simp) (.cell g1 36 #[.int .u8 0, .int .u8 0, .int .u32 0, .slice none 0 0, .string ⟨#[]⟩] (0, 0) _ rfl (OwnS.blk HH.out 0 rfl) Try.underlying36 rfl (by kernel_rfl) (.tmp .nil))) rfl ?_; exact ⟨rfl, below_frm (OwnS.frm HH.out)⟩)

set_option maxRecDepth 100000 in
theorem look_out (w : World) (at_ : Int) (g : Nat) (A : Option Addr) (n c : Nat) (room : Int) (h0 : 0 < room) (hg : w.heap[g]? = some (.cells #[.slice A n c, .int .i64 room] 54 (0, 0))) (hat : ¬ (0 ≤ at_ ∧ at_ < (n : Int))) : Calls Try.prog 16 #[.pointer (some ⟨g, 0, none⟩), .int .i64 at_] w (fun e w' => e = .returned (.tuple #[.agg #[.int .u8 0, .int .u8 0, .int .u32 0, .slice none 0 0, .string ⟨#[]⟩], .int .i64 8]) ∧ Below w.heap.size w w') := by
  have HG := Aside0.mk hg
  clear hg
  have HH : Aside0 (OwnS (fun _ => False) [] w w) := ⟨OwnS.of_own (Own.start w)⟩
  go_enter Try.func16, Try.ntmps16
  go_wp2_with (first
    | ((with_reducible refine gate_dst (N := 4) rfl ?_); refine evS_box (S := fun _ => False) (w0 := w) (As := []) ?_ rfl (cs := #[.int .u8 0, .int .u8 0, .int .u32 0, .slice none 0 0, .string ⟨#[]⟩]) (T := 36) ?_ ?_; (focus ((repeat (first | (with_reducible refine OwnS.alloc ?_ _) | (with_reducible refine OwnS.drewN ?_ _) | (with_reducible refine OwnS.drew ?_))); (with_reducible exact HH.out))); (focus first | (go_simp; done) | (go_simp; rfl)); intro g1 w1 he hh; clear he; have HHx : Aside0 (OwnS (fun _ => False) [Sep.blk g1 #[.int .u8 0, .int .u8 0, .int .u32 0, .slice none 0 0, .string ⟨#[]⟩] 36] w w1) := ⟨hh⟩; clear HH; have HH := HHx; clear HHx; clear hh)
    | (go_at_call 22; refine ownS_call (S := fun _ => False) (w0 := w) (As := [Sep.blk g1 #[.int .u8 0, .int .u8 0, .int .u32 0, .slice none 0 0, .string ⟨#[]⟩] 36]) ?_ ?_; (focus ((repeat (first | (with_reducible refine OwnS.alloc ?_ _) | (with_reducible refine OwnS.drewN ?_ _) | (with_reducible refine OwnS.drew ?_))); (with_reducible exact HH.out))); intro ht; refine (good_calls w1 g (.slice A n c) room ?_).mono ?_; (focus exact (blk_below HG.out (below_frm (OwnS.frm ht)))); rintro e w2 ⟨rfl, hb⟩; rw [decide_eq_true h0]; have HHx : Aside0 (OwnS (fun _ => False) [Sep.blk g1 #[.int .u8 0, .int .u8 0, .int .u32 0, .slice none 0 0, .string ⟨#[]⟩] 36] w w2) := ⟨OwnS.step ht hb⟩; clear HH; have HH := HHx; clear HHx; clear hb; clear ht; have hc0 : w2.cell? ⟨g, 0, none⟩ = some (.slice A n c) := (blk_cell (blk_below HG.out (below_frm (OwnS.frm HH.out))) 0).trans rfl)
    | ((with_reducible refine gate_ (.store 36 (.tmp 4) (.tmp 23)) rfl ?_); refine evS_store (S := fun _ => False) (w0 := w) (As := [Sep.blk g1 #[.int .u8 0, .int .u8 0, .int .u32 0, .slice none 0 0, .string ⟨#[]⟩] 36]) ?_ 0 rfl rfl rfl rfl (by rfl) (.agg #[.int .u8 0, .int .u8 0, .int .u32 0, .slice none 0 0, .string ⟨#[]⟩]) (by rfl) [.int .u8 0, .int .u8 0, .int .u32 0, .slice none 0 0, .string ⟨#[]⟩] (by rfl) (by kernel_rfl) (by simp) (by simp [Value.oneCell']) ?_; (focus ((repeat (first | (with_reducible refine OwnS.alloc ?_ _) | (with_reducible refine OwnS.drewN ?_ _) | (with_reducible refine OwnS.drew ?_))); (with_reducible exact HH.out))); intro w3 hh; have HHx : Aside0 (OwnS (fun _ => False) [Sep.blk g1 #[.int .u8 0, .int .u8 0, .int .u32 0, .slice none 0 0, .string ⟨#[]⟩] 36] w w3) := ⟨hh⟩; clear HH; have HH := HHx; clear HHx; clear hh)
    | fail
    | fail)
  all_goals first | (exfalso; omega) | skip
  all_goals (refine bodyPost_ret (v := .tuple #[.agg #[.int .u8 0, .int .u8 0, .int .u32 0, .slice none 0 0, .string ⟨#[]⟩], .int .i64 8]) (results_list (rs := [.cell 4 36, .tmp 5]) (vs := [.agg #[.int .u8 0, .int .u8 0, .int .u32 0, .slice none 0 0, .string ⟨#[]⟩], _]) rfl (by simp) (.cell g1 36 #[.int .u8 0, .int .u8 0, .int .u32 0, .slice none 0 0, .string ⟨#[]⟩] (0, 0) _ rfl (OwnS.blk HH.out 0 rfl) Try.underlying36 rfl (by kernel_rfl) (.tmp .nil))) rfl ?_; exact ⟨rfl, below_frm (OwnS.frm HH.out)⟩)

set_option maxRecDepth 100000 in
theorem look_in (w : World) (g : Nat) (A : Option Addr) (l : List Lt) (c : Nat) (room : Int) (h0 : 0 < room) (hg : w.heap[g]? = some (.cells #[.slice A l.length c, .int .i64 room] 54 (0, 0))) (hC : kLt.C w A l.length l) (i : Nat) (hi : i < l.length) (hlb : (l[i]).body.length ≤ 1000000) (hl : l.length ≤ 1000000) :
    Calls Try.prog 16 #[.pointer (some ⟨g, 0, none⟩), .int .i64 (i : Int)] w (fun e w' => ∃ A' c', e = .returned (.tuple #[.agg (cL l[i] (.slice A' l[i].body.length c')).toArray, .int .i64 0]) ∧ Own [Sep.row kU 5 (.slice A' l[i].body.length c') l[i].body] w w') := by
  obtain ⟨ad, Ab, cb, rfl, hr, hcb, k0, k1, k2, k3, k4⟩ := at_Lt hC i hi
  obtain ⟨n, hn⟩ : ∃ n, n = l.length := ⟨_, rfl⟩
  obtain ⟨A, hA⟩ : ∃ A, A = some ad := ⟨_, rfl⟩
  rw [← hn] at hg
  have g0 : 0 ≤ (i : Int) := by omega
  have g1 : (i : Int) < (n : Int) := by omega
  clear hC
  generalize l[i] = x at *
  obtain ⟨f, d, s, bd, tg⟩ := x
  dsimp only at *
  have HR := Aside0.mk hr
  have HG := Aside0.mk hg
  clear hr hg
  subst hA
  have HH : Aside0 (OwnS (fun _ => False) [] w w) := ⟨OwnS.of_own (Own.start w)⟩
  go_enter Try.func16, Try.ntmps16
  go_wp2_with (first
    | ((with_reducible refine gate_dst (N := 4) rfl ?_); refine evS_box (S := fun _ => False) (w0 := w) (As := []) ?_ rfl (cs := #[.int .u8 0, .int .u8 0, .int .u32 0, .slice none 0 0, .string ⟨#[]⟩]) (T := 36) ?_ ?_; (focus ((repeat (first | (with_reducible refine OwnS.alloc ?_ _) | (with_reducible refine OwnS.drewN ?_ _) | (with_reducible refine OwnS.drew ?_))); (with_reducible exact HH.out))); (focus first | (go_simp; done) | (go_simp; rfl)); intro g1 w1 he hh; clear he; have HHx : Aside0 (OwnS (fun _ => False) [Sep.blk g1 #[.int .u8 0, .int .u8 0, .int .u32 0, .slice none 0 0, .string ⟨#[]⟩] 36] w w1) := ⟨hh⟩; clear HH; have HH := HHx; clear HHx; clear hh)
    | (go_at_call 22; refine ownS_call (S := fun _ => False) (w0 := w) (As := [Sep.blk g1 #[.int .u8 0, .int .u8 0, .int .u32 0, .slice none 0 0, .string ⟨#[]⟩] 36]) ?_ ?_; (focus ((repeat (first | (with_reducible refine OwnS.alloc ?_ _) | (with_reducible refine OwnS.drewN ?_ _) | (with_reducible refine OwnS.drew ?_))); (with_reducible exact HH.out))); intro ht; refine (good_calls w1 g (.slice (some ad) n c) room ?_).mono ?_; (focus exact (blk_below HG.out (below_frm (OwnS.frm ht)))); rintro e w2 ⟨rfl, hb⟩; rw [decide_eq_true h0]; have HHx : Aside0 (OwnS (fun _ => False) [Sep.blk g1 #[.int .u8 0, .int .u8 0, .int .u32 0, .slice none 0 0, .string ⟨#[]⟩] 36] w w2) := ⟨OwnS.step ht hb⟩; clear HH; have HH := HHx; clear HHx; clear hb; clear ht; have hc0 : w2.cell? ⟨g, 0, none⟩ = some (.slice (some ad) n c) := (blk_cell (blk_below HG.out (below_frm (OwnS.frm HH.out))) 0).trans rfl; have e0 := pw_cell_below (below_frm (OwnS.frm HH.out)) k0; have e1 := pw_cell_below (below_frm (OwnS.frm HH.out)) k1; have e2 := pw_cell_below (below_frm (OwnS.frm HH.out)) k2; have e3 := pw_cell_below (below_frm (OwnS.frm HH.out)) k3; have e4 := pw_cell_below (below_frm (OwnS.frm HH.out)) k4)
    | (go_at_call 23; refine ownS_call (S := fun _ => False) (w0 := w) (As := [Sep.blk g1 #[.int .u8 0, .int .u8 0, .int .u32 0, .slice none 0 0, .string ⟨#[]⟩] 36]) ?_ ?_; (focus ((repeat (first | (with_reducible refine OwnS.alloc ?_ _) | (with_reducible refine OwnS.drewN ?_ _) | (with_reducible refine OwnS.drew ?_))); (with_reducible exact HH.out))); intro ht; refine (own_walk f d s bd tg Ab cb w2 ?_ hlb).mono ?_; (focus exact (Kd.C_below HR.out (below_frm (OwnS.frm ht)))); rintro e w3 ⟨A1, c1, rfl, ho⟩; have HHx : Aside0 (OwnS (fun _ => False) [Sep.blk g1 #[.int .u8 0, .int .u8 0, .int .u32 0, .slice none 0 0, .string ⟨#[]⟩] 36, Sep.row kU 5 (.slice A1 bd.length c1) bd] w w3) := ⟨OwnS.joinL (S := fun _ => False) (w0 := w) (As := [Sep.blk g1 #[.int .u8 0, .int .u8 0, .int .u32 0, .slice none 0 0, .string ⟨#[]⟩] 36]) (Bs := [Sep.row kU 5 (.slice A1 bd.length c1) bd]) ht ho⟩; clear HH; have HH := HHx; clear HHx; clear ho; clear ht; unfold cL; dsimp only)
    | ((with_reducible refine gate_ (.store 36 (.tmp 4) (.tmp 31)) rfl ?_); refine evS_store (S := fun _ => False) (w0 := w) (As := [Sep.blk g1 #[.int .u8 0, .int .u8 0, .int .u32 0, .slice none 0 0, .string ⟨#[]⟩] 36, Sep.row kU 5 (.slice A1 bd.length c1) bd]) ?_ 0 rfl rfl rfl rfl (by rfl) (.agg #[.int .u8 f, .int .u8 d, .int .u32 s, .slice A1 bd.length c1, .string tg]) (by rfl) [.int .u8 f, .int .u8 d, .int .u32 s, .slice A1 bd.length c1, .string tg] (by rfl) (by kernel_rfl) (by simp) (by simp [Value.oneCell']) ?_; (focus ((repeat (first | (with_reducible refine OwnS.alloc ?_ _) | (with_reducible refine OwnS.drewN ?_ _) | (with_reducible refine OwnS.drew ?_))); (with_reducible exact HH.out))); intro w4 hh; have HHx : Aside0 (OwnS (fun _ => False) [Sep.blk g1 #[.int .u8 f, .int .u8 d, .int .u32 s, .slice A1 bd.length c1, .string tg] 36, Sep.row kU 5 (.slice A1 bd.length c1) bd] w w4) := ⟨hh⟩; clear HH; have HH := HHx; clear HHx; clear hh)
    | fail
    | fail)
  all_goals first | (exfalso; omega) | skip
  refine bodyPost_ret (v := .tuple #[.agg #[.int .u8 f, .int .u8 d, .int .u32 s, .slice A1 bd.length c1, .string tg], .int .i64 0]) (results_list (rs := [.cell 4 36, .tmp 5]) (vs := [.agg #[.int .u8 f, .int .u8 d, .int .u32 s, .slice A1 bd.length c1, .string tg], _]) rfl (by simp) (.cell g1 36 #[.int .u8 f, .int .u8 d, .int .u32 s, .slice A1 bd.length c1, .string tg] (0, 0) _ rfl (OwnS.blk HH.out 0 rfl) Try.underlying36 rfl (by kernel_rfl) (.tmp .nil))) rfl ?_
  exact ⟨A1, c1, rfl, (OwnS.own HH.out).pick 1 rfl⟩
end Go.Proofs.Ytnlpfigdinnboaa.Net
