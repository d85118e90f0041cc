/- Talk: all, cast. -/
import Derived.Test.YtkppilpailbpeaaVotTlkE
namespace Go.Proofs.Ytkppilpailbpeaa.Vot
open Go Go.RowKit Go.Proofs.YtkppilpailbpeaaW.PrintWords Go.Proofs.Ytkppilpailbpeaa.Cnt Go.Proofs.Ytkppilpailbpeaa.Opn Go.Proofs.Ytkppilpailbpeaa.Sep Go.Proofs.Ytkppilpailbpeaa.Obj
set_option linter.unusedVariables false
set_option linter.unusedSimpArgs false

def zUn : Value := .agg #[.int .u8 0, .int .u8 0, .int .i64 0, .string ⟨#[]⟩]
theorem infoUn : (Try.prog.info? TU).map (fun i => (i.zero, i.size, i.bytes)) = some (some zUn, 4, 32) := by kernel_rfl
def castN (f i who : Nat) (kind : Int) (body : ByteArray) : List Und := (List.range' f (i - f)).map (fun d => ⟨d, who, kind, body⟩)
theorem castN_len (f i who : Nat) (kind : Int) (body : ByteArray) : (castN f i who kind body).length = i - f := by simp [castN]
theorem castN_nil (f who : Nat) (kind : Int) (body : ByteArray) : castN f f who kind body = [] := by simp [castN]
theorem castN_succ {f i : Nat} (h : f ≤ i) (who : Nat) (kind : Int) (body : ByteArray) : castN f (i + 1) who kind body = castN f i who kind body ++ [⟨i, who, kind, body⟩] := by
  unfold castN
  rw [show i + 1 - f = (i - f) + 1 by omega, List.range'_1_concat, List.map_append, show f + (i - f) = i by omega]
  rfl
theorem casts_one (n f who : Nat) (kind : Int) (body : ByteArray) : casts n f who [⟨kind, body⟩] = castN f n who kind body := by simp [casts, castN]
set_option maxRecDepth 100000 in
theorem tall_calls (g n : Nat) (w : World) (hn : n ≤ 7) (hc : w.cell? ⟨g, 0, none⟩ = some (.int .i64 (n : Int))) : Calls Try.prog 46 #[.pointer (some ⟨g, 0, none⟩)] w (fun e w' => e = .returned (.int .u16 (((2 ^ n - 1 : Nat)) : Int)) ∧ w' = w) := by
  obtain rfl | rfl | rfl | rfl | rfl | rfl | rfl | rfl : n = 0 ∨ n = 1 ∨ n = 2 ∨ n = 3 ∨ n = 4 ∨ n = 5 ∨ n = 6 ∨ n = 7 := by omega
  all_goals
    go_enter Try.func46, Try.ntmps46
    go_wp2_with fail
    go_ret
    exact ⟨by rfl, rfl⟩
set_option maxHeartbeats 1000000 in
set_option maxRecDepth 100000 in
theorem tcast_calls (S : Nat → Prop) (w : World) (g0 n f who : Nat) (vf vc vt vd : Value) (kind : Int) (body : ByteArray) (A : Option Addr) (c m : Nat) (us : List Und) (hm : us.length = m) (h : OwnS S [Sep.blk g0 #[.int .i64 (n : Int), .int .i64 (f : Int), vf, vc, vt, vd, .slice A m c] 67, wayA (.slice A m c) us] w w) (hn : n ≤ 7) (hfn : f ≤ n) (hul : m ≤ 1000) :
    Calls Try.prog 45 #[.pointer (some ⟨g0, 0, none⟩), .int .u8 (who : Int), .int .i64 kind, .string body] w (fun e w' => ∃ A' c', e = .returned (.tuple #[]) ∧ OwnS S [Sep.blk g0 #[.int .i64 (n : Int), .int .i64 (f : Int), vf, vc, vt, vd, .slice A' (m + (n - f)) c'] 67, wayA (.slice A' (m + (n - f)) c') (us ++ castN f n who kind body)] w w') := by
  have HH : Aside0 (OwnS S [Sep.blk g0 #[.int .i64 (n : Int), .int .i64 (f : Int), vf, vc, vt, vd, .slice A m c] 67, wayA (.slice A m c) us] w w) := ⟨h⟩
  have HM := Aside0.mk hm
  clear h hm
  go_enter Try.func45, Try.ntmps45
  go_wp2_with (first
    | ((with_reducible refine gate_ (.load 3 (.tmp 11)) rfl ?_); refine ev_cell (blk_cell (OwnS.blk (S := S) (w0 := w) (As := [Sep.blk g0 #[.int .i64 (n : Int), .int .i64 (f : Int), vf, vc, vt, vd, .slice A m c] 67, wayA (.slice A m c) us]) ?_ 0 rfl) 1) rfl rfl (by rfl) Try.underlying3 rfl ?_; (focus first | with_reducible exact HH.out | ((with_reducible repeat first | refine OwnS.alloc ?_ _ | refine OwnS.drewN ?_ _ | refine OwnS.drew ?_); with_reducible exact HH.out)))
    | fail
    | fail)
  go_loopw [8] (fun v8 W => ∃ (i m2 : Nat) (A2 : Option Addr) (c2 : Nat) (us2 : List Und), v8 = .int .i64 (i : Int) ∧ f ≤ i ∧ i ≤ n ∧ Aside0 (m2 = m + (i - f)) ∧ Aside0 (us2 = us ++ castN f i who kind body) ∧ Aside0 (us2.length = m2) ∧ Aside0 (OwnS S [Sep.blk g0 #[.int .i64 (n : Int), .int .i64 (f : Int), vf, vc, vt, vd, .slice A2 m2 c2] 67, wayA (.slice A2 m2 c2) us2] w W)) (fun v8 _ => n - (intOf v8).toNat)
  case atStart => exact ⟨f, m, A, c, us, rfl, Nat.le_refl _, hfn, ⟨by omega⟩, ⟨by rw [castN_nil, List.append_nil]⟩, HM, HH⟩
  case round =>
    clear HH
    obtain ⟨i, m2, A2, c2, us2, rfl, hfi, hin, HM2, HU2, HL2, HH⟩ := hrel
    have hw8 : IntKind.u8.wrap (i : Int) = (i : Int) := by rw [IntKind.wrap_u8]; omega
    have hmm : m2 ≤ 1007 := by have := HM2.out; omega
    by_cases hlt : i < n
    · have q1 : (i : Int) < (n : Int) := by omega
      go_wp2_with (first
      | ((with_reducible refine gate_ (.load 3 (.tmp 16)) rfl ?_); refine ev_cell (blk_cell (OwnS.blk (S := S) (w0 := w) (As := [Sep.blk g0 #[.int .i64 (n : Int), .int .i64 (f : Int), vf, vc, vt, vd, .slice A2 m2 c2] 67, wayA (.slice A2 m2 c2) us2]) ?_ 0 rfl) 0) rfl rfl (by rfl) Try.underlying3 rfl ?_; (focus first | with_reducible exact HH.out | ((with_reducible repeat first | refine OwnS.alloc ?_ _ | refine OwnS.drewN ?_ _ | refine OwnS.drew ?_); with_reducible exact HH.out)))
      | ((with_reducible refine gate_ (.load 65 (.tmp 24)) rfl ?_); refine ev_cell (blk_cell (OwnS.blk (S := S) (w0 := w) (As := [Sep.blk g0 #[.int .i64 (n : Int), .int .i64 (f : Int), vf, vc, vt, vd, .slice A2 m2 c2] 67, wayA (.slice A2 m2 c2) us2]) ?_ 0 rfl) 6) rfl rfl (by rfl) Try.underlying65 rfl ?_; (focus first | with_reducible exact HH.out | ((with_reducible repeat first | refine OwnS.alloc ?_ _ | refine OwnS.drewN ?_ _ | refine OwnS.drew ?_); with_reducible exact HH.out)))
      | (at_builtin; refine evW_append (S := S) (w0 := w) (As := [Sep.blk g0 #[.int .i64 (n : Int), .int .i64 (f : Int), vf, vc, vt, vd, .slice A2 m2 c2] 67, wayA (.slice A2 m2 c2) us2]) ?_ 1 rfl (.tmp 25) (.tmp 32) 65 zUn 32 rfl Try.underlying65 infoUn rfl (.slice A2 m2 c2) us2 (⟨i, who, kind, body⟩ : Und) [.int .u8 (i : Int), .int .u8 (who : Int), .int .i64 kind, .string body] rfl rfl (by rfl) ?_ ?_ ?_ ?_; (focus first | with_reducible exact HH.out | ((with_reducible repeat first | refine OwnS.alloc ?_ _ | refine OwnS.drewN ?_ _ | refine OwnS.drew ?_); with_reducible exact HH.out)); (focus first | rfl | (simp [Act.eval]; done)); (focus have := HL2.out; omega); (focus have := HL2.out; unfold maxLen; omega); intro A9 c9 w11 hh; have HHx : Aside0 (OwnS S [Sep.blk g0 #[.int .i64 (n : Int), .int .i64 (f : Int), vf, vc, vt, vd, .slice A2 m2 c2] 67, wayA (.slice A9 (us2.length + 1) c9) (us2 ++ [(⟨i, who, kind, body⟩ : Und)])] w w11) := ⟨hh⟩; clear HH; have HH := HHx; clear HHx; clear hh)
      | ((with_reducible refine gate_ (.store 65 (.tmp 35) (.tmp 33)) rfl ?_); refine evS_store (S := S) (w0 := w) (As := [Sep.blk g0 #[.int .i64 (n : Int), .int .i64 (f : Int), vf, vc, vt, vd, .slice A2 m2 c2] 67, wayA (.slice A9 (us2.length + 1) c9) (us2 ++ [(⟨i, who, kind, body⟩ : Und)])]) ?_ 0 rfl rfl rfl rfl (by rfl) (.slice A9 (us2.length + 1) c9) (by rfl) [.slice A9 (us2.length + 1) c9] (by rfl) (by kernel_rfl) (by simp) (by simp [Value.oneCell']) ?_; (focus first | with_reducible exact HH.out | ((with_reducible repeat first | refine OwnS.alloc ?_ _ | refine OwnS.drewN ?_ _ | refine OwnS.drew ?_); with_reducible exact HH.out)); intro w12 hh; have HHx : Aside0 (OwnS S [Sep.blk g0 #[.int .i64 (n : Int), .int .i64 (f : Int), vf, vc, vt, vd, .slice A9 (us2.length + 1) c9] 67, wayA (.slice A9 (us2.length + 1) c9) (us2 ++ [(⟨i, who, kind, body⟩ : Und)])] w w12) := ⟨hh⟩; clear HH; have HH := HHx; clear HHx; clear hh)
      | fail
      | fail)
      go_roundw
      case rel =>
        have h9 := HH.out
        rw [HL2.out, HU2.out, List.append_assoc, ← castN_succ hfi] at h9
        exact ⟨i + 1, m2 + 1, A9, c9, _, by go_num, by omega, by omega, ⟨by have := HM2.out; omega⟩, ⟨rfl⟩, ⟨by rw [List.length_append, castN_len, HM2.out, HM.out]; omega⟩, ⟨h9⟩⟩
      case measure => simp [intOf]; omega
    · have q1 : ¬ ((i : Int) < (n : Int)) := by omega
      have hie : i = n := by omega
      go_wp2_with (first
      | ((with_reducible refine gate_ (.load 3 (.tmp 16)) rfl ?_); refine ev_cell (blk_cell (OwnS.blk (S := S) (w0 := w) (As := [Sep.blk g0 #[.int .i64 (n : Int), .int .i64 (f : Int), vf, vc, vt, vd, .slice A2 m2 c2] 67, wayA (.slice A2 m2 c2) us2]) ?_ 0 rfl) 0) rfl rfl (by rfl) Try.underlying3 rfl ?_; (focus first | with_reducible exact HH.out | ((with_reducible repeat first | refine OwnS.alloc ?_ _ | refine OwnS.drewN ?_ _ | refine OwnS.drew ?_); with_reducible exact HH.out)))
      | ((with_reducible refine gate_ (.load 65 (.tmp 24)) rfl ?_); refine ev_cell (blk_cell (OwnS.blk (S := S) (w0 := w) (As := [Sep.blk g0 #[.int .i64 (n : Int), .int .i64 (f : Int), vf, vc, vt, vd, .slice A2 m2 c2] 67, wayA (.slice A2 m2 c2) us2]) ?_ 0 rfl) 6) rfl rfl (by rfl) Try.underlying65 rfl ?_; (focus first | with_reducible exact HH.out | ((with_reducible repeat first | refine OwnS.alloc ?_ _ | refine OwnS.drewN ?_ _ | refine OwnS.drew ?_); with_reducible exact HH.out)))
      | (at_builtin; refine evW_append (S := S) (w0 := w) (As := [Sep.blk g0 #[.int .i64 (n : Int), .int .i64 (f : Int), vf, vc, vt, vd, .slice A2 m2 c2] 67, wayA (.slice A2 m2 c2) us2]) ?_ 1 rfl (.tmp 25) (.tmp 32) 65 zUn 32 rfl Try.underlying65 infoUn rfl (.slice A2 m2 c2) us2 (⟨i, who, kind, body⟩ : Und) [.int .u8 (i : Int), .int .u8 (who : Int), .int .i64 kind, .string body] rfl rfl (by rfl) ?_ ?_ ?_ ?_; (focus first | with_reducible exact HH.out | ((with_reducible repeat first | refine OwnS.alloc ?_ _ | refine OwnS.drewN ?_ _ | refine OwnS.drew ?_); with_reducible exact HH.out)); (focus first | rfl | (simp [Act.eval]; done)); (focus have := HL2.out; omega); (focus have := HL2.out; unfold maxLen; omega); intro A9 c9 w11 hh; have HHx : Aside0 (OwnS S [Sep.blk g0 #[.int .i64 (n : Int), .int .i64 (f : Int), vf, vc, vt, vd, .slice A2 m2 c2] 67, wayA (.slice A9 (us2.length + 1) c9) (us2 ++ [(⟨i, who, kind, body⟩ : Und)])] w w11) := ⟨hh⟩; clear HH; have HH := HHx; clear HHx; clear hh)
      | ((with_reducible refine gate_ (.store 65 (.tmp 35) (.tmp 33)) rfl ?_); refine evS_store (S := S) (w0 := w) (As := [Sep.blk g0 #[.int .i64 (n : Int), .int .i64 (f : Int), vf, vc, vt, vd, .slice A2 m2 c2] 67, wayA (.slice A9 (us2.length + 1) c9) (us2 ++ [(⟨i, who, kind, body⟩ : Und)])]) ?_ 0 rfl rfl rfl rfl (by rfl) (.slice A9 (us2.length + 1) c9) (by rfl) [.slice A9 (us2.length + 1) c9] (by rfl) (by kernel_rfl) (by simp) (by simp [Value.oneCell']) ?_; (focus first | with_reducible exact HH.out | ((with_reducible repeat first | refine OwnS.alloc ?_ _ | refine OwnS.drewN ?_ _ | refine OwnS.drew ?_); with_reducible exact HH.out)); intro w12 hh; have HHx : Aside0 (OwnS S [Sep.blk g0 #[.int .i64 (n : Int), .int .i64 (f : Int), vf, vc, vt, vd, .slice A9 (us2.length + 1) c9] 67, wayA (.slice A9 (us2.length + 1) c9) (us2 ++ [(⟨i, who, kind, body⟩ : Und)])] w w12) := ⟨hh⟩; clear HH; have HH := HHx; clear HHx; clear hh)
      | fail
      | fail)
      refine bodyPost_end (v := .tuple #[]) (results_list (rs := []) (vs := []) rfl (by simp) .nil) rfl ?_
      subst hie
      have h9 := HH.out
      rw [HU2.out, HM2.out] at h9
      exact ⟨rfl, A2, c2, h9⟩
end Go.Proofs.Ytkppilpailbpeaa.Vot
