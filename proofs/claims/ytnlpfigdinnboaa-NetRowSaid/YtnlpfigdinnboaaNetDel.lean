/- slices.Delete of one letter. -/
import Derived.Test.YtnlpfigdinnboaaNetLook
import Derived.Deep.RegionLaw
namespace Go.Proofs.Ytnlpfigdinnboaa.Net
open Go Go.RowKit Go.Proofs.YtnlpfigdinnboaaW.PrintWords Go.Proofs.Ytnlpfigdinnboaa.Sep Go.Proofs.Ytnlpfigdinnboaa.Obj
set_option linter.unusedVariables false
set_option linter.unusedSimpArgs false

theorem infoLt : (Try.prog.info? 36).map (fun i => (i.zero, i.size, i.bytes)) = some (some (.agg #[.int .u8 0, .int .u8 0, .int .u32 0, .slice none 0 0, .string ⟨#[]⟩]), 5, 48) := by kernel_rfl
theorem infoS : (Try.prog.info? 36).map (·.size) = some kLt.sz := by kernel_rfl
theorem zeroLt (w : World) : (zeroValue 36).run Try.prog w = .ok (.agg #[.int .u8 0, .int .u8 0, .int .u32 0, .slice none 0 0, .string ⟨#[]⟩]) w := by kernel_rfl
theorem del_at (g c i : Nat) : (if c = i + 1 then some (⟨g, 0, none⟩ : Addr) else some ⟨g, (i + 1) * 5, none⟩) = if c = i + 1 then some ⟨g, 0, none⟩ else (some (⟨g, 0, none⟩ : Addr)).map (·.add ((i + 1) * kLt.sz)) := by
  rw [Option.map_some, add_plain]; rfl
set_option maxHeartbeats 2000000 in
set_option maxRecDepth 100000 in
theorem delete_calls (S : Nat → Prop) (g n c : Nat) (xs : List Lt) (w : World) (hT : OwnS S [Sep.row kLt 36 (.slice (some ⟨g, 0, none⟩) n c) xs] w w) (i : Nat) (hi : i < n) (hnc : n ≤ c) (hc : c ≤ 9223372036854775807) :
    Calls Try.prog 21 #[.slice (some ⟨g, 0, none⟩) n c, .int .i64 (i : Int), .int .i64 ((i + 1 : Nat) : Int)] w (fun e w' => e = .returned (.slice (some ⟨g, 0, none⟩) (n - 1) c) ∧ OwnS S [Sep.row kLt 36 (.slice (some ⟨g, 0, none⟩) (n - 1) c) (xs.eraseIdx i)] w w') := by
  have HH := Aside0.mk hT
  clear hT
  have hne : ((i : Int) == ((i + 1 : Nat) : Int)) = false := by simp; omega
  have g1 : 0 ≤ (i : Int) := by omega
  have g2 : (i : Int) ≤ ((i + 1 : Nat) : Int) := by omega
  have g3 : ((i + 1 : Nat) : Int) ≤ (n : Int) := by omega
  have g4 : (i : Int) ≤ (c : Int) := by omega
  have g5 : ((i + 1 : Nat) : Int) ≤ (c : Int) := by omega
  have g8 : 0 ≤ (i : Int) + 1 := by omega
  have g9 : (i : Int) + 1 ≤ (n : Int) := by omega
  have g10 : (i : Int) + 1 ≤ (c : Int) := by omega
  have g6 : i ≤ c := by omega
  have g7 : i + 1 ≤ c := by omega
  go_enter Try.func21, Try.ntmps21
  go_wp2_with fail
  go_region_law (refine evS_delete_step kLt (S := S) (w0 := w) (As := [Sep.row kLt 36 (.slice (some ⟨g, 0, none⟩) n c) xs]) ?_ 0 rfl (.tmp 22) (.tmp 25) 49 36 rfl Try.underlying49 infoS (n := n) (c := c) (k := i) (A := if c = i + 1 then some ⟨g, 0, none⟩ else some ⟨g, (i + 1) * 5, none⟩) (m := n - (i + 1)) (c2 := c - (i + 1)) rfl ?_ ?_ (del_at g c i) rfl hi ?_; (focus first | (with_reducible exact HH.out) | ((repeat (first | (with_reducible refine OwnS.alloc ?_ _) | (with_reducible refine OwnS.drewN ?_ _) | (with_reducible refine OwnS.drew ?_))); (with_reducible exact HH.out))); (focus first | rfl | (simp [Act.eval]; done) | fail); (focus first | rfl | (simp [Act.eval]; done) | fail); intro w2 hh; have HHx : Aside0 (OwnS S [Sep.row kLt 36 (.slice (some ⟨g, 0, none⟩) (n - 1) c) (xs.eraseIdx i)] w w2) := ⟨hh⟩; clear HH; have HH := HHx; clear HHx; clear hh)
  go_wp2_with (first
    | ((with_reducible refine gate_ (.call { callee := .builtin .clear, args := #[.tmp 31], argTypes := #[49] }) rfl ?_); refine evS_clear kLt (S := S) (w0 := w) (As := [Sep.row kLt 36 (.slice (some ⟨g, 0, none⟩) (n - 1) c) (xs.eraseIdx i)]) ?_ 0 rfl rfl (.tmp 31) 49 36 rfl (.agg #[.int .u8 0, .int .u8 0, .int .u32 0, .slice none 0 0, .string ⟨#[]⟩]) Try.underlying49 zeroLt rfl (by decide) (n := n - 1) (c := c) (q := n - (n - 1)) (c2 := c - (n - 1)) rfl ?_ ?_ ?_ ?_; (focus first | (with_reducible exact HH.out) | ((repeat (first | (with_reducible refine OwnS.alloc ?_ _) | (with_reducible refine OwnS.drewN ?_ _) | (with_reducible refine OwnS.drew ?_))); (with_reducible exact HH.out))); (focus first | rfl | (simp [Act.eval]; done) | fail); (focus omega); (focus omega); intro w3 hh; have HHx : Aside0 (OwnS S [Sep.row kLt 36 (.slice (some ⟨g, 0, none⟩) (n - 1) c) (xs.eraseIdx i)] w w3) := ⟨hh⟩; clear HH; have HH := HHx; clear HHx; clear hh)
    | fail)
  all_goals (go_ret; first | exact ⟨rfl, HH.out⟩ | (subst_vars; exact ⟨rfl, HH.out⟩))
end Go.Proofs.Ytnlpfigdinnboaa.Net
