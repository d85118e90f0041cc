/- The calls on a net as an assertion. -/
import Derived.Test.YtnlpfigdinnboaaNetRef2
namespace Go.Proofs.Ytnlpfigdinnboaa.Net
open Go Go.RowKit Go.Proofs.YtnlpfigdinnboaaW.PrintWords Go.Proofs.Ytnlpfigdinnboaa.Sep Go.Proofs.Ytnlpfigdinnboaa.Obj
set_option linter.unusedVariables false
set_option linter.unusedSimpArgs false

theorem len_at {w : World} {g : Nat} {l : List Lt} {room : Int} {T : Nat → Prop} (hP : (netA g l room).P w T) (h0 : 0 < room) : Calls Try.prog 20 #[.pointer (some ⟨g, 0, none⟩)] w (Kept (.int .i64 (l.length : Int)) w) := by
  obtain ⟨A, c, hg, _⟩ := netA_blk hP
  exact len_calls w g A l.length c room h0 hg
theorem look_at {w : World} {g : Nat} {l : List Lt} {room : Int} {T : Nat → Prop} (hP : (netA g l room).P w T) (h0 : 0 < room) (i : Nat) (hi : i < l.length) (hlb : (l[i]).body.length ≤ 1000000) (hl : l.length ≤ 1000000) :
    Calls Try.prog 16 #[.pointer (some ⟨g, 0, none⟩), .int .i64 (i : Int)] w (fun e w' => ∃ A' c', e = .returned (.tuple #[.agg (cL l[i] (.slice A' l[i].body.length c')).toArray, .int .i64 0]) ∧ Own [Sep.row kU 5 (.slice A' l[i].body.length c') l[i].body] w w') := by
  obtain ⟨A, c, hg, hC⟩ := netA_blk hP
  exact look_in w g A l c room h0 hg hC i hi hlb hl
theorem says_out {w : World} {g : Nat} {l : List Lt} {room : Int} {T : Nat → Prop} (hP : (netA g l room).P w T) (h0 : 0 < room) (at_ : Int) (hat : ¬ (0 ≤ at_ ∧ at_ < (l.length : Int))) : Says (.pointer (some ⟨g, 0, none⟩)) at_ 8 w := by
  obtain ⟨A, c, hg, _⟩ := netA_blk hP
  intro W hb
  exact look_out W at_ g A l.length c room h0 (blk_below hg hb) hat
theorem says_nil (w : World) (at_ : Int) : Says (.pointer none) at_ 1 w := fun W _ => look_nil W at_
theorem says_zero (w : World) (at_ : Int) (g : Nat) (v : Value) (room : Int) (h0 : ¬ 0 < room) (hg : w.heap[g]? = some (.cells #[v, .int .i64 room] 54 (0, 0))) : Says (.pointer (some ⟨g, 0, none⟩)) at_ 1 w := fun W hb => look_zero W at_ g v room h0 (blk_below hg hb)
theorem say {p : Value} {at_ er : Int} {w : World} (h : Says p at_ er w) : Calls Try.prog 16 #[p, .int .i64 at_] w (fun e w' => e = .returned (.tuple #[(Value.agg #[.int .u8 0, .int .u8 0, .int .u32 0, .slice none 0 0, .string ⟨#[]⟩] : Value), .int .i64 er]) ∧ Below w.heap.size w w') := h w (Below.refl _ _)
end Go.Proofs.Ytnlpfigdinnboaa.Net
