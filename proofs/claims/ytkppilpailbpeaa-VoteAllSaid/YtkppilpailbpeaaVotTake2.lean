/- Votes: the walk of Take at a Send. -/
import Derived.Test.YtkppilpailbpeaaVotTake
namespace Go.Proofs.Ytkppilpailbpeaa.Vot
open Go Go.RowKit Go.Proofs.YtkppilpailbpeaaW.PrintWords Go.Proofs.Ytkppilpailbpeaa.Cnt Go.Proofs.Ytkppilpailbpeaa.Opn
set_option linter.unusedVariables false
set_option linter.unusedSimpArgs false

set_option maxHeartbeats 400000 in
set_option maxRecDepth 100000 in
theorem take_send (ec rc dc : Bool) (E R : List Bal) (AE : Option Addr) (cE : Nat) (AR : Option Addr) (cR : Nat) (m : Nat) (fr kind who : Int) (body : ByteArray) (w : World) (hE : kB.C w AE E.length E) (hR : kB.C w AR R.length R) (hcE : E.length ≤ cE) (hcR : R.length ≤ cR)
    (hlE : E.length ≤ 900000) (hlR : R.length ≤ 900000) (hm : m < 65536) (hf0 : 0 ≤ fr) (hf1 : fr ≤ 255) (hw0 : 0 ≤ who) (hw1 : who ≤ 255) (hk0 : -9223372036854775808 ≤ kind) (hk1 : kind ≤ 9223372036854775807) (hbs : body.size ≤ 9223372036854775807) (g0 : ¬ kind < 1) (g1 : ¬ 3 < kind) (g2 : ¬ 1000 < body.size) (hW : hasB m who = true) (hF : hasB m fr = true) (hk : kind = 1) (hwf : who = fr) (he : ec = false) :
    Calls Try.prog 14 #[.agg #[.bool ec, .bool rc, .bool dc, .slice AE E.length cE, .slice AR R.length cR], .int .u16 (m : Int), .int .u8 fr, .int .i64 kind, .int .u8 who, .string body] w (TakeR (⟨⟨true, rc, dc, E, R⟩, [⟨2, body⟩], ⟨#[]⟩, false, 0⟩) w) := by
  have HE := Aside0.mk hE
  have HR := Aside0.mk hR
  clear hE hR
  have hlE : E.length ≤ 1000000 := by omega
  have hlR : R.length ≤ 1000000 := by omega
  have HB := Aside0.mk (Below.refl w.heap.size w)
  subst hk
  subst he
  subst hwf
  have tok1 : True := trivial
  have HW := Aside0.mk hW
  clear hW
  have hne : (who != who) = false := by simp
  go_enter Try.func14, Try.ntmps14
  go_wp2_with (first
    | (go_at_call 32; refine (size_calls m _ hm).mono ?_; rintro e w1 ⟨rfl, m1, rfl⟩)
    | (go_at_call 33; have _t := tok1; clear _t tok1; refine (has_calls m who _ hm hw0).mono ?_; rw [HW.out]; rintro e w3 ⟨rfl, m3, rfl⟩)
    | (go_at_call 33; refine (has_calls m who _ hm hw0).mono ?_; rw [HW.out]; rintro e w4 ⟨rfl, m4, rfl⟩)
    | (refine wpList_load_row rfl 35 (.tmp 6) rfl w.heap.size rfl 35 #[.bool false, .bool rc, .bool dc, .slice AE E.length cE, .slice AR R.length cR] (0, 0) _ (by repeat (first | (with_reducible exact HS.out) | (with_reducible refine blk_drew ?_) | (with_reducible refine blk_drewN ?_ _) | (with_reducible refine blk_newg ?_; (simp; done)) | (with_reducible refine blk_alloc ?_ _))) Try.underlying35 rfl (by kernel_rfl) ?_)
    | (go_at_call 31; refine (own_comp false rc dc E R AE cE AR cR _ (Kd.C_below HE.out (by repeat (first | (with_reducible exact HB.out) | (with_reducible refine below_alloc ?_ _) | (with_reducible refine pw_below_drewN ?_ _) | (with_reducible refine below_drew ?_)))) (Kd.C_below HR.out (by repeat (first | (with_reducible exact HB.out) | (with_reducible refine below_alloc ?_ _) | (with_reducible refine pw_below_drewN ?_ _) | (with_reducible refine below_drew ?_)))) hlE hlR).mono ?_; rintro e w5 ⟨A1, c1, A2, c2, rfl, hC1, hC2, hb⟩; have HS : Aside0 (w5.heap[w.heap.size]? = some (.cells #[.bool false, .bool rc, .bool dc, .slice AE E.length cE, .slice AR R.length cR] 35 (0, 0))) := ⟨blk_below (by repeat (first | (with_reducible exact HS.out) | (with_reducible refine blk_drew ?_) | (with_reducible refine blk_drewN ?_ _) | (with_reducible refine blk_newg ?_; (simp; done)) | (with_reducible refine blk_alloc ?_ _))) hb⟩; have HT : Aside0 (w5.heap[w.heap.size + 1]? = some (.cells #[.bool false, .bool false, .bool false, .slice none 0 0, .slice none 0 0] 35 (0, 0))) := ⟨blk_below (by repeat (first | (with_reducible exact HT.out) | (with_reducible refine blk_drew ?_) | (with_reducible refine blk_drewN ?_ _) | (with_reducible refine blk_newg ?_; (simp; done)) | (with_reducible refine blk_alloc ?_ _))) hb⟩; have HBx : Aside0 (Below w.heap.size w w5) := ⟨below_back hb (by repeat (first | (with_reducible exact HB.out) | (with_reducible refine below_alloc ?_ _) | (with_reducible refine pw_below_drewN ?_ _) | (with_reducible refine below_drew ?_)))⟩; clear HB hb; have HB := HBx; clear HBx; have HC1 := Aside0.mk hC1; have HC2 := Aside0.mk hC2; have lt5 := blk_lt HT.out; clear hC1 hC2)
    | (refine gate_ (.store 35 (.tmp 12) (.tmp 94)) rfl ?_; refine wpList_store_row rfl 35 (.tmp 12) (.tmp 94) rfl (w.heap.size + 1) #[.bool true, .bool rc, .bool dc, (.slice A1 E.length c1), (.slice A2 R.length c2)] rfl rfl 35 #[.bool false, .bool false, .bool false, .slice none 0 0, .slice none 0 0] (by repeat (first | (with_reducible exact HT.out) | (with_reducible refine blk_drew ?_) | (with_reducible refine blk_drewN ?_ _) | (with_reducible refine blk_newg ?_; (simp; done)) | (with_reducible refine blk_alloc ?_ _))) (by kernel_rfl) rfl (by simp [Value.oneCell']) ?_)
    | fail)
  have HT3 := blk_alloc (blk_alloc HT.out (.cells #[.bool true, .bool rc, .bool dc, .slice A1 E.length c1, .slice A2 R.length c2] 35)) (.cells #[.int .i64 2, .string body] 72)
  refine bodyPost_ret (v := .tuple #[.agg #[.bool true, .bool rc, .bool dc, .slice A1 E.length c1, .slice A2 R.length c2], .slice (some ⟨w5.heap.size + 1, 0, none⟩) 1 1, .string ⟨#[]⟩, .bool false, .int .i64 0]) (results_list (rs := [.cell 12 35, .tmp 13, .tmp 14, .tmp 15, .tmp 16]) (vs := [.agg #[.bool true, .bool rc, .bool dc, .slice A1 E.length c1, .slice A2 R.length c2], _, _, _, _]) rfl (by simp) (.cell (w.heap.size + 1) 35 #[.bool true, .bool rc, .bool dc, .slice A1 E.length c1, .slice A2 R.length c2] (0, 0) _ rfl (setRow_heap _ _ _ _ _ _ HT3) Try.underlying35 rfl (by kernel_rfl) (.tmp (.tmp (.tmp (.tmp .nil)))))) rfl ⟨_, _, _, rfl, CaseM.mk' (RB_row (Kd.R_alloc (Kd.R_alloc HC1.out _) _) HT3 (by decide) _) (RB_row (Kd.R_alloc (Kd.R_alloc HC2.out _) _) HT3 (by decide) _), RO_row ?_ HT3 (by decide) _, below_setRow (below_alloc (below_alloc HB.out _) _) (by omega) _⟩
  simpa using RO_lit (w5.alloc (.cells #[.bool true, .bool rc, .bool dc, .slice A1 E.length c1, .slice A2 R.length c2] 35)) 2 body
end Go.Proofs.Ytkppilpailbpeaa.Vot
