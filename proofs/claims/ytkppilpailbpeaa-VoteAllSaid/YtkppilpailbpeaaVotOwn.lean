/- Votes: the walks of own, of Take's closure, of ready. -/
import Derived.Test.YtkppilpailbpeaaVotFns
import Derived.Deep.RegionWith
import Derived.Laws.CopyOwn
namespace Go.Proofs.Ytkppilpailbpeaa.Vot
open Go Go.RowKit Go.Proofs.YtkppilpailbpeaaW.PrintWords Go.Proofs.Ytkppilpailbpeaa.Cnt Go.Proofs.Ytkppilpailbpeaa.Opn
set_option linter.unusedVariables false
set_option linter.unusedSimpArgs false

theorem blk_newg {w : World} {o : Obj} {g : Nat} (h : g = w.heap.size) : (w.alloc o).heap[g]? = some o := by
  subst h
  exact blk_new w o
theorem R_row {α : Type} {d : Kd α} {e : Nat} {w : World} {base : Nat} {ok : Nat → Prop} {v : Value} {xs : List α} (h : d.R e w base ok v xs) {g t : Nat} {cells : Array Value} (hb : w.heap[g]? = some (.cells cells t (0, 0))) (ht : ∀ q, q ∈ e :: d.E → q ≠ t) (cs : Array Value) : d.R e (w.setRow g cs) base (fun k => ok k ∧ k ≠ g) v xs :=
  Kd.R_step (Kd.R_types h hb ht) (fun k hk _ => setRow_other w g k cs hk.2)
theorem tyB' : ∀ q, q ∈ 77 :: kB.E → q = 77 := by
  intro q hq
  simpa [kB, Kd.iso, Kd.pair, Kd.string, Kd.int, Kd.scalar] using hq
theorem tyB : ∀ q, q ∈ 77 :: kB.E → q ≠ 35 := by
  intro q hq
  have : q = 77 := by simpa [kB, Kd.iso, Kd.pair, Kd.string, Kd.int, Kd.scalar] using hq
  subst this
  decide
/-- v reads as a case -/
def CaseV (w : World) (v : Value) (c : Cas) : Prop := ∃ AE cE AR cR, v = .agg #[.bool c.echoed, .bool c.readied, .bool c.done, .slice AE c.echoes.length cE, .slice AR c.readies.length cR] ∧
  c.echoes.length ≤ cE ∧ kB.C w AE c.echoes.length c.echoes ∧ c.readies.length ≤ cR ∧ kB.C w AR c.readies.length c.readies
theorem CaseV.below {w w' : World} {v : Value} {c : Cas} (h : CaseV w v c) (hb : Below w.heap.size w w') : CaseV w' v c := by
  obtain ⟨AE, cE, AR, cR, e, h1, h2, h3, h4⟩ := h
  exact ⟨AE, cE, AR, cR, e, h1, Kd.C_below h2 hb, h3, Kd.C_below h4 hb⟩
abbrev RB (w : World) (v : Value) (l : List Bal) : Prop := kB.R 77 w 0 (fun _ => True) v l
theorem RB_row {w : World} {v : Value} {l : List Bal} (h : RB w v l) {g t : Nat} {cells : Array Value} (hb : w.heap[g]? = some (.cells cells t (0, 0))) (ht : 77 ≠ t) (cs : Array Value) : RB (w.setRow g cs) v l :=
  Kd.R_mono (R_row h hb (fun q hq => by rw [tyB' q hq]; exact ht) cs) (fun _ _ => trivial)
theorem RB_set {w : World} {v : Value} {l : List Bal} (h : RB w v l) {g t : Nat} {cells : Array Value} (hb : w.heap[g]? = some (.cells cells t (0, 0))) (ht : 77 ≠ t) (j : Nat) (u : Value) : RB (w.setCell ⟨g, j, none⟩ u) v l :=
  Kd.R_mono (Kd.R_set h hb (fun q hq => by rw [tyB' q hq]; exact ht) j u) (fun _ _ => trivial)
/-- v is a case of its own -/
def CaseM (w : World) (v : Value) (c : Cas) : Prop := ∃ A1 c1 A2 c2, v = .agg #[.bool c.echoed, .bool c.readied, .bool c.done, .slice A1 c.echoes.length c1, .slice A2 c.readies.length c2] ∧ RB w (.slice A1 c.echoes.length c1) c.echoes ∧ RB w (.slice A2 c.readies.length c2) c.readies
theorem CaseM.below {w w' : World} {v : Value} {c : Cas} (h : CaseM w v c) (hb : Below w.heap.size w w') : CaseM w' v c := by
  obtain ⟨A1, c1, A2, c2, e, h1, h2⟩ := h
  exact ⟨A1, c1, A2, c2, e, Kd.R_below h1 hb, Kd.R_below h2 hb⟩
theorem CaseM.reads {w : World} {v : Value} {c : Cas} (h : CaseM w v c) : CaseV w v c := by
  obtain ⟨A1, c1, A2, c2, e, h1, h2⟩ := h
  obtain ⟨_, l1, r1⟩ := Kd.R_reads' h1
  obtain ⟨_, l2, r2⟩ := Kd.R_reads' h2
  exact ⟨A1, c1, A2, c2, e, l1, r1, l2, r2⟩
/-- Hands back a case of its own; what was there is as it was. -/
def CaseR (c : Cas) (w : World) (en : Ending) (w' : World) : Prop := ∃ v, en = .returned v ∧ CaseM w' v c ∧ Below w.heap.size w w'

set_option maxHeartbeats 1000000 in
set_option maxRecDepth 100000 in
theorem own_calls (c : Cas) (AE : Option Addr) (cE : Nat) (AR : Option Addr) (cR : Nat) (w : World) (hE : kB.C w AE c.echoes.length c.echoes) (hR : kB.C w AR c.readies.length c.readies) (hlE : c.echoes.length ≤ 1000000) (hlR : c.readies.length ≤ 1000000) :
    Calls Try.prog 31 #[.agg #[.bool c.echoed, .bool c.readied, .bool c.done, .slice AE c.echoes.length cE, .slice AR c.readies.length cR]] w (CaseR c w) := by
  have HE := Aside0.mk hE
  have HR := Aside0.mk hR
  clear hE hR
  have HB := Aside0.mk (Below.refl w.heap.size w)
  go_enter Try.func31, Try.ntmps31
  go_wp2_with fail
  go_region_with (first
    | (go_at_call 49; (with_reducible refine (clone_calls AE cE c.echoes _ (Kd.C_below HE.out (by repeat (first | (with_reducible exact HB.out) | (with_reducible refine below_alloc ?_ _) | (with_reducible refine pw_below_drewN ?_ _) | (with_reducible refine below_drew ?_)))) hlE).mono ?_); rintro e wE ⟨vE, rfl, ho, hb⟩; obtain ⟨A1E, c1E, ev⟩ := Kd.R_slice ho; subst ev; have HOE := Aside0.mk (Kd.R_lower ho (Nat.zero_le _)); clear ho; (try (have HOx : Aside0 (kB.R 77 wE 0 (fun _ => True) (.slice A1R c.readies.length c1R) c.readies) := ⟨Kd.R_below (by repeat (first | (with_reducible exact HOR.out) | (with_reducible refine Kd.R_alloc ?_ _) | (with_reducible refine Kd.R_drewN ?_ _) | (with_reducible refine Kd.R_drew ?_))) hb⟩; clear HOR; have HOR := HOx; clear HOx)); have HBx : Aside0 (Below w.heap.size w wE) := ⟨below_back hb (by repeat (first | (with_reducible exact HB.out) | (with_reducible refine below_alloc ?_ _) | (with_reducible refine pw_below_drewN ?_ _) | (with_reducible refine below_drew ?_)))⟩; have HSx : Aside0 (wE.heap[w.heap.size]? = some (.cells #[.bool c.echoed, .bool c.readied, .bool c.done, .slice AE c.echoes.length cE, .slice AR c.readies.length cR] 35 (0, 0))) := ⟨blk_below (by repeat (first | (with_reducible exact HS.out) | (with_reducible refine blk_drew ?_) | (with_reducible refine blk_drewN ?_ _) | (with_reducible refine blk_newg ?_; (simp; done)) | (with_reducible refine blk_alloc ?_ _))) hb⟩; have HTx : Aside0 (wE.heap[w.heap.size + 1]? = some (.cells #[.bool false, .bool false, .bool false, .slice none 0 0, .slice none 0 0] 35 (0, 0))) := ⟨blk_below (by repeat (first | (with_reducible exact HT.out) | (with_reducible refine blk_drew ?_) | (with_reducible refine blk_drewN ?_ _) | (with_reducible refine blk_newg ?_; (simp; done)) | (with_reducible refine blk_alloc ?_ _))) hb⟩; (try clear a3 a4 f3 f4 lt); have a3 : wE.cell? ⟨w.heap.size, 3, none⟩ = some (.slice AE c.echoes.length cE) := blk_cell HSx.out 3; have a4 : wE.cell? ⟨w.heap.size, 4, none⟩ = some (.slice AR c.readies.length cR) := blk_cell HSx.out 4; have f3 := blk_frozen HSx.out 3; have f4 := blk_frozen HSx.out 4; have lt := blk_lt HTx.out; clear HB hb; (try clear HS HT); have HB := HBx; have HS := HSx; have HT := HTx; clear HBx HSx HTx)
    | (go_at_call 49; (with_reducible refine (clone_calls AR cR c.readies _ (Kd.C_below HR.out (by repeat (first | (with_reducible exact HB.out) | (with_reducible refine below_alloc ?_ _) | (with_reducible refine pw_below_drewN ?_ _) | (with_reducible refine below_drew ?_)))) hlR).mono ?_); rintro e wR ⟨vR, rfl, ho, hb⟩; obtain ⟨A1R, c1R, ev⟩ := Kd.R_slice ho; subst ev; have HOR := Aside0.mk (Kd.R_lower ho (Nat.zero_le _)); clear ho; (try (have HOx : Aside0 (kB.R 77 wR 0 (fun _ => True) (.slice A1E c.echoes.length c1E) c.echoes) := ⟨Kd.R_below (by repeat (first | (with_reducible exact HOE.out) | (with_reducible refine Kd.R_alloc ?_ _) | (with_reducible refine Kd.R_drewN ?_ _) | (with_reducible refine Kd.R_drew ?_))) hb⟩; clear HOE; have HOE := HOx; clear HOx)); have HBx : Aside0 (Below w.heap.size w wR) := ⟨below_back hb (by repeat (first | (with_reducible exact HB.out) | (with_reducible refine below_alloc ?_ _) | (with_reducible refine pw_below_drewN ?_ _) | (with_reducible refine below_drew ?_)))⟩; have HSx : Aside0 (wR.heap[w.heap.size]? = some (.cells #[.bool c.echoed, .bool c.readied, .bool c.done, .slice AE c.echoes.length cE, .slice AR c.readies.length cR] 35 (0, 0))) := ⟨blk_below (by repeat (first | (with_reducible exact HS.out) | (with_reducible refine blk_drew ?_) | (with_reducible refine blk_drewN ?_ _) | (with_reducible refine blk_newg ?_; (simp; done)) | (with_reducible refine blk_alloc ?_ _))) hb⟩; have HTx : Aside0 (wR.heap[w.heap.size + 1]? = some (.cells #[.bool false, .bool false, .bool false, .slice none 0 0, .slice none 0 0] 35 (0, 0))) := ⟨blk_below (by repeat (first | (with_reducible exact HT.out) | (with_reducible refine blk_drew ?_) | (with_reducible refine blk_drewN ?_ _) | (with_reducible refine blk_newg ?_; (simp; done)) | (with_reducible refine blk_alloc ?_ _))) hb⟩; (try clear a3 a4 f3 f4 lt); have a3 : wR.cell? ⟨w.heap.size, 3, none⟩ = some (.slice AE c.echoes.length cE) := blk_cell HSx.out 3; have a4 : wR.cell? ⟨w.heap.size, 4, none⟩ = some (.slice AR c.readies.length cR) := blk_cell HSx.out 4; have f3 := blk_frozen HSx.out 3; have f4 := blk_frozen HSx.out 4; have lt := blk_lt HTx.out; clear HB hb; (try clear HS HT); have HB := HBx; have HS := HSx; have HT := HTx; clear HBx HSx HTx))
  all_goals
    have HS1 := blk_set HS.out 3 (.slice A1E c.echoes.length c1E)
    have HS2 := blk_set HS1 4 (.slice A1R c.readies.length c1R)
    have HT1 := blk_far HT.out (p := ⟨w.heap.size, 3, none⟩) (by show w.heap.size + 1 ≠ w.heap.size; omega) (.slice A1E c.echoes.length c1E)
    have HT2 := blk_far HT1 (p := ⟨w.heap.size, 4, none⟩) (by show w.heap.size + 1 ≠ w.heap.size; omega) (.slice A1R c.readies.length c1R)
    have hB2 := (HB.out.setCell (p := ⟨w.heap.size, 3, none⟩) (Nat.le_refl _) (.slice A1E c.echoes.length c1E)).setCell (p := ⟨w.heap.size, 4, none⟩) (Nat.le_refl _) (.slice A1R c.readies.length c1R)
    have hE2 := Kd.R_set (Kd.R_set HOE.out HS.out tyB 3 (.slice A1E c.echoes.length c1E)) HS1 tyB 4 (.slice A1R c.readies.length c1R)
    have hR2 := Kd.R_set (Kd.R_set HOR.out HS.out tyB 3 (.slice A1E c.echoes.length c1E)) HS1 tyB 4 (.slice A1R c.readies.length c1R)
    generalize (wR.setCell ⟨w.heap.size, 3, none⟩ (.slice A1E c.echoes.length c1E)).setCell ⟨w.heap.size, 4, none⟩ (.slice A1R c.readies.length c1R) = w9 at *
    have HSa : Aside0 (w9.heap[w.heap.size]? = some (.cells #[.bool c.echoed, .bool c.readied, .bool c.done, .slice A1E c.echoes.length c1E, .slice A1R c.readies.length c1R] 35 (0, 0))) := ⟨HS2⟩
    have HTa := Aside0.mk HT2
    have HBa := Aside0.mk hB2
    have HEa := Aside0.mk hE2
    have HRa := Aside0.mk hR2
    clear HS HT HB HOE HOR HS1 HS2 HT1 HT2 hB2 hE2 hR2 a3 a4 f3 f4 lt
    go_wp2_with (first
      | (refine wpList_load_row rfl 35 (.tmp 1) rfl w.heap.size rfl 35 #[.bool c.echoed, .bool c.readied, .bool c.done, .slice A1E c.echoes.length c1E, .slice A1R c.readies.length c1R] (0, 0) _ HSa.out Try.underlying35 rfl (by kernel_rfl) ?_)
      | (refine wpList_store_row rfl 35 (.tmp 2) (.tmp 11) rfl (w.heap.size + 1) #[.bool c.echoed, .bool c.readied, .bool c.done, .slice A1E c.echoes.length c1E, .slice A1R c.readies.length c1R] rfl rfl 35 _ HTa.out (by kernel_rfl) rfl (by simp [Value.oneCell']) ?_)
      | fail)
    refine bodyPost_ret (v := .agg #[.bool c.echoed, .bool c.readied, .bool c.done, .slice A1E c.echoes.length c1E, .slice A1R c.readies.length c1R]) (results_cell_row rfl _ _ (w.heap.size + 1) 35 #[.bool c.echoed, .bool c.readied, .bool c.done, .slice A1E c.echoes.length c1E, .slice A1R c.readies.length c1R] (0, 0) _ rfl (setRow_heap _ _ _ _ _ _ HTa.out) Try.underlying35 rfl (by kernel_rfl)) rfl ⟨_, rfl, ?_, below_setRow HBa.out (by omega) _⟩
    exact ⟨_, _, _, _, rfl, Kd.R_mono (R_row HEa.out HTa.out tyB #[.bool c.echoed, .bool c.readied, .bool c.done, .slice A1E c.echoes.length c1E, .slice A1R c.readies.length c1R]) (fun _ _ => trivial), Kd.R_mono (R_row HRa.out HTa.out tyB #[.bool c.echoed, .bool c.readied, .bool c.done, .slice A1E c.echoes.length c1E, .slice A1R c.readies.length c1R]) (fun _ _ => trivial)⟩
end Go.Proofs.Ytkppilpailbpeaa.Vot
