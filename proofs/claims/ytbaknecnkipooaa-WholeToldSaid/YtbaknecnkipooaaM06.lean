/- Votes: the walk of Take at a Send. Votes: one block written; ready. -/
import Derived.Test.YtbaknecnkipooaaM05
namespace Go.Proofs.Ytbaknecnkipooaa.Vot
open Go Go.RowKit Go.Proofs.YtbaknecnkipooaaW.PrintWords Go.Proofs.Ytbaknecnkipooaa.Cnt Go.Proofs.Ytbaknecnkipooaa.Opn
set_option linter.unusedVariables false
set_option linter.unusedSimpArgs false
set_option maxHeartbeats 400000 in
set_option maxRecDepth 100000 in
theorem take_send (ec rc dc : Bool) (E R : List Bal) (AE : Option Addr) (cE : Nat) (AR : Option Addr) (cR : Nat) (m : Nat) (fr kind who : Int) (body : ByteArray) (w : World) (hE : kB.C w AE E.length E) (hR : kB.C w AR R.length R) (hcE : E.length ≤ cE) (hcR : R.length ≤ cR)
    (hlE : E.length ≤ 900000) (hlR : R.length ≤ 900000) (hm : m < 65536) (hf0 : 0 ≤ fr) (hf1 : fr ≤ 255) (hw0 : 0 ≤ who) (hw1 : who ≤ 255) (hk0 : -9223372036854775808 ≤ kind) (hk1 : kind ≤ 9223372036854775807) (hbs : body.size ≤ 9223372036854775807) (g0 : ¬ kind < 1) (g1 : ¬ 3 < kind) (g2 : ¬ 1000 < body.size) (hW : hasB m who = true) (hF : hasB m fr = true) (hk : kind = 1) (hwf : who = fr) (he : ec = false) :
    Calls Try.prog 12 #[.agg #[.bool ec, .bool rc, .bool dc, .slice AE E.length cE, .slice AR R.length cR], .int .u16 (m : Int), .int .u8 fr, .int .i64 kind, .int .u8 who, .string body] w (TakeR (⟨⟨true, rc, dc, E, R⟩, [⟨2, body⟩], ⟨#[]⟩, false, 0⟩) w) := by
  have HE := Aside0.mk hE
  have HR := Aside0.mk hR
  clear hE hR
  have hlE : E.length ≤ 1000000 := by omega
  have hlR : R.length ≤ 1000000 := by omega
  have HB := Aside0.mk (Below.refl w.heap.size w)
  subst hk
  subst he
  subst hwf
  have tok1 : True := trivial
  have HW := Aside0.mk hW
  clear hW
  have hne : (who != who) = false := by simp
  go_enter Try.func12, Try.ntmps12
  go_wp2_with (first
    | (go_at_call 38; refine (size_calls m _ hm).mono ?_; rintro e w1 ⟨rfl, m1, rfl⟩)
    | (go_at_call 39; have _t := tok1; clear _t tok1; refine (has_calls m who _ hm hw0).mono ?_; rw [HW.out]; rintro e w3 ⟨rfl, m3, rfl⟩)
    | (go_at_call 39; refine (has_calls m who _ hm hw0).mono ?_; rw [HW.out]; rintro e w4 ⟨rfl, m4, rfl⟩)
    | (refine wpList_load_row rfl 61 (.tmp 6) rfl w.heap.size rfl 61 #[.bool false, .bool rc, .bool dc, .slice AE E.length cE, .slice AR R.length cR] (0, 0) _ (by repeat (first | (with_reducible exact HS.out) | (with_reducible refine blk_drew ?_) | (with_reducible refine blk_drewN ?_ _) | (with_reducible refine blk_newg ?_; (simp; done)) | (with_reducible refine blk_alloc ?_ _))) Try.underlying61 rfl (by kernel_rfl) ?_)
    | (go_at_call 37; refine (own_comp false rc dc E R AE cE AR cR _ (Kd.C_below HE.out (by repeat (first | (with_reducible exact HB.out) | (with_reducible refine below_alloc ?_ _) | (with_reducible refine pw_below_drewN ?_ _) | (with_reducible refine below_drew ?_)))) (Kd.C_below HR.out (by repeat (first | (with_reducible exact HB.out) | (with_reducible refine below_alloc ?_ _) | (with_reducible refine pw_below_drewN ?_ _) | (with_reducible refine below_drew ?_)))) hlE hlR).mono ?_; rintro e w5 ⟨A1, c1, A2, c2, rfl, hC1, hC2, hb⟩; have HS : Aside0 (w5.heap[w.heap.size]? = some (.cells #[.bool false, .bool rc, .bool dc, .slice AE E.length cE, .slice AR R.length cR] 61 (0, 0))) := ⟨blk_below (by repeat (first | (with_reducible exact HS.out) | (with_reducible refine blk_drew ?_) | (with_reducible refine blk_drewN ?_ _) | (with_reducible refine blk_newg ?_; (simp; done)) | (with_reducible refine blk_alloc ?_ _))) hb⟩; have HT : Aside0 (w5.heap[w.heap.size + 1]? = some (.cells #[.bool false, .bool false, .bool false, .slice none 0 0, .slice none 0 0] 61 (0, 0))) := ⟨blk_below (by repeat (first | (with_reducible exact HT.out) | (with_reducible refine blk_drew ?_) | (with_reducible refine blk_drewN ?_ _) | (with_reducible refine blk_newg ?_; (simp; done)) | (with_reducible refine blk_alloc ?_ _))) hb⟩; have HBx : Aside0 (Below w.heap.size w w5) := ⟨below_back hb (by repeat (first | (with_reducible exact HB.out) | (with_reducible refine below_alloc ?_ _) | (with_reducible refine pw_below_drewN ?_ _) | (with_reducible refine below_drew ?_)))⟩; clear HB hb; have HB := HBx; clear HBx; have HC1 := Aside0.mk hC1; have HC2 := Aside0.mk hC2; have lt5 := blk_lt HT.out; clear hC1 hC2)
    | (refine gate_ (.store 61 (.tmp 12) (.tmp 94)) rfl ?_; refine wpList_store_row rfl 61 (.tmp 12) (.tmp 94) rfl (w.heap.size + 1) #[.bool true, .bool rc, .bool dc, (.slice A1 E.length c1), (.slice A2 R.length c2)] rfl rfl 61 #[.bool false, .bool false, .bool false, .slice none 0 0, .slice none 0 0] (by repeat (first | (with_reducible exact HT.out) | (with_reducible refine blk_drew ?_) | (with_reducible refine blk_drewN ?_ _) | (with_reducible refine blk_newg ?_; (simp; done)) | (with_reducible refine blk_alloc ?_ _))) (by kernel_rfl) rfl (by simp [Value.oneCell']) ?_)
    | fail)
  have HT3 := blk_alloc (blk_alloc HT.out (.cells #[.bool true, .bool rc, .bool dc, .slice A1 E.length c1, .slice A2 R.length c2] 61)) (.cells #[.int .i64 2, .string body] 102)
  refine bodyPost_ret (v := .tuple #[.agg #[.bool true, .bool rc, .bool dc, .slice A1 E.length c1, .slice A2 R.length c2], .slice (some ⟨w5.heap.size + 1, 0, none⟩) 1 1, .string ⟨#[]⟩, .bool false, .int .i64 0]) (results_list (rs := [.cell 12 61, .tmp 13, .tmp 14, .tmp 15, .tmp 16]) (vs := [.agg #[.bool true, .bool rc, .bool dc, .slice A1 E.length c1, .slice A2 R.length c2], _, _, _, _]) rfl (by simp) (.cell (w.heap.size + 1) 61 #[.bool true, .bool rc, .bool dc, .slice A1 E.length c1, .slice A2 R.length c2] (0, 0) _ rfl (setRow_heap _ _ _ _ _ _ HT3) Try.underlying61 rfl (by kernel_rfl) (.tmp (.tmp (.tmp (.tmp .nil)))))) rfl ⟨_, _, _, rfl, CaseM.mk' (RB_row (Kd.R_alloc (Kd.R_alloc HC1.out _) _) HT3 (by decide) _) (RB_row (Kd.R_alloc (Kd.R_alloc HC2.out _) _) HT3 (by decide) _), RO_row ?_ HT3 (by decide) _, below_setRow (below_alloc (below_alloc HB.out _) _) (by omega) _⟩
  simpa using RO_lit (w5.alloc (.cells #[.bool true, .bool rc, .bool dc, .slice A1 E.length c1, .slice A2 R.length c2] 61)) 2 body
end Go.Proofs.Ytbaknecnkipooaa.Vot
namespace Go.Proofs.Ytbaknecnkipooaa.Vot
open Go Go.RowKit Go.Proofs.YtbaknecnkipooaaW.PrintWords Go.Proofs.Ytbaknecnkipooaa.Cnt Go.Proofs.Ytbaknecnkipooaa.Opn
set_option linter.unusedVariables false
set_option linter.unusedSimpArgs false
structure Touch (g : Nat) (W w' : World) : Prop where
  os : w'.os = W.os
  tape : w'.tape = W.tape
  output : w'.output = W.output
  size : W.heap.size ≤ w'.heap.size
  block : ∀ k, k < W.heap.size → k ≠ g → w'.heap[k]? = W.heap[k]?
theorem Touch.below {g B : Nat} {w0 W w' : World} (h : Touch g W w') (hb : Below B w0 W) (hg : B ≤ g) (hB : B ≤ W.heap.size) : Below B w0 w' :=
  ⟨h.os.trans hb.os, h.tape.trans hb.tape, h.output.trans hb.output, Nat.le_trans hb.size h.size, fun k hk => (h.block k (by omega) (by omega)).trans (hb.block k hk)⟩
theorem Touch.blk {g k : Nat} {W w' : World} {o : Obj} (h : Touch g W w') (hk : W.heap[k]? = some o) (hne : k ≠ g) : w'.heap[k]? = some o := (h.block k (blk_lt hk) hne).trans hk
theorem Touch.rb {g : Nat} {W w' : World} {v : Value} {l : List Bal} {cs : Array Value} {T : TypeId} (h : Touch g W w') (hr : RB W v l) (hg : W.heap[g]? = some (.cells cs T (0, 0))) (hT : 113 ≠ T) : RB w' v l :=
  Kd.R_mono (Kd.R_step (Kd.R_types hr hg (fun q hq => by rw [tyB' q hq]; exact hT)) (fun k hk hlt => h.block k hlt hk.2)) (fun _ _ => trivial)
theorem Touch.set (W : World) (g j : Nat) (u : Value) : Touch g W (W.setCell ⟨g, j, none⟩ u) :=
  ⟨((Below.refl 0 W).setCell (p := ⟨g, j, none⟩) (Nat.zero_le _) u).os, ((Below.refl 0 W).setCell (p := ⟨g, j, none⟩) (Nat.zero_le _) u).tape, ((Below.refl 0 W).setCell (p := ⟨g, j, none⟩) (Nat.zero_le _) u).output, by simp, fun k _ hk => Below.heap_setCell W ⟨g, j, none⟩ u k hk⟩
theorem Touch.alloc {g : Nat} {W w' : World} (h : Touch g W w') (o : Obj) : Touch g W (w'.alloc o) :=
  ⟨h.os, h.tape, h.output, by have := h.size; simp; omega, fun k hk hne => (Below.heap_alloc w' o k (by have := h.size; omega)).trans (h.block k hk hne)⟩
theorem Touch.refl (g : Nat) (W : World) : Touch g W W := ⟨rfl, rfl, rfl, Nat.le_refl _, fun _ _ _ => rfl⟩
theorem set_event {P : Program} {ops : Array Oper} {rest : List Oper} {o : Oper} {a : Act} {Q : Exit → Act → World → Prop} {W : World} (hN : o.dst = none) (hgd : o.guard = none) (t : TypeId) (p x : Operand) (ho : o.op = .store t p x) (g j : Nat) (cs : Array Value) (T : TypeId) (u : Value)
    (hp : a.eval p = .pointer (some ⟨g, j, none⟩)) (hx : a.eval x = u) (hu : u.cells.toList = [u]) (ht : (P.info? t).map (·.size) = some 1) (hg : W.heap[g]? = some (.cells cs T (0, 0))) (hj : j < cs.size) (h1 : u.oneCell' = true)
    (h : ∀ w', w'.heap[g]? = some (.cells (cs.setIfInBounds j u) T (0, 0)) → Touch g W w' → wpList P ops Q rest a w') : wpList P ops Q (o :: rest) a W := by
  refine wpList_plain hgd fun K hK => ?_
  have hrun : (Instr.storeAt t (.pointer (some ⟨g, j, none⟩)) u).run P W = .ok () (W.setCell ⟨g, j, none⟩ u) :=
    run_store_run t u [u] hg hu ht (by simp; omega) (by intro q hq; rw [List.mem_singleton] at hq; subst hq; exact h1)
  unfold Oper.wp execOp
  simp only [ho, hp, hx, Sem.run_bind, Sem.run_pure, Result.andThen_ok, hrun]
  show K (a.put o.dst undef) _
  rw [hN]
  exact hK a _ (h _ (blk_set hg j u) (Touch.set _ _ _ _))
theorem Touch.ro {g : Nat} {W w' : World} {v : Value} {l : List Out} {cs : Array Value} {T : TypeId} (h : Touch g W w') (hr : RO W v l) (hg : W.heap[g]? = some (.cells cs T (0, 0))) (hT : 102 ≠ T) : RO w' v l :=
  Kd.R_mono (Kd.R_step (Kd.R_types hr hg (fun q hq => by rw [tyO q hq]; exact hT)) (fun k hk hlt => h.block k hlt hk.2)) (fun _ _ => trivial)
def readyL (r : Bool) (body : ByteArray) : List Out := if r = true then [] else [⟨3, body⟩]
theorem ready_calls (g : Nat) (e r d : Bool) (vE vR : Value) (body : ByteArray) (w : World) (hg : w.heap[g]? = some (.cells #[.bool e, .bool r, .bool d, vE, vR] 61 (0, 0))) :
    Calls Try.prog 43 #[.pointer (some ⟨g, 0, none⟩), .string body] w (fun en w' => ∃ A n, en = .returned (.slice A (readyL r body).length n) ∧ RO w' (.slice A (readyL r body).length n) (readyL r body) ∧ w'.heap[g]? = some (.cells #[.bool e, .bool true, .bool d, vE, vR] 61 (0, 0)) ∧ Touch g w w') := by
  cases r with
  | true =>
    refine (ready_yes g e d vE vR body w hg).mono ?_
    rintro en w' ⟨rfl, rfl⟩
    exact ⟨none, 0, rfl, Kd.R_nil _ _ _ _ _, hg, Touch.refl _ _⟩
  | false =>
    refine (ready_no g e d vE vR body w hg).mono ?_
    rintro en w' ⟨rfl, rfl⟩
    refine ⟨some ⟨w.heap.size, 0, none⟩, 1, rfl, ?_, blk_alloc (blk_set hg 1 _) _, Touch.alloc (Touch.set _ _ _ _) _⟩
    have := RO_lit (w.setCell ⟨g, 1, none⟩ (.bool true)) 3 body
    simpa [readyL] using this
theorem cast_no {A : Option Addr} {ca : Nat} {l : List Bal} {who : Int} {body : ByteArray} {w : World} (hr : RB w (.slice A l.length ca) l) (hl : l.length ≤ 900000) (hw : whoOk l) (h0 : 0 ≤ who) (hv : votedL l who = true) :
    Calls Try.prog 42 #[.slice A l.length ca, .int .u8 who, .string body] w (fun en w' => ∃ A6 c6, en = .returned (.tuple #[.slice A6 l.length c6, .int .i64 0, .bool false]) ∧ Below w.heap.size w w') := by
  have hrr := Kd.R_reads' hr
  refine (cast_calls A ca l who body w hrr.2.2 hrr.2.1 hl hw h0).mono ?_
  rintro en w' (⟨_, A6, c6, he, _, _, hb⟩ | ⟨hn, _⟩)
  · exact ⟨A6, c6, he, hb⟩
  · rw [hv] at hn; cases hn
theorem cast_yes {A : Option Addr} {ca : Nat} {l : List Bal} {who : Int} {body : ByteArray} {w : World} (hr : RB w (.slice A l.length ca) l) (hl : l.length ≤ 900000) (hw : whoOk l) (h0 : 0 ≤ who) (hv : votedL l who = false) {L : List Bal} (hL : withL l who body = L) {mn : Int} (hmn : manyL l who body = mn) :
    Calls Try.prog 42 #[.slice A l.length ca, .int .u8 who, .string body] w (fun en w' => ∃ A6 c6, en = .returned (.tuple #[.slice A6 L.length c6, .int .i64 mn, .bool true]) ∧ RB w' (.slice A6 L.length c6) L ∧ Below w.heap.size w w') := by
  have hrr := Kd.R_reads' hr
  subst hL
  subst hmn
  refine (cast_calls A ca l who body w hrr.2.2 hrr.2.1 hl hw h0).mono ?_
  rintro en w' (⟨hn, _⟩ | ⟨_, A6, c6, he, h, hb⟩)
  · rw [hv] at hn; cases hn
  · exact ⟨A6, c6, he, h, hb⟩
end Go.Proofs.Ytbaknecnkipooaa.Vot
