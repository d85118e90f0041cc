/- Votes: the walks of Theirs, Ours, few. -/
import Derived.Test.YtkppilpailbpeaaVotAlive
namespace Go.Proofs.Ytkppilpailbpeaa.Vot
open Go Go.RowKit Go.Proofs.YtkppilpailbpeaaW.PrintWords Go.Proofs.Ytkppilpailbpeaa.Cnt Go.Proofs.Ytkppilpailbpeaa.Opn
set_option linter.unusedVariables false
set_option linter.unusedSimpArgs false

theorem kB_ty {e : Nat} : ∀ q, q ∈ e :: kB.E → q = e := by
  intro q hq
  simpa [kB, Kd.iso, Kd.pair, Kd.string, Kd.int, Kd.scalar] using hq
theorem Touch.rk {e base g : Nat} {W w' : World} {ok : Nat → Prop} {v : Value} {l : List Bal} {cs : Array Value} {T : TypeId} (h : Touch g W w') (hr : kB.R e W base ok v l) (hg : W.heap[g]? = some (.cells cs T (0, 0))) (hT : e ≠ T) : kB.R e w' base ok v l :=
  Kd.R_mono (Kd.R_step (Kd.R_types hr hg (fun q hq => by rw [kB_ty q hq]; exact hT)) (fun k hk hlt => h.block k hlt hk.2)) (fun _ hk => hk.1)
theorem Touch.row (W : World) (g : Nat) (cs : Array Value) : Touch g W (W.setRow g cs) := by
  have hb : Below 0 W (W.setRow g cs) := below_setRow ⟨rfl, rfl, rfl, Nat.le_refl _, fun k hk => by omega⟩ (Nat.zero_le _) cs
  exact ⟨hb.os, hb.tape, hb.output, hb.size, fun k _ hk => setRow_other W g k cs hk⟩
theorem infoR : (Try.prog.info? 78).map (fun i => (i.zero, i.size, i.bytes)) = some (some (.agg #[(.string ⟨#[]⟩), (.int .u16 0)]), 2, 24) := by kernel_rfl
abbrev RR (w : World) (v : Value) (l : List Bal) : Prop := kB.R 78 w 0 (fun _ => True) v l
theorem few_calls (A : Option Addr) (c : Nat) (l : List Bal) (w : World) : Calls Try.prog 12 #[.slice A l.length c] w (fun e w' => e = .returned (.bool (decide ((l.length : Int) ≤ 20))) ∧ w = w') := by
  go_enter Try.func12, Try.ntmps12
  go_wp2_with fail
  go_ret
  exact ⟨rfl, rfl⟩

set_option maxHeartbeats 2000000 in
set_option maxRecDepth 100000 in
theorem theirs_calls (ec rc dc : Bool) (E R : List Bal) (AE : Option Addr) (cE : Nat) (AR : Option Addr) (cR : Nat) (w : World) (hE : kB.C w AE E.length E) (hR : kB.C w AR R.length R) (hlE : E.length ≤ 900000) (hlR : R.length ≤ 900000) :
    Calls Try.prog 15 #[.agg #[.bool ec, .bool rc, .bool dc, .slice AE E.length cE, .slice AR R.length cR]] w (fun en w' => ∃ A1 c1 A2 c2, en = .returned (.agg #[.bool ec, .bool rc, .bool dc, .slice A1 E.length c1, .slice A2 R.length c2]) ∧ RB w' (.slice A1 E.length c1) E ∧ RB w' (.slice A2 R.length c2) R ∧ Below w.heap.size w w') := by
  have HE := Aside0.mk hE
  have HR := Aside0.mk hR
  clear hE hR
  have HB := Aside0.mk (Below.refl w.heap.size w)
  go_enter Try.func15, Try.ntmps15
  go_wp2_with fail
  go_loopw [18] (fun v18 w' => ∃ (i : Nat) (A1 : Option Addr) (c1 : Nat), v18 = .int .i64 (i : Int) ∧ i ≤ E.length ∧ Aside0 (w'.heap[w.heap.size]? = some (.cells #[.bool ec, .bool rc, .bool dc, .slice AE E.length cE, .slice AR R.length cR] 24 (0, 0))) ∧ Aside0 (w'.heap[w.heap.size + 1]? = some (.cells #[.bool false, .bool false, .bool false, .slice none 0 0, .slice none 0 0] 35 (0, 0))) ∧ Aside0 (w'.heap[w.heap.size + 2]? = some (.cells #[.bool ec, .bool rc, .bool dc, .slice A1 i c1, .slice none 0 0] 35 (0, 0))) ∧ Aside0 (kB.R 77 w' w.heap.size (fun _ => True) (.slice A1 i c1) (E.take i)) ∧ Aside0 (Below w.heap.size w w')) (fun v18 _ => E.length - (intOf v18).toNat)
  case atStart => exact ⟨0, none, 0, rfl, by omega, ⟨blk_alloc (blk_alloc (blk_new _ _) _) _⟩, ⟨blk_alloc (blk_newg (by simp)) _⟩, ⟨blk_newg (by simp)⟩, ⟨Kd.R_nil _ _ _ _ _⟩, ⟨(by repeat (first | (with_reducible exact HB.out) | (with_reducible refine below_alloc ?_ _) | (with_reducible refine pw_below_drewN ?_ _) | (with_reducible refine below_drew ?_)))⟩⟩
  case round =>
    clear HB
    obtain ⟨i, A1, c1, rfl, hi, HG0, HG1, HD, HO, HB⟩ := hrel
    have a3 : wr.cell? ⟨w.heap.size + 2, 3, none⟩ = some (.slice A1 i c1) := blk_cell HD.out 3
    have lt2 := blk_lt HD.out
    by_cases hlt : i < E.length
    · obtain ⟨ad, ea, h0, h1⟩ := at_B (Kd.C_below HE.out HB.out) i hlt
      cases ea
      have HX : Aside0 (E.take (i + 1) = E.take i ++ [E[i]]) := ⟨by rw [List.take_append_getElem hlt]⟩
      have HX1 : Aside0 ((E.take i ++ [E[i]]).length = i + 1) := ⟨by simp; omega⟩
      have HLn : Aside0 ((E.take i).length = i) := ⟨by simp; omega⟩
      generalize E[i] = x at *
      go_wp2_with (first
        | (at_builtin; refine Kd.R_append kB (w0 := w) w.heap.size rfl (.tmp 23) (.tmp 25) 33 77 (.agg #[(.string ⟨#[]⟩), (.int .u16 0)]) 24 rfl Try.underlying33 infoB rfl (by decide) (by omega) (.slice A1 i c1) (E.take i) x [.string x.body, .int .u16 (x.who : Int)] (fun _ => True) (fun _ => False) rfl ?aX ?aP (fun _ hk => hk.elim) ?aF ?aO ?aB ?aS ?aL ?_; (case aX => first | rfl | (simp [Act.eval]; done)); (case aP => exact kB_mkM _ _ _ x); (case aF => exact fun _ _ => trivial); (case aO => exact (by repeat (first | exact HO.out | apply Kd.R_alloc | apply Kd.R_drewN | apply Kd.R_drew))); (case aB => exact (by repeat (first | exact HB.out | apply below_alloc | apply pw_below_drewN | apply below_drew))); (case aS => exact Below.size (by repeat (first | exact HB.out | apply below_alloc | apply pw_below_drewN | apply below_drew))); (case aL => have := HLn.out; omega); intro v9 w9 ho hb hg hat; obtain ⟨A6, c6, ev⟩ := Kd.R_slice ho; rw [HX1.out] at ev; subst ev; have HG0x : Aside0 (w9.heap[w.heap.size]? = some (.cells #[.bool ec, .bool rc, .bool dc, .slice (some ad) E.length cE, .slice AR R.length cR] 24 (0, 0))) := ⟨blk_grown (by repeat (first | (with_reducible exact HG0.out) | (with_reducible refine blk_drew ?_) | (with_reducible refine blk_drewN ?_ _) | (with_reducible refine blk_newg ?_; (simp; done)) | (with_reducible refine blk_alloc ?_ _))) hg (Kd.R_ne HO.out HG0.out (by decide))⟩; have HG1x : Aside0 (w9.heap[w.heap.size + 1]? = some (.cells #[.bool false, .bool false, .bool false, .slice none 0 0, .slice none 0 0] 35 (0, 0))) := ⟨blk_grown (by repeat (first | (with_reducible exact HG1.out) | (with_reducible refine blk_drew ?_) | (with_reducible refine blk_drewN ?_ _) | (with_reducible refine blk_newg ?_; (simp; done)) | (with_reducible refine blk_alloc ?_ _))) hg (Kd.R_ne HO.out HG1.out (by decide))⟩; have HDx : Aside0 (w9.heap[w.heap.size + 2]? = some (.cells #[.bool ec, .bool rc, .bool dc, .slice A1 i c1, .slice none 0 0] 35 (0, 0))) := ⟨blk_grown (by repeat (first | (with_reducible exact HD.out) | (with_reducible refine blk_drew ?_) | (with_reducible refine blk_drewN ?_ _) | (with_reducible refine blk_newg ?_; (simp; done)) | (with_reducible refine blk_alloc ?_ _))) hg (Kd.R_ne HO.out HD.out (by decide))⟩; clear HG0 HG1 HD; have HG0 := HG0x; clear HG0x; have HG1 := HG1x; clear HG1x; have HD := HDx; clear HDx; have HO6 := Aside0.mk ho; have HB6 := Aside0.mk hb; clear ho hb hg hat)
        | (refine gate_ (.store 33 (.tmp 27) (.tmp 26)) rfl ?_; refine set_event rfl rfl 33 (.tmp 27) (.tmp 26) rfl (w.heap.size + 2) 3 #[.bool ec, .bool rc, .bool dc, .slice A1 i c1, .slice none 0 0] 35 (.slice A6 (i + 1) c6) rfl rfl rfl (by kernel_rfl) HD.out (by simp) rfl ?_; intro w8 hD hT; have HG0x : Aside0 (w8.heap[w.heap.size]? = some (.cells #[.bool ec, .bool rc, .bool dc, .slice (some ad) E.length cE, .slice AR R.length cR] 24 (0, 0))) := ⟨hT.blk HG0.out (by omega)⟩; have HG1x : Aside0 (w8.heap[w.heap.size + 1]? = some (.cells #[.bool false, .bool false, .bool false, .slice none 0 0, .slice none 0 0] 35 (0, 0))) := ⟨hT.blk HG1.out (by omega)⟩; have HO6x : Aside0 (kB.R 77 w8 w.heap.size (fun _ => True) (.slice A6 (i + 1) c6) (E.take i ++ [x])) := ⟨hT.rk HO6.out HD.out (by decide)⟩; have HB6x : Aside0 (Below w.heap.size w w8) := ⟨hT.below HB6.out (by omega) HB6.out.size⟩; have HDx : Aside0 (w8.heap[w.heap.size + 2]? = some (.cells #[.bool ec, .bool rc, .bool dc, .slice A6 (i + 1) c6, .slice none 0 0] 35 (0, 0))) := ⟨hD⟩; clear HG0 HG1 HO6 HB6 HD; have HG0 := HG0x; clear HG0x; have HG1 := HG1x; clear HG1x; have HO6 := HO6x; clear HO6x; have HB6 := HB6x; clear HB6x; have HD := HDx; clear HDx; clear hD hT)
        | fail)
      go_roundw
      case rel => exact ⟨i + 1, A6, c6, by go_num, by omega, HG0, HG1, HD, ⟨by rw [HX.out]; exact HO6.out⟩, HB6⟩
      case measure => simp [intOf]; omega
    · have hie : i = E.length := by omega
      subst hie
      have HO1 : Aside0 (kB.R 77 wr w.heap.size (fun k => k < wr.heap.size) (.slice A1 E.length c1) E) := ⟨by have := HO.out; rw [List.take_length] at this; exact Kd.R_mono (Kd.R_bound this) (fun k hk => hk.2.2.1)⟩
      have b0 : wr.cell? ⟨w.heap.size, 4, none⟩ = some (.slice AR R.length cR) := blk_cell HG0.out 4
      clear HO a3
      rename World => wo
      go_wp2_with fail
      have HB2 := Aside0.mk (Below.refl 0 wo)
      go_loopw [32] (fun v32 w' => ∃ (i : Nat) (A2 : Option Addr) (c2 : Nat), v32 = .int .i64 (i : Int) ∧ i ≤ R.length ∧ Aside0 (w'.heap[w.heap.size]? = some (.cells #[.bool ec, .bool rc, .bool dc, .slice AE E.length cE, .slice AR R.length cR] 24 (0, 0))) ∧ Aside0 (w'.heap[w.heap.size + 1]? = some (.cells #[.bool false, .bool false, .bool false, .slice none 0 0, .slice none 0 0] 35 (0, 0))) ∧ Aside0 (w'.heap[w.heap.size + 2]? = some (.cells #[.bool ec, .bool rc, .bool dc, .slice A1 E.length c1, .slice A2 i c2] 35 (0, 0))) ∧ Aside0 (kB.R 77 w' w.heap.size (fun k => k < wo.heap.size) (.slice A1 E.length c1) E) ∧ Aside0 (kB.R 77 w' w.heap.size (fun k => wo.heap.size ≤ k) (.slice A2 i c2) (R.take i)) ∧ Aside0 (Below 0 wo w') ∧ Aside0 (Below w.heap.size w w')) (fun v32 _ => R.length - (intOf v32).toNat)
      case atStart => exact ⟨0, none, 0, rfl, by omega, HG0, HG1, HD, HO1, ⟨Kd.R_nil _ _ _ _ _⟩, HB2, HB⟩
      case round =>
        clear HB HB2 HG0 HG1 HD HO1
        rename_i wq
        obtain ⟨i, A2, c2, rfl, hi, HG0, HG1, HD, H1, HO, HS, HB⟩ := hrel
        have b4 : wr.cell? ⟨w.heap.size + 2, 4, none⟩ = some (.slice A2 i c2) := blk_cell HD.out 4
        have lt3 := blk_lt HD.out
        by_cases hlt : i < R.length
        · obtain ⟨ad, ea, h0, h1⟩ := at_B (Kd.C_below HR.out HB.out) i hlt
          cases ea
          have HX : Aside0 (R.take (i + 1) = R.take i ++ [R[i]]) := ⟨by rw [List.take_append_getElem hlt]⟩
          have HX1 : Aside0 ((R.take i ++ [R[i]]).length = i + 1) := ⟨by simp; omega⟩
          have HLn : Aside0 ((R.take i).length = i) := ⟨by simp; omega⟩
          generalize R[i] = x at *
          have HW := Aside0.mk (Below.refl wr.heap.size wr)
          go_wp2_with (first
            | (at_builtin; refine Kd.R_append kB (w0 := w) w.heap.size rfl (.tmp 37) (.tmp 39) 33 77 (.agg #[(.string ⟨#[]⟩), (.int .u16 0)]) 24 rfl Try.underlying33 infoB rfl (by decide) (by omega) (.slice A2 i c2) (R.take i) x [.string x.body, .int .u16 (x.who : Int)] (fun k => wo.heap.size ≤ k) (fun _ => False) rfl ?aX ?aP (fun _ hk => hk.elim) ?aF ?aO ?aB ?aS ?aL ?_; (case aX => first | rfl | (simp [Act.eval]; done)); (case aP => exact kB_mkM _ _ _ x); (case aF => exact fun k hk => Nat.le_trans (Below.size (below_then HS.out (Nat.zero_le _) (by repeat (first | (with_reducible exact HW.out) | (with_reducible refine below_alloc ?_ _) | (with_reducible refine pw_below_drewN ?_ _) | (with_reducible refine below_drew ?_))))) hk); (case aO => exact (by repeat (first | exact HO.out | apply Kd.R_alloc | apply Kd.R_drewN | apply Kd.R_drew))); (case aB => exact (by repeat (first | exact HB.out | apply below_alloc | apply pw_below_drewN | apply below_drew))); (case aS => exact Below.size (by repeat (first | exact HB.out | apply below_alloc | apply pw_below_drewN | apply below_drew))); (case aL => have := HLn.out; omega); intro v9 w9 ho hb hg hat; obtain ⟨A6, c6, ev⟩ := Kd.R_slice ho; rw [HX1.out] at ev; subst ev; have HG0x : Aside0 (w9.heap[w.heap.size]? = some (.cells #[.bool ec, .bool rc, .bool dc, .slice AE E.length cE, .slice (some ad) R.length cR] 24 (0, 0))) := ⟨blk_grown (by repeat (first | (with_reducible exact HG0.out) | (with_reducible refine blk_drew ?_) | (with_reducible refine blk_drewN ?_ _) | (with_reducible refine blk_newg ?_; (simp; done)) | (with_reducible refine blk_alloc ?_ _))) hg (Kd.R_ne HO.out HG0.out (by decide))⟩; have HG1x : Aside0 (w9.heap[w.heap.size + 1]? = some (.cells #[.bool false, .bool false, .bool false, .slice none 0 0, .slice none 0 0] 35 (0, 0))) := ⟨blk_grown (by repeat (first | (with_reducible exact HG1.out) | (with_reducible refine blk_drew ?_) | (with_reducible refine blk_drewN ?_ _) | (with_reducible refine blk_newg ?_; (simp; done)) | (with_reducible refine blk_alloc ?_ _))) hg (Kd.R_ne HO.out HG1.out (by decide))⟩; have HDx : Aside0 (w9.heap[w.heap.size + 2]? = some (.cells #[.bool ec, .bool rc, .bool dc, .slice A1 E.length c1, .slice A2 i c2] 35 (0, 0))) := ⟨blk_grown (by repeat (first | (with_reducible exact HD.out) | (with_reducible refine blk_drew ?_) | (with_reducible refine blk_drewN ?_ _) | (with_reducible refine blk_newg ?_; (simp; done)) | (with_reducible refine blk_alloc ?_ _))) hg (Kd.R_ne HO.out HD.out (by decide))⟩; have H1x : Aside0 (kB.R 77 w9 w.heap.size (fun k => k < wo.heap.size) (.slice A1 E.length c1) E) := ⟨Kd.R_grown (by repeat (first | (with_reducible exact H1.out) | (with_reducible refine Kd.R_alloc ?_ _) | (with_reducible refine Kd.R_drewN ?_ _) | (with_reducible refine Kd.R_drew ?_))) hg (fun k hk he => by have := HO.out.1 k he.symm; omega)⟩; have HSx : Aside0 (Below 0 wo w9) := ⟨Below.grown (below_then HS.out (Nat.zero_le _) (by repeat (first | (with_reducible exact HW.out) | (with_reducible refine below_alloc ?_ _) | (with_reducible refine pw_below_drewN ?_ _) | (with_reducible refine below_drew ?_)))) hg (Nat.zero_le _) (fun _ _ => Nat.zero_le _)⟩; clear HG0 HG1 HD H1 HS; have HG0 := HG0x; clear HG0x; have HG1 := HG1x; clear HG1x; have HD := HDx; clear HDx; have H1 := H1x; clear H1x; have HS := HSx; clear HSx; have HO6 := Aside0.mk ho; have HB6 := Aside0.mk hb; clear ho hb hg hat)
            | (refine gate_ (.store 33 (.tmp 41) (.tmp 40)) rfl ?_; refine set_event rfl rfl 33 (.tmp 41) (.tmp 40) rfl (w.heap.size + 2) 4 #[.bool ec, .bool rc, .bool dc, .slice A1 E.length c1, .slice A2 i c2] 35 (.slice A6 (i + 1) c6) rfl rfl rfl (by kernel_rfl) HD.out (by simp) rfl ?_; intro w8 hD hT; have HG0x : Aside0 (w8.heap[w.heap.size]? = some (.cells #[.bool ec, .bool rc, .bool dc, .slice AE E.length cE, .slice (some ad) R.length cR] 24 (0, 0))) := ⟨hT.blk HG0.out (by omega)⟩; have HG1x : Aside0 (w8.heap[w.heap.size + 1]? = some (.cells #[.bool false, .bool false, .bool false, .slice none 0 0, .slice none 0 0] 35 (0, 0))) := ⟨hT.blk HG1.out (by omega)⟩; have HO6x : Aside0 (kB.R 77 w8 w.heap.size (fun k => wo.heap.size ≤ k) (.slice A6 (i + 1) c6) (R.take i ++ [x])) := ⟨hT.rk HO6.out HD.out (by decide)⟩; have HB6x : Aside0 (Below w.heap.size w w8) := ⟨hT.below HB6.out (by omega) HB6.out.size⟩; have HSx : Aside0 (Below 0 wo w8) := ⟨hT.below HS.out (Nat.zero_le _) (Nat.zero_le _)⟩; have H1x : Aside0 (kB.R 77 w8 w.heap.size (fun k => k < wo.heap.size) (.slice A1 E.length c1) E) := ⟨hT.rk H1.out HD.out (by decide)⟩; have HDx : Aside0 (w8.heap[w.heap.size + 2]? = some (.cells #[.bool ec, .bool rc, .bool dc, .slice A1 E.length c1, .slice A6 (i + 1) c6] 35 (0, 0))) := ⟨hD⟩; clear HG0 HG1 HO6 HB6 HS H1 HD; have HG0 := HG0x; clear HG0x; have HG1 := HG1x; clear HG1x; have HO6 := HO6x; clear HO6x; have HB6 := HB6x; clear HB6x; have HS := HSx; clear HSx; have H1 := H1x; clear H1x; have HD := HDx; clear HDx; clear hD hT)
            | fail)
          go_roundw
          case rel => exact ⟨i + 1, A6, c6, by go_num, by omega, HG0, HG1, HD, H1, ⟨by rw [HX.out]; exact HO6.out⟩, HS, HB6⟩
          case measure => simp [intOf]; omega
        · have hie : i = R.length := by omega
          subst hie
          have HO2 : Aside0 (kB.R 77 wr 0 (fun _ => True) (.slice A2 R.length c2) R) := ⟨by have := HO.out; rw [List.take_length] at this; exact Kd.R_mono (Kd.R_lower this (Nat.zero_le _)) (fun k hk => trivial)⟩
          have HO3 : Aside0 (kB.R 77 wr 0 (fun _ => True) (.slice A1 E.length c1) E) := ⟨Kd.R_mono (Kd.R_lower H1.out (Nat.zero_le _)) (fun k hk => trivial)⟩
          clear HO H1 b4
          go_wp2_with (first
            | (refine wpList_load_row rfl 35 (.tmp 3) rfl (w.heap.size + 2) rfl 35 #[.bool ec, .bool rc, .bool dc, .slice A1 E.length c1, .slice A2 R.length c2] (0, 0) _ HD.out Try.underlying35 rfl (by kernel_rfl) ?_)
            | (refine wpList_store_row rfl 35 (.tmp 2) (.tmp 43) rfl (w.heap.size + 1) #[.bool ec, .bool rc, .bool dc, .slice A1 E.length c1, .slice A2 R.length c2] rfl rfl 35 _ HG1.out (by kernel_rfl) rfl (by simp [Value.oneCell']) ?_)
            | fail)
          have hT := Touch.row wr (w.heap.size + 1) #[.bool ec, .bool rc, .bool dc, .slice A1 E.length c1, .slice A2 R.length c2]
          refine bodyPost_ret (v := .agg #[.bool ec, .bool rc, .bool dc, .slice A1 E.length c1, .slice A2 R.length c2]) (results_cell_row rfl _ _ (w.heap.size + 1) 35 #[.bool ec, .bool rc, .bool dc, .slice A1 E.length c1, .slice A2 R.length c2] (0, 0) _ rfl (setRow_heap _ _ _ _ _ _ HG1.out) Try.underlying35 rfl (by kernel_rfl)) rfl ⟨_, _, _, _, rfl, Kd.R_mono (hT.rk HO3.out HG1.out (by decide)) (fun _ _ => trivial), Kd.R_mono (hT.rk HO2.out HG1.out (by decide)) (fun _ _ => trivial), below_setRow HB.out (by omega) _⟩

set_option maxHeartbeats 2000000 in
set_option maxRecDepth 100000 in
theorem ours_calls (ec rc dc : Bool) (E R : List Bal) (AE : Option Addr) (cE : Nat) (AR : Option Addr) (cR : Nat) (w : World) (hE : kB.C w AE E.length E) (hR : kB.C w AR R.length R) (hlE : E.length ≤ 900000) (hlR : R.length ≤ 900000) :
    Calls Try.prog 18 #[.agg #[.bool ec, .bool rc, .bool dc, .slice AE E.length cE, .slice AR R.length cR]] w (fun en w' => ∃ A1 c1 A2 c2, en = .returned (.agg #[.bool ec, .bool rc, .bool dc, .slice A1 E.length c1, .slice A2 R.length c2]) ∧ RR w' (.slice A1 E.length c1) E ∧ RR w' (.slice A2 R.length c2) R ∧ Below w.heap.size w w') := by
  have HE := Aside0.mk hE
  have HR := Aside0.mk hR
  clear hE hR
  have HB := Aside0.mk (Below.refl w.heap.size w)
  go_enter Try.func18, Try.ntmps18
  go_wp2_with fail
  go_loopw [18] (fun v18 w' => ∃ (i : Nat) (A1 : Option Addr) (c1 : Nat), v18 = .int .i64 (i : Int) ∧ i ≤ E.length ∧ Aside0 (w'.heap[w.heap.size]? = some (.cells #[.bool ec, .bool rc, .bool dc, .slice AE E.length cE, .slice AR R.length cR] 35 (0, 0))) ∧ Aside0 (w'.heap[w.heap.size + 1]? = some (.cells #[.bool false, .bool false, .bool false, .slice none 0 0, .slice none 0 0] 24 (0, 0))) ∧ Aside0 (w'.heap[w.heap.size + 2]? = some (.cells #[.bool ec, .bool rc, .bool dc, .slice A1 i c1, .slice none 0 0] 24 (0, 0))) ∧ Aside0 (kB.R 78 w' w.heap.size (fun _ => True) (.slice A1 i c1) (E.take i)) ∧ Aside0 (Below w.heap.size w w')) (fun v18 _ => E.length - (intOf v18).toNat)
  case atStart => exact ⟨0, none, 0, rfl, by omega, ⟨blk_alloc (blk_alloc (blk_new _ _) _) _⟩, ⟨blk_alloc (blk_newg (by simp)) _⟩, ⟨blk_newg (by simp)⟩, ⟨Kd.R_nil _ _ _ _ _⟩, ⟨(by repeat (first | (with_reducible exact HB.out) | (with_reducible refine below_alloc ?_ _) | (with_reducible refine pw_below_drewN ?_ _) | (with_reducible refine below_drew ?_)))⟩⟩
  case round =>
    clear HB
    obtain ⟨i, A1, c1, rfl, hi, HG0, HG1, HD, HO, HB⟩ := hrel
    have a3 : wr.cell? ⟨w.heap.size + 2, 3, none⟩ = some (.slice A1 i c1) := blk_cell HD.out 3
    have lt2 := blk_lt HD.out
    by_cases hlt : i < E.length
    · obtain ⟨ad, ea, h0, h1⟩ := at_B (Kd.C_below HE.out HB.out) i hlt
      cases ea
      have HX : Aside0 (E.take (i + 1) = E.take i ++ [E[i]]) := ⟨by rw [List.take_append_getElem hlt]⟩
      have HX1 : Aside0 ((E.take i ++ [E[i]]).length = i + 1) := ⟨by simp; omega⟩
      have HLn : Aside0 ((E.take i).length = i) := ⟨by simp; omega⟩
      generalize E[i] = x at *
      go_wp2_with (first
        | (at_builtin; refine Kd.R_append kB (w0 := w) w.heap.size rfl (.tmp 23) (.tmp 25) 22 78 (.agg #[(.string ⟨#[]⟩), (.int .u16 0)]) 24 rfl Try.underlying22 infoR rfl (by decide) (by omega) (.slice A1 i c1) (E.take i) x [.string x.body, .int .u16 (x.who : Int)] (fun _ => True) (fun _ => False) rfl ?aX ?aP (fun _ hk => hk.elim) ?aF ?aO ?aB ?aS ?aL ?_; (case aX => first | rfl | (simp [Act.eval]; done)); (case aP => exact kB_mkM _ _ _ x); (case aF => exact fun _ _ => trivial); (case aO => exact (by repeat (first | exact HO.out | apply Kd.R_alloc | apply Kd.R_drewN | apply Kd.R_drew))); (case aB => exact (by repeat (first | exact HB.out | apply below_alloc | apply pw_below_drewN | apply below_drew))); (case aS => exact Below.size (by repeat (first | exact HB.out | apply below_alloc | apply pw_below_drewN | apply below_drew))); (case aL => have := HLn.out; omega); intro v9 w9 ho hb hg hat; obtain ⟨A6, c6, ev⟩ := Kd.R_slice ho; rw [HX1.out] at ev; subst ev; have HG0x : Aside0 (w9.heap[w.heap.size]? = some (.cells #[.bool ec, .bool rc, .bool dc, .slice (some ad) E.length cE, .slice AR R.length cR] 35 (0, 0))) := ⟨blk_grown (by repeat (first | (with_reducible exact HG0.out) | (with_reducible refine blk_drew ?_) | (with_reducible refine blk_drewN ?_ _) | (with_reducible refine blk_newg ?_; (simp; done)) | (with_reducible refine blk_alloc ?_ _))) hg (Kd.R_ne HO.out HG0.out (by decide))⟩; have HG1x : Aside0 (w9.heap[w.heap.size + 1]? = some (.cells #[.bool false, .bool false, .bool false, .slice none 0 0, .slice none 0 0] 24 (0, 0))) := ⟨blk_grown (by repeat (first | (with_reducible exact HG1.out) | (with_reducible refine blk_drew ?_) | (with_reducible refine blk_drewN ?_ _) | (with_reducible refine blk_newg ?_; (simp; done)) | (with_reducible refine blk_alloc ?_ _))) hg (Kd.R_ne HO.out HG1.out (by decide))⟩; have HDx : Aside0 (w9.heap[w.heap.size + 2]? = some (.cells #[.bool ec, .bool rc, .bool dc, .slice A1 i c1, .slice none 0 0] 24 (0, 0))) := ⟨blk_grown (by repeat (first | (with_reducible exact HD.out) | (with_reducible refine blk_drew ?_) | (with_reducible refine blk_drewN ?_ _) | (with_reducible refine blk_newg ?_; (simp; done)) | (with_reducible refine blk_alloc ?_ _))) hg (Kd.R_ne HO.out HD.out (by decide))⟩; clear HG0 HG1 HD; have HG0 := HG0x; clear HG0x; have HG1 := HG1x; clear HG1x; have HD := HDx; clear HDx; have HO6 := Aside0.mk ho; have HB6 := Aside0.mk hb; clear ho hb hg hat)
        | (refine gate_ (.store 22 (.tmp 27) (.tmp 26)) rfl ?_; refine set_event rfl rfl 22 (.tmp 27) (.tmp 26) rfl (w.heap.size + 2) 3 #[.bool ec, .bool rc, .bool dc, .slice A1 i c1, .slice none 0 0] 24 (.slice A6 (i + 1) c6) rfl rfl rfl (by kernel_rfl) HD.out (by simp) rfl ?_; intro w8 hD hT; have HG0x : Aside0 (w8.heap[w.heap.size]? = some (.cells #[.bool ec, .bool rc, .bool dc, .slice (some ad) E.length cE, .slice AR R.length cR] 35 (0, 0))) := ⟨hT.blk HG0.out (by omega)⟩; have HG1x : Aside0 (w8.heap[w.heap.size + 1]? = some (.cells #[.bool false, .bool false, .bool false, .slice none 0 0, .slice none 0 0] 24 (0, 0))) := ⟨hT.blk HG1.out (by omega)⟩; have HO6x : Aside0 (kB.R 78 w8 w.heap.size (fun _ => True) (.slice A6 (i + 1) c6) (E.take i ++ [x])) := ⟨hT.rk HO6.out HD.out (by decide)⟩; have HB6x : Aside0 (Below w.heap.size w w8) := ⟨hT.below HB6.out (by omega) HB6.out.size⟩; have HDx : Aside0 (w8.heap[w.heap.size + 2]? = some (.cells #[.bool ec, .bool rc, .bool dc, .slice A6 (i + 1) c6, .slice none 0 0] 24 (0, 0))) := ⟨hD⟩; clear HG0 HG1 HO6 HB6 HD; have HG0 := HG0x; clear HG0x; have HG1 := HG1x; clear HG1x; have HO6 := HO6x; clear HO6x; have HB6 := HB6x; clear HB6x; have HD := HDx; clear HDx; clear hD hT)
        | fail)
      go_roundw
      case rel => exact ⟨i + 1, A6, c6, by go_num, by omega, HG0, HG1, HD, ⟨by rw [HX.out]; exact HO6.out⟩, HB6⟩
      case measure => simp [intOf]; omega
    · have hie : i = E.length := by omega
      subst hie
      have HO1 : Aside0 (kB.R 78 wr w.heap.size (fun k => k < wr.heap.size) (.slice A1 E.length c1) E) := ⟨by have := HO.out; rw [List.take_length] at this; exact Kd.R_mono (Kd.R_bound this) (fun k hk => hk.2.2.1)⟩
      have b0 : wr.cell? ⟨w.heap.size, 4, none⟩ = some (.slice AR R.length cR) := blk_cell HG0.out 4
      clear HO a3
      rename World => wo
      go_wp2_with fail
      have HB2 := Aside0.mk (Below.refl 0 wo)
      go_loopw [32] (fun v32 w' => ∃ (i : Nat) (A2 : Option Addr) (c2 : Nat), v32 = .int .i64 (i : Int) ∧ i ≤ R.length ∧ Aside0 (w'.heap[w.heap.size]? = some (.cells #[.bool ec, .bool rc, .bool dc, .slice AE E.length cE, .slice AR R.length cR] 35 (0, 0))) ∧ Aside0 (w'.heap[w.heap.size + 1]? = some (.cells #[.bool false, .bool false, .bool false, .slice none 0 0, .slice none 0 0] 24 (0, 0))) ∧ Aside0 (w'.heap[w.heap.size + 2]? = some (.cells #[.bool ec, .bool rc, .bool dc, .slice A1 E.length c1, .slice A2 i c2] 24 (0, 0))) ∧ Aside0 (kB.R 78 w' w.heap.size (fun k => k < wo.heap.size) (.slice A1 E.length c1) E) ∧ Aside0 (kB.R 78 w' w.heap.size (fun k => wo.heap.size ≤ k) (.slice A2 i c2) (R.take i)) ∧ Aside0 (Below 0 wo w') ∧ Aside0 (Below w.heap.size w w')) (fun v32 _ => R.length - (intOf v32).toNat)
      case atStart => exact ⟨0, none, 0, rfl, by omega, HG0, HG1, HD, HO1, ⟨Kd.R_nil _ _ _ _ _⟩, HB2, HB⟩
      case round =>
        clear HB HB2 HG0 HG1 HD HO1
        rename_i wq
        obtain ⟨i, A2, c2, rfl, hi, HG0, HG1, HD, H1, HO, HS, HB⟩ := hrel
        have b4 : wr.cell? ⟨w.heap.size + 2, 4, none⟩ = some (.slice A2 i c2) := blk_cell HD.out 4
        have lt3 := blk_lt HD.out
        by_cases hlt : i < R.length
        · obtain ⟨ad, ea, h0, h1⟩ := at_B (Kd.C_below HR.out HB.out) i hlt
          cases ea
          have HX : Aside0 (R.take (i + 1) = R.take i ++ [R[i]]) := ⟨by rw [List.take_append_getElem hlt]⟩
          have HX1 : Aside0 ((R.take i ++ [R[i]]).length = i + 1) := ⟨by simp; omega⟩
          have HLn : Aside0 ((R.take i).length = i) := ⟨by simp; omega⟩
          generalize R[i] = x at *
          have HW := Aside0.mk (Below.refl wr.heap.size wr)
          go_wp2_with (first
            | (at_builtin; refine Kd.R_append kB (w0 := w) w.heap.size rfl (.tmp 37) (.tmp 39) 22 78 (.agg #[(.string ⟨#[]⟩), (.int .u16 0)]) 24 rfl Try.underlying22 infoR rfl (by decide) (by omega) (.slice A2 i c2) (R.take i) x [.string x.body, .int .u16 (x.who : Int)] (fun k => wo.heap.size ≤ k) (fun _ => False) rfl ?aX ?aP (fun _ hk => hk.elim) ?aF ?aO ?aB ?aS ?aL ?_; (case aX => first | rfl | (simp [Act.eval]; done)); (case aP => exact kB_mkM _ _ _ x); (case aF => exact fun k hk => Nat.le_trans (Below.size (below_then HS.out (Nat.zero_le _) (by repeat (first | (with_reducible exact HW.out) | (with_reducible refine below_alloc ?_ _) | (with_reducible refine pw_below_drewN ?_ _) | (with_reducible refine below_drew ?_))))) hk); (case aO => exact (by repeat (first | exact HO.out | apply Kd.R_alloc | apply Kd.R_drewN | apply Kd.R_drew))); (case aB => exact (by repeat (first | exact HB.out | apply below_alloc | apply pw_below_drewN | apply below_drew))); (case aS => exact Below.size (by repeat (first | exact HB.out | apply below_alloc | apply pw_below_drewN | apply below_drew))); (case aL => have := HLn.out; omega); intro v9 w9 ho hb hg hat; obtain ⟨A6, c6, ev⟩ := Kd.R_slice ho; rw [HX1.out] at ev; subst ev; have HG0x : Aside0 (w9.heap[w.heap.size]? = some (.cells #[.bool ec, .bool rc, .bool dc, .slice AE E.length cE, .slice (some ad) R.length cR] 35 (0, 0))) := ⟨blk_grown (by repeat (first | (with_reducible exact HG0.out) | (with_reducible refine blk_drew ?_) | (with_reducible refine blk_drewN ?_ _) | (with_reducible refine blk_newg ?_; (simp; done)) | (with_reducible refine blk_alloc ?_ _))) hg (Kd.R_ne HO.out HG0.out (by decide))⟩; have HG1x : Aside0 (w9.heap[w.heap.size + 1]? = some (.cells #[.bool false, .bool false, .bool false, .slice none 0 0, .slice none 0 0] 24 (0, 0))) := ⟨blk_grown (by repeat (first | (with_reducible exact HG1.out) | (with_reducible refine blk_drew ?_) | (with_reducible refine blk_drewN ?_ _) | (with_reducible refine blk_newg ?_; (simp; done)) | (with_reducible refine blk_alloc ?_ _))) hg (Kd.R_ne HO.out HG1.out (by decide))⟩; have HDx : Aside0 (w9.heap[w.heap.size + 2]? = some (.cells #[.bool ec, .bool rc, .bool dc, .slice A1 E.length c1, .slice A2 i c2] 24 (0, 0))) := ⟨blk_grown (by repeat (first | (with_reducible exact HD.out) | (with_reducible refine blk_drew ?_) | (with_reducible refine blk_drewN ?_ _) | (with_reducible refine blk_newg ?_; (simp; done)) | (with_reducible refine blk_alloc ?_ _))) hg (Kd.R_ne HO.out HD.out (by decide))⟩; have H1x : Aside0 (kB.R 78 w9 w.heap.size (fun k => k < wo.heap.size) (.slice A1 E.length c1) E) := ⟨Kd.R_grown (by repeat (first | (with_reducible exact H1.out) | (with_reducible refine Kd.R_alloc ?_ _) | (with_reducible refine Kd.R_drewN ?_ _) | (with_reducible refine Kd.R_drew ?_))) hg (fun k hk he => by have := HO.out.1 k he.symm; omega)⟩; have HSx : Aside0 (Below 0 wo w9) := ⟨Below.grown (below_then HS.out (Nat.zero_le _) (by repeat (first | (with_reducible exact HW.out) | (with_reducible refine below_alloc ?_ _) | (with_reducible refine pw_below_drewN ?_ _) | (with_reducible refine below_drew ?_)))) hg (Nat.zero_le _) (fun _ _ => Nat.zero_le _)⟩; clear HG0 HG1 HD H1 HS; have HG0 := HG0x; clear HG0x; have HG1 := HG1x; clear HG1x; have HD := HDx; clear HDx; have H1 := H1x; clear H1x; have HS := HSx; clear HSx; have HO6 := Aside0.mk ho; have HB6 := Aside0.mk hb; clear ho hb hg hat)
            | (refine gate_ (.store 22 (.tmp 41) (.tmp 40)) rfl ?_; refine set_event rfl rfl 22 (.tmp 41) (.tmp 40) rfl (w.heap.size + 2) 4 #[.bool ec, .bool rc, .bool dc, .slice A1 E.length c1, .slice A2 i c2] 24 (.slice A6 (i + 1) c6) rfl rfl rfl (by kernel_rfl) HD.out (by simp) rfl ?_; intro w8 hD hT; have HG0x : Aside0 (w8.heap[w.heap.size]? = some (.cells #[.bool ec, .bool rc, .bool dc, .slice AE E.length cE, .slice (some ad) R.length cR] 35 (0, 0))) := ⟨hT.blk HG0.out (by omega)⟩; have HG1x : Aside0 (w8.heap[w.heap.size + 1]? = some (.cells #[.bool false, .bool false, .bool false, .slice none 0 0, .slice none 0 0] 24 (0, 0))) := ⟨hT.blk HG1.out (by omega)⟩; have HO6x : Aside0 (kB.R 78 w8 w.heap.size (fun k => wo.heap.size ≤ k) (.slice A6 (i + 1) c6) (R.take i ++ [x])) := ⟨hT.rk HO6.out HD.out (by decide)⟩; have HB6x : Aside0 (Below w.heap.size w w8) := ⟨hT.below HB6.out (by omega) HB6.out.size⟩; have HSx : Aside0 (Below 0 wo w8) := ⟨hT.below HS.out (Nat.zero_le _) (Nat.zero_le _)⟩; have H1x : Aside0 (kB.R 78 w8 w.heap.size (fun k => k < wo.heap.size) (.slice A1 E.length c1) E) := ⟨hT.rk H1.out HD.out (by decide)⟩; have HDx : Aside0 (w8.heap[w.heap.size + 2]? = some (.cells #[.bool ec, .bool rc, .bool dc, .slice A1 E.length c1, .slice A6 (i + 1) c6] 24 (0, 0))) := ⟨hD⟩; clear HG0 HG1 HO6 HB6 HS H1 HD; have HG0 := HG0x; clear HG0x; have HG1 := HG1x; clear HG1x; have HO6 := HO6x; clear HO6x; have HB6 := HB6x; clear HB6x; have HS := HSx; clear HSx; have H1 := H1x; clear H1x; have HD := HDx; clear HDx; clear hD hT)
            | fail)
          go_roundw
          case rel => exact ⟨i + 1, A6, c6, by go_num, by omega, HG0, HG1, HD, H1, ⟨by rw [HX.out]; exact HO6.out⟩, HS, HB6⟩
          case measure => simp [intOf]; omega
        · have hie : i = R.length := by omega
          subst hie
          have HO2 : Aside0 (kB.R 78 wr 0 (fun _ => True) (.slice A2 R.length c2) R) := ⟨by have := HO.out; rw [List.take_length] at this; exact Kd.R_mono (Kd.R_lower this (Nat.zero_le _)) (fun k hk => trivial)⟩
          have HO3 : Aside0 (kB.R 78 wr 0 (fun _ => True) (.slice A1 E.length c1) E) := ⟨Kd.R_mono (Kd.R_lower H1.out (Nat.zero_le _)) (fun k hk => trivial)⟩
          clear HO H1 b4
          go_wp2_with (first
            | (refine wpList_load_row rfl 24 (.tmp 3) rfl (w.heap.size + 2) rfl 24 #[.bool ec, .bool rc, .bool dc, .slice A1 E.length c1, .slice A2 R.length c2] (0, 0) _ HD.out Try.underlying24 rfl (by kernel_rfl) ?_)
            | (refine wpList_store_row rfl 24 (.tmp 2) (.tmp 43) rfl (w.heap.size + 1) #[.bool ec, .bool rc, .bool dc, .slice A1 E.length c1, .slice A2 R.length c2] rfl rfl 24 _ HG1.out (by kernel_rfl) rfl (by simp [Value.oneCell']) ?_)
            | fail)
          have hT := Touch.row wr (w.heap.size + 1) #[.bool ec, .bool rc, .bool dc, .slice A1 E.length c1, .slice A2 R.length c2]
          refine bodyPost_ret (v := .agg #[.bool ec, .bool rc, .bool dc, .slice A1 E.length c1, .slice A2 R.length c2]) (results_cell_row rfl _ _ (w.heap.size + 1) 24 #[.bool ec, .bool rc, .bool dc, .slice A1 E.length c1, .slice A2 R.length c2] (0, 0) _ rfl (setRow_heap _ _ _ _ _ _ HG1.out) Try.underlying24 rfl (by kernel_rfl)) rfl ⟨_, _, _, _, rfl, Kd.R_mono (hT.rk HO3.out HG1.out (by decide)) (fun _ _ => trivial), Kd.R_mono (hT.rk HO2.out HG1.out (by decide)) (fun _ _ => trivial), below_setRow HB.out (by omega) _⟩
end Go.Proofs.Ytkppilpailbpeaa.Vot
