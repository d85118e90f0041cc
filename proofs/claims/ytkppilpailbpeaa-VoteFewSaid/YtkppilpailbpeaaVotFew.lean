/- The walk of VoteFew. -/
import Derived.Test.YtkppilpailbpeaaVotFewP
namespace Go.Proofs.Ytkppilpailbpeaa.Vot
open Go Go.RowKit Go.Proofs.YtkppilpailbpeaaW.PrintWords Go.Proofs.Ytkppilpailbpeaa.Cnt Go.Proofs.Ytkppilpailbpeaa.Opn
set_option linter.unusedVariables false
set_option linter.unusedSimpArgs false

set_option maxHeartbeats 4000000 in
set_option maxRecDepth 100000 in
theorem few_calls (m : Nat) (fr : Int) (A : Option Addr) (ca : Nat) (l : List Vt) (w : World) (hm : m < 65536) (hf0 : 0 ≤ fr) (hf1 : fr ≤ 255) (hr : Kd.C kV w A l.length l) (hl : l.length ≤ 9223372036854775807) (hok : ∀ x ∈ l, VtOk x) (hbs : ∀ x ∈ l, x.body.size ≤ 9223372036854775807) :
    Calls Try.prog 10 #[.agg #[.int .u16 (m : Int), .int .u8 fr], .slice A l.length ca] w (Kept (.bool true) w) := by
  have HR := Aside0.mk hr
  have HK := Aside0.mk hok
  have HKs := Aside0.mk hbs
  clear hr hok hbs
  have HB := Aside0.mk (Below.refl w.heap.size w)
  obtain ⟨ne, hne⟩ : ∃ ne, echoes (sz m : Nat) = ne := ⟨_, rfl⟩
  obtain ⟨nr, hnr⟩ : ∃ nr, faulty (sz m : Nat) + 1 = nr := ⟨_, rfl⟩
  have HNe := Aside0.mk hne
  have HNr := Aside0.mk hnr
  clear hne hnr
  go_enter Try.func10, Try.ntmps10
  go_wp2_with (first
    | (go_at_call 11; refine (alive_calls _).mono ?_; rintro e w1 ⟨rfl, hb⟩; have HP : Aside0 (w1.heap[w.heap.size]? = some (.cells #[.int .u16 (m : Int), .int .u8 fr] 28 (0, 0))) := ⟨blk_below (by repeat (first | (with_reducible exact HP.out) | (with_reducible refine blk_drew ?_) | (with_reducible refine blk_drewN ?_ _) | (with_reducible refine blk_newg ?_; (simp; done)) | (with_reducible refine blk_alloc ?_ _))) hb⟩; have HBx : Aside0 (Below w.heap.size w w1) := ⟨below_back hb (by repeat (first | (with_reducible exact HB.out) | (with_reducible refine below_alloc ?_ _) | (with_reducible refine pw_below_drewN ?_ _) | (with_reducible refine below_drew ?_)))⟩; clear HB hb; have HB := HBx; clear HBx; have lt1 := blk_lt HP.out; have p0 : w1.cell? ⟨w.heap.size, 0, none⟩ = some (.int .u16 (m : Int)) := blk_cell HP.out 0)
    | (go_at_call 26; refine (rsize_calls m _ hm).mono ?_; rintro e w4 ⟨rfl, hb⟩; have HCB : Aside0 (CaseB w4 w1.heap.size ⟨false, false, false, [], []⟩) := ⟨CaseB.below ⟨none, 0, none, 0, blk_new w1 _, Kd.R_nil _ _ _ _ _, Kd.R_nil _ _ _ _ _⟩ hb⟩; have HPx : Aside0 (w4.heap[w.heap.size]? = some (.cells #[.int .u16 (m : Int), .int .u8 fr] 28 (0, 0))) := ⟨blk_below (by repeat (first | (with_reducible exact HP.out) | (with_reducible refine blk_drew ?_) | (with_reducible refine blk_drewN ?_ _) | (with_reducible refine blk_newg ?_; (simp; done)) | (with_reducible refine blk_alloc ?_ _))) hb⟩; have HBx : Aside0 (Below w.heap.size w w4) := ⟨below_back hb (by repeat (first | (with_reducible exact HB.out) | (with_reducible refine below_alloc ?_ _) | (with_reducible refine pw_below_drewN ?_ _) | (with_reducible refine below_drew ?_)))⟩; clear HP HB; have HP := HPx; clear HPx; have HB := HBx; clear HBx; clear hb)
    | fail)
  go_loopw [7] (fun v7 w' => ∃ (i : Nat) (c : Cas), v7 = .int .i64 (i : Int) ∧ i ≤ l.length ∧ i ≤ 60 ∧ Aside0 (c.readied = enough (sz m : Nat) c) ∧ Aside0 (Good c i) ∧ Aside0 (CaseB w' w1.heap.size c) ∧ Aside0 (w'.heap[w.heap.size]? = some (.cells #[.int .u16 (m : Int), .int .u8 fr] 28 (0, 0))) ∧ Aside0 (Below w.heap.size w w')) (fun v7 _ => l.length - (intOf v7).toNat)
  case atStart => exact ⟨0, ⟨false, false, false, [], []⟩, rfl, by omega, by omega, ⟨rfl⟩, ⟨fun x hx => by simp at hx, fun x hx => by simp at hx, Nat.le_refl _, Nat.le_refl _, fun h => by cases h⟩, HCB, HP, HB⟩
  case round =>
    clear HB HP HCB
    obtain ⟨i, c, rfl, hi, hi60, HN, HG, HCB, HP, HB⟩ := hrel
    by_cases hlt : i < l.length
    · by_cases h60 : i < 60
      · obtain ⟨ad, ea, g0, g1, g2⟩ := at_V (Kd.C_below HR.out HB.out) i hlt
        cases ea
        have hxk := HK.out l[i] (List.getElem_mem _)
        have hxs := HKs.out l[i] (List.getElem_mem _)
        generalize l[i] = x at *
        obtain ⟨⟨k0, k1⟩, w0', w1'⟩ := hxk
        have HBs := Aside0.mk hxs
        clear hxs
        by_cases hbig : 1100 < x.body.size
        · go_wp2_with fail
          go_roundw
          case rel => exact ⟨i + 1, c, by go_num, by omega, by omega, HN, ⟨HG.out.more⟩, ⟨HCB.out.below (below_alloc (Below.refl _ _) _)⟩, ⟨blk_alloc HP.out _⟩, ⟨(by repeat (first | (with_reducible exact HB.out) | (with_reducible refine below_alloc ?_ _) | (with_reducible refine pw_below_drewN ?_ _) | (with_reducible refine below_drew ?_)))⟩⟩
          case measure => simp [intOf]; omega
        · obtain ⟨A1, c1, A2, c2, hC, hr1, hr2⟩ := HCB.out
          have HFw := Aside0.mk (take_few HN.out fr x.kind x.who x.body)
          have HG2 := Aside0.mk (take_good HG.out m fr x.kind x.who x.body)
          obtain ⟨a, ha⟩ : ∃ a, takeM c m fr x.kind x.who x.body = a := ⟨_, rfl⟩
          rw [ha] at HFw HG2
          obtain ⟨d, o, bo, is, er⟩ := a
          have HA := Aside0.mk ha
          have HWE := Aside0.mk HG.out.we
          have HWR := Aside0.mk HG.out.wr
          have HLE : Aside0 (c.echoes.length ≤ 900000) := ⟨by have := HG.out.le; omega⟩
          have HLR : Aside0 (c.readies.length ≤ 900000) := ⟨by have := HG.out.lr; omega⟩
          have HL1 := Aside0.mk (RB_le hr1)
          have HL2 := Aside0.mk (RB_le hr2)
          have HC := Aside0.mk hC
          have H1 := Aside0.mk hr1
          have H2 := Aside0.mk hr2
          have p0 : wr.cell? ⟨w.heap.size, 0, none⟩ = some (.int .u16 (m : Int)) := blk_cell HP.out 0
          have p1 : wr.cell? ⟨w.heap.size, 1, none⟩ = some (.int .u8 fr) := blk_cell HP.out 1
          have ltP := blk_lt HP.out
          have hle9 : d.echoes.length ≤ 61 := by have := HG2.out.le; simp only at this; omega
          have hlr9 : d.readies.length ≤ 61 := by have := HG2.out.lr; simp only at this; omega
          clear ha hC hr1 hr2 HCB
          go_wp2_with (first
            | (refine gate_ (.load 35 (.tmp 5)) rfl ?_; refine wpList_load_row rfl 35 (.tmp 5) rfl (w1.heap.size) rfl 35 #[.bool c.echoed, .bool c.readied, .bool c.done, .slice A1 c.echoes.length c1, .slice A2 c.readies.length c2] (0, 0) _ (by repeat (first | (with_reducible exact HC.out) | (with_reducible refine blk_drew ?_) | (with_reducible refine blk_drewN ?_ _) | (with_reducible refine blk_newg ?_; (simp; done)) | (with_reducible refine blk_alloc ?_ _))) Try.underlying35 rfl (by kernel_rfl) ?_)
            | (go_at_call 14; refine (take_calls c A1 c1 A2 c2 m fr x.kind x.who x.body _ (RB_C (by repeat (first | (with_reducible exact H1.out) | (with_reducible refine Kd.R_alloc ?_ _) | (with_reducible refine Kd.R_drewN ?_ _) | (with_reducible refine Kd.R_drew ?_)))) (RB_C (by repeat (first | (with_reducible exact H2.out) | (with_reducible refine Kd.R_alloc ?_ _) | (with_reducible refine Kd.R_drewN ?_ _) | (with_reducible refine Kd.R_drew ?_)))) HL1.out HL2.out HLE.out HLR.out hm hf0 hf1 w0' w1' k0 k1 HBs.out HWE.out HWR.out).mono ?_; rw [HA.out]; rintro e w2 ⟨v, A3, n3, rfl, ⟨B1, d1, B2, d2, rfl, hr1, hr2⟩, hO, hb⟩; have HCx : Aside0 (w2.heap[w1.heap.size]? = some (.cells #[.bool c.echoed, .bool c.readied, .bool c.done, .slice A1 c.echoes.length c1, .slice A2 c.readies.length c2] 35 (0, 0))) := ⟨blk_below (by repeat (first | (with_reducible exact HC.out) | (with_reducible refine blk_drew ?_) | (with_reducible refine blk_drewN ?_ _) | (with_reducible refine blk_newg ?_; (simp; done)) | (with_reducible refine blk_alloc ?_ _))) hb⟩; have HPx : Aside0 (w2.heap[w.heap.size]? = some (.cells #[.int .u16 (m : Int), .int .u8 fr] 28 (0, 0))) := ⟨blk_below (by repeat (first | (with_reducible exact HP.out) | (with_reducible refine blk_drew ?_) | (with_reducible refine blk_drewN ?_ _) | (with_reducible refine blk_newg ?_; (simp; done)) | (with_reducible refine blk_alloc ?_ _))) hb⟩; have HBx : Aside0 (Below w.heap.size w w2) := ⟨below_back hb (by repeat (first | (with_reducible exact HB.out) | (with_reducible refine below_alloc ?_ _) | (with_reducible refine pw_below_drewN ?_ _) | (with_reducible refine below_drew ?_)))⟩; clear HC HP HB; have HC := HCx; clear HCx; have HP := HPx; clear HPx; have HB := HBx; clear HBx; clear hb H1 H2; have H1 := Aside0.mk hr1; have H2 := Aside0.mk hr2; have HO := Aside0.mk hO; clear hr1 hr2 hO)
            | (refine gate_ (.store 35 (.tmp 5) (.tmp 60)) rfl ?_; refine wpList_store_row rfl 35 (.tmp 5) (.tmp 60) rfl (w1.heap.size) #[.bool d.echoed, .bool d.readied, .bool d.done, .slice B1 d.echoes.length d1, .slice B2 d.readies.length d2] rfl rfl 35 #[.bool c.echoed, .bool c.readied, .bool c.done, .slice A1 c.echoes.length c1, .slice A2 c.readies.length c2] (by repeat (first | (with_reducible exact HC.out) | (with_reducible refine blk_drew ?_) | (with_reducible refine blk_drewN ?_ _) | (with_reducible refine blk_newg ?_; (simp; done)) | (with_reducible refine blk_alloc ?_ _))) (by kernel_rfl) rfl (by simp [Value.oneCell']) ?_; have a3 : ((w2.alloc (.cells #[.bool d.echoed, .bool d.readied, .bool d.done, .slice B1 d.echoes.length d1, .slice B2 d.readies.length d2] 35)).setRow w1.heap.size #[.bool d.echoed, .bool d.readied, .bool d.done, .slice B1 d.echoes.length d1, .slice B2 d.readies.length d2]).cell? ⟨w1.heap.size, 3, none⟩ = some (.slice B1 d.echoes.length d1) := blk_cell (setRow_heap _ _ _ _ _ _ (by repeat (first | (with_reducible exact HC.out) | (with_reducible refine blk_drew ?_) | (with_reducible refine blk_drewN ?_ _) | (with_reducible refine blk_newg ?_; (simp; done)) | (with_reducible refine blk_alloc ?_ _)))) 3)
            | fail)
          have HC3 : Aside0 (((w2.alloc (.cells #[.bool d.echoed, .bool d.readied, .bool d.done, .slice B1 d.echoes.length d1, .slice B2 d.readies.length d2] 35)).setRow w1.heap.size #[.bool d.echoed, .bool d.readied, .bool d.done, .slice B1 d.echoes.length d1, .slice B2 d.readies.length d2]).heap[w1.heap.size]? = some (.cells #[.bool d.echoed, .bool d.readied, .bool d.done, .slice B1 d.echoes.length d1, .slice B2 d.readies.length d2] 35 (0, 0))) := ⟨setRow_heap _ _ _ _ _ _ (by repeat (first | (with_reducible exact HC.out) | (with_reducible refine blk_drew ?_) | (with_reducible refine blk_drewN ?_ _) | (with_reducible refine blk_newg ?_; (simp; done)) | (with_reducible refine blk_alloc ?_ _)))⟩
          have H13 : Aside0 (RB ((w2.alloc (.cells #[.bool d.echoed, .bool d.readied, .bool d.done, .slice B1 d.echoes.length d1, .slice B2 d.readies.length d2] 35)).setRow w1.heap.size #[.bool d.echoed, .bool d.readied, .bool d.done, .slice B1 d.echoes.length d1, .slice B2 d.readies.length d2]) (.slice B1 d.echoes.length d1) d.echoes) := ⟨RB_row (by repeat (first | (with_reducible exact H1.out) | (with_reducible refine Kd.R_alloc ?_ _) | (with_reducible refine Kd.R_drewN ?_ _) | (with_reducible refine Kd.R_drew ?_))) (by repeat (first | (with_reducible exact HC.out) | (with_reducible refine blk_drew ?_) | (with_reducible refine blk_drewN ?_ _) | (with_reducible refine blk_newg ?_; (simp; done)) | (with_reducible refine blk_alloc ?_ _))) (by decide) _⟩
          have H23 : Aside0 (RB ((w2.alloc (.cells #[.bool d.echoed, .bool d.readied, .bool d.done, .slice B1 d.echoes.length d1, .slice B2 d.readies.length d2] 35)).setRow w1.heap.size #[.bool d.echoed, .bool d.readied, .bool d.done, .slice B1 d.echoes.length d1, .slice B2 d.readies.length d2]) (.slice B2 d.readies.length d2) d.readies) := ⟨RB_row (by repeat (first | (with_reducible exact H2.out) | (with_reducible refine Kd.R_alloc ?_ _) | (with_reducible refine Kd.R_drewN ?_ _) | (with_reducible refine Kd.R_drew ?_))) (by repeat (first | (with_reducible exact HC.out) | (with_reducible refine blk_drew ?_) | (with_reducible refine blk_drewN ?_ _) | (with_reducible refine blk_newg ?_; (simp; done)) | (with_reducible refine blk_alloc ?_ _))) (by decide) _⟩
          have HP2 : Aside0 (((w2.alloc (.cells #[.bool d.echoed, .bool d.readied, .bool d.done, .slice B1 d.echoes.length d1, .slice B2 d.readies.length d2] 35)).setRow w1.heap.size #[.bool d.echoed, .bool d.readied, .bool d.done, .slice B1 d.echoes.length d1, .slice B2 d.readies.length d2]).heap[w.heap.size]? = some (.cells #[.int .u16 (m : Int), .int .u8 fr] 28 (0, 0))) := ⟨by rw [setRow_other _ _ _ _ (by omega)]; exact blk_alloc HP.out _⟩
          have HB2 : Aside0 (Below w.heap.size w ((w2.alloc (.cells #[.bool d.echoed, .bool d.readied, .bool d.done, .slice B1 d.echoes.length d1, .slice B2 d.readies.length d2] 35)).setRow w1.heap.size #[.bool d.echoed, .bool d.readied, .bool d.done, .slice B1 d.echoes.length d1, .slice B2 d.readies.length d2])) := ⟨below_setRow (below_alloc HB.out _) (by omega) _⟩
          clear HC H1 H2 HP HB p0 p1 HO HN a3
          have HC := HC3
          have H1 := H13
          have H2 := H23
          have HP := HP2
          have HB := HB2
          clear HC3 H13 H23 HP2 HB2
          go_loopw [14, 64] (fun v14 vj w' => ∃ (j : Nat) (en : Bool), vj = .int .i64 (j : Int) ∧ v14 = .bool en ∧ j ≤ d.echoes.length ∧ Aside0 (en = (anyK ne (d.echoes.take j))) ∧ Aside0 (w'.heap[w1.heap.size]? = some (.cells #[.bool d.echoed, .bool d.readied, .bool d.done, .slice B1 d.echoes.length d1, .slice B2 d.readies.length d2] 35 (0, 0))) ∧ Aside0 (RB w' (.slice B1 d.echoes.length d1) d.echoes) ∧ Aside0 (RB w' (.slice B2 d.readies.length d2) d.readies) ∧ Aside0 (w'.heap[w.heap.size]? = some (.cells #[.int .u16 (m : Int), .int .u8 fr] 28 (0, 0))) ∧ Aside0 (Below w.heap.size w w')) (fun _ vj _ => d.echoes.length - (intOf vj).toNat)
          case atStart => exact ⟨0, false, rfl, rfl, by omega, ⟨by simp [anyK]⟩, HC, H1, H2, HP, HB⟩
          case round =>
            clear HC H1 H2 HP HB
            obtain ⟨j, en, rfl, rfl, hj, HE, HC, H1, H2, HP, HB⟩ := hrel
            by_cases hjl : j < d.echoes.length
            · obtain ⟨ad7, ea7, q0, q1⟩ := at_B (RB_C H1.out) j hjl
              cases ea7
              have htk := anyK_take ne d.echoes j hjl
              have hyw : d.echoes[j].who < 65536 := HG2.out.we _ (List.getElem_mem _)
              generalize d.echoes[j] = y at *
              have HYw := Aside0.mk hyw
              have HTk := Aside0.mk htk
              clear hyw htk
              cases en with
              | true =>
                go_wp2_with fail
                go_roundw
                case rel => exact ⟨j + 1, true, by go_num, rfl, by omega, ⟨by have := HE.out; rw [HTk.out, ← this]; rfl⟩, ⟨(by repeat (first | (with_reducible exact HC.out) | (with_reducible refine blk_drew ?_) | (with_reducible refine blk_drewN ?_ _) | (with_reducible refine blk_newg ?_; (simp; done)) | (with_reducible refine blk_alloc ?_ _)))⟩, ⟨(by repeat (first | (with_reducible exact H1.out) | (with_reducible refine Kd.R_alloc ?_ _) | (with_reducible refine Kd.R_drewN ?_ _) | (with_reducible refine Kd.R_drew ?_)))⟩, ⟨(by repeat (first | (with_reducible exact H2.out) | (with_reducible refine Kd.R_alloc ?_ _) | (with_reducible refine Kd.R_drewN ?_ _) | (with_reducible refine Kd.R_drew ?_)))⟩, ⟨(by repeat (first | (with_reducible exact HP.out) | (with_reducible refine blk_drew ?_) | (with_reducible refine blk_drewN ?_ _) | (with_reducible refine blk_newg ?_; (simp; done)) | (with_reducible refine blk_alloc ?_ _)))⟩, ⟨(by repeat (first | (with_reducible exact HB.out) | (with_reducible refine below_alloc ?_ _) | (with_reducible refine pw_below_drewN ?_ _) | (with_reducible refine below_drew ?_)))⟩⟩
                case measure => simp [intOf]; omega
              | false =>
                go_wp2_with (first
                  | (go_at_call 26; refine (rsize_calls y.who _ HYw.out).mono ?_; rintro e w5 ⟨rfl, hb⟩; have HCx : Aside0 (w5.heap[w1.heap.size]? = some (.cells #[.bool d.echoed, .bool d.readied, .bool d.done, .slice (some ad7) d.echoes.length d1, .slice B2 d.readies.length d2] 35 (0, 0))) := ⟨blk_below (by repeat (first | (with_reducible exact HC.out) | (with_reducible refine blk_drew ?_) | (with_reducible refine blk_drewN ?_ _) | (with_reducible refine blk_newg ?_; (simp; done)) | (with_reducible refine blk_alloc ?_ _))) hb⟩; have H1x : Aside0 (RB w5 (.slice (some ad7) d.echoes.length d1) d.echoes) := ⟨Kd.R_below (by repeat (first | (with_reducible exact H1.out) | (with_reducible refine Kd.R_alloc ?_ _) | (with_reducible refine Kd.R_drewN ?_ _) | (with_reducible refine Kd.R_drew ?_))) hb⟩; have H2x : Aside0 (RB w5 (.slice B2 d.readies.length d2) d.readies) := ⟨Kd.R_below (by repeat (first | (with_reducible exact H2.out) | (with_reducible refine Kd.R_alloc ?_ _) | (with_reducible refine Kd.R_drewN ?_ _) | (with_reducible refine Kd.R_drew ?_))) hb⟩; have HPx : Aside0 (w5.heap[w.heap.size]? = some (.cells #[.int .u16 (m : Int), .int .u8 fr] 28 (0, 0))) := ⟨blk_below (by repeat (first | (with_reducible exact HP.out) | (with_reducible refine blk_drew ?_) | (with_reducible refine blk_drewN ?_ _) | (with_reducible refine blk_newg ?_; (simp; done)) | (with_reducible refine blk_alloc ?_ _))) hb⟩; have HBx : Aside0 (Below w.heap.size w w5) := ⟨below_back hb (by repeat (first | (with_reducible exact HB.out) | (with_reducible refine below_alloc ?_ _) | (with_reducible refine pw_below_drewN ?_ _) | (with_reducible refine below_drew ?_)))⟩; clear HC H1 H2 HP HB; have HC := HCx; clear HCx; have H1 := H1x; clear H1x; have H2 := H2x; clear H2x; have HP := HPx; clear HPx; have HB := HBx; clear HBx; clear hb)
                  | (go_at_call 28; refine (rechoes_calls (sz m : Nat) _).mono ?_; rw [HNe.out]; rintro e w6 ⟨rfl, m6, rfl⟩)
                  | fail)
                go_roundw
                case rel => exact ⟨j + 1, decide (ne ≤ ((sz y.who : Nat) : Int)), by go_num, rfl, by omega, ⟨by have := HE.out; rw [HTk.out, ← this]; rfl⟩, ⟨(by repeat (first | (with_reducible exact HC.out) | (with_reducible refine blk_drew ?_) | (with_reducible refine blk_drewN ?_ _) | (with_reducible refine blk_newg ?_; (simp; done)) | (with_reducible refine blk_alloc ?_ _)))⟩, ⟨(by repeat (first | (with_reducible exact H1.out) | (with_reducible refine Kd.R_alloc ?_ _) | (with_reducible refine Kd.R_drewN ?_ _) | (with_reducible refine Kd.R_drew ?_)))⟩, ⟨(by repeat (first | (with_reducible exact H2.out) | (with_reducible refine Kd.R_alloc ?_ _) | (with_reducible refine Kd.R_drewN ?_ _) | (with_reducible refine Kd.R_drew ?_)))⟩, ⟨(by repeat (first | (with_reducible exact HP.out) | (with_reducible refine blk_drew ?_) | (with_reducible refine blk_drewN ?_ _) | (with_reducible refine blk_newg ?_; (simp; done)) | (with_reducible refine blk_alloc ?_ _)))⟩, ⟨(by repeat (first | (with_reducible exact HB.out) | (with_reducible refine below_alloc ?_ _) | (with_reducible refine pw_below_drewN ?_ _) | (with_reducible refine below_drew ?_)))⟩⟩
                case measure => simp [intOf]; omega
            · have hjn : j = d.echoes.length := by omega
              have HEn : Aside0 (en = (anyK ne d.echoes)) := ⟨by have := HE.out; rwa [hjn, List.take_length] at this⟩
              clear HE hjn
              have a4 : wr.cell? ⟨w1.heap.size, 4, none⟩ = some (.slice B2 d.readies.length d2) := blk_cell HC.out 4
              obtain ⟨ea, hea⟩ : ∃ b, anyK ne d.echoes = b := ⟨_, rfl⟩
              have HEa := Aside0.mk hea
              obtain rfl : ea = en := by rw [HEn.out, hea]
              clear HEn hea
              go_wp2_with fail
              go_loopw [14, 81] (fun v14 vj w' => ∃ (j : Nat) (en : Bool), vj = .int .i64 (j : Int) ∧ v14 = .bool en ∧ j ≤ d.readies.length ∧ Aside0 (en = (ea || anyK nr (d.readies.take j))) ∧ Aside0 (w'.heap[w1.heap.size]? = some (.cells #[.bool d.echoed, .bool d.readied, .bool d.done, .slice B1 d.echoes.length d1, .slice B2 d.readies.length d2] 35 (0, 0))) ∧ Aside0 (RB w' (.slice B1 d.echoes.length d1) d.echoes) ∧ Aside0 (RB w' (.slice B2 d.readies.length d2) d.readies) ∧ Aside0 (w'.heap[w.heap.size]? = some (.cells #[.int .u16 (m : Int), .int .u8 fr] 28 (0, 0))) ∧ Aside0 (Below w.heap.size w w')) (fun _ vj _ => d.readies.length - (intOf vj).toNat)
              case atStart => exact ⟨0, ea, rfl, rfl, by omega, ⟨by simp [anyK]⟩, HC, H1, H2, HP, HB⟩
              case round =>
                clear HC H1 H2 HP HB
                obtain ⟨j, en, rfl, rfl, hj, HE, HC, H1, H2, HP, HB⟩ := hrel
                by_cases hjl : j < d.readies.length
                · obtain ⟨ad7, ea7, q0, q1⟩ := at_B (RB_C H2.out) j hjl
                  cases ea7
                  have htk := anyK_take nr d.readies j hjl
                  have hyw : d.readies[j].who < 65536 := HG2.out.wr _ (List.getElem_mem _)
                  generalize d.readies[j] = y at *
                  have HYw := Aside0.mk hyw
                  have HTk := Aside0.mk htk
                  clear hyw htk
                  cases en with
                  | true =>
                    go_wp2_with fail
                    go_roundw
                    case rel => exact ⟨j + 1, true, by go_num, rfl, by omega, ⟨by have := HE.out; rw [HTk.out, ← Bool.or_assoc, ← this]; rfl⟩, ⟨(by repeat (first | (with_reducible exact HC.out) | (with_reducible refine blk_drew ?_) | (with_reducible refine blk_drewN ?_ _) | (with_reducible refine blk_newg ?_; (simp; done)) | (with_reducible refine blk_alloc ?_ _)))⟩, ⟨(by repeat (first | (with_reducible exact H1.out) | (with_reducible refine Kd.R_alloc ?_ _) | (with_reducible refine Kd.R_drewN ?_ _) | (with_reducible refine Kd.R_drew ?_)))⟩, ⟨(by repeat (first | (with_reducible exact H2.out) | (with_reducible refine Kd.R_alloc ?_ _) | (with_reducible refine Kd.R_drewN ?_ _) | (with_reducible refine Kd.R_drew ?_)))⟩, ⟨(by repeat (first | (with_reducible exact HP.out) | (with_reducible refine blk_drew ?_) | (with_reducible refine blk_drewN ?_ _) | (with_reducible refine blk_newg ?_; (simp; done)) | (with_reducible refine blk_alloc ?_ _)))⟩, ⟨(by repeat (first | (with_reducible exact HB.out) | (with_reducible refine below_alloc ?_ _) | (with_reducible refine pw_below_drewN ?_ _) | (with_reducible refine below_drew ?_)))⟩⟩
                    case measure => simp [intOf]; omega
                  | false =>
                    go_wp2_with (first
                      | (go_at_call 26; refine (rsize_calls y.who _ HYw.out).mono ?_; rintro e w7 ⟨rfl, hb⟩; have HCx : Aside0 (w7.heap[w1.heap.size]? = some (.cells #[.bool d.echoed, .bool d.readied, .bool d.done, .slice B1 d.echoes.length d1, .slice (some ad7) d.readies.length d2] 35 (0, 0))) := ⟨blk_below (by repeat (first | (with_reducible exact HC.out) | (with_reducible refine blk_drew ?_) | (with_reducible refine blk_drewN ?_ _) | (with_reducible refine blk_newg ?_; (simp; done)) | (with_reducible refine blk_alloc ?_ _))) hb⟩; have H1x : Aside0 (RB w7 (.slice B1 d.echoes.length d1) d.echoes) := ⟨Kd.R_below (by repeat (first | (with_reducible exact H1.out) | (with_reducible refine Kd.R_alloc ?_ _) | (with_reducible refine Kd.R_drewN ?_ _) | (with_reducible refine Kd.R_drew ?_))) hb⟩; have H2x : Aside0 (RB w7 (.slice (some ad7) d.readies.length d2) d.readies) := ⟨Kd.R_below (by repeat (first | (with_reducible exact H2.out) | (with_reducible refine Kd.R_alloc ?_ _) | (with_reducible refine Kd.R_drewN ?_ _) | (with_reducible refine Kd.R_drew ?_))) hb⟩; have HPx : Aside0 (w7.heap[w.heap.size]? = some (.cells #[.int .u16 (m : Int), .int .u8 fr] 28 (0, 0))) := ⟨blk_below (by repeat (first | (with_reducible exact HP.out) | (with_reducible refine blk_drew ?_) | (with_reducible refine blk_drewN ?_ _) | (with_reducible refine blk_newg ?_; (simp; done)) | (with_reducible refine blk_alloc ?_ _))) hb⟩; have HBx : Aside0 (Below w.heap.size w w7) := ⟨below_back hb (by repeat (first | (with_reducible exact HB.out) | (with_reducible refine below_alloc ?_ _) | (with_reducible refine pw_below_drewN ?_ _) | (with_reducible refine below_drew ?_)))⟩; clear HC H1 H2 HP HB; have HC := HCx; clear HCx; have H1 := H1x; clear H1x; have H2 := H2x; clear H2x; have HP := HPx; clear HPx; have HB := HBx; clear HBx; clear hb)
                      | (go_at_call 29; refine (rreadies_calls (sz m : Nat) _).mono ?_; rw [HNr.out]; rintro e w8 ⟨rfl, m8, rfl⟩)
                      | fail)
                    go_roundw
                    case rel => exact ⟨j + 1, decide (nr ≤ ((sz y.who : Nat) : Int)), by go_num, rfl, by omega, ⟨by have := HE.out; rw [HTk.out, ← Bool.or_assoc, ← this]; rfl⟩, ⟨(by repeat (first | (with_reducible exact HC.out) | (with_reducible refine blk_drew ?_) | (with_reducible refine blk_drewN ?_ _) | (with_reducible refine blk_newg ?_; (simp; done)) | (with_reducible refine blk_alloc ?_ _)))⟩, ⟨(by repeat (first | (with_reducible exact H1.out) | (with_reducible refine Kd.R_alloc ?_ _) | (with_reducible refine Kd.R_drewN ?_ _) | (with_reducible refine Kd.R_drew ?_)))⟩, ⟨(by repeat (first | (with_reducible exact H2.out) | (with_reducible refine Kd.R_alloc ?_ _) | (with_reducible refine Kd.R_drewN ?_ _) | (with_reducible refine Kd.R_drew ?_)))⟩, ⟨(by repeat (first | (with_reducible exact HP.out) | (with_reducible refine blk_drew ?_) | (with_reducible refine blk_drewN ?_ _) | (with_reducible refine blk_newg ?_; (simp; done)) | (with_reducible refine blk_alloc ?_ _)))⟩, ⟨(by repeat (first | (with_reducible exact HB.out) | (with_reducible refine below_alloc ?_ _) | (with_reducible refine pw_below_drewN ?_ _) | (with_reducible refine below_drew ?_)))⟩⟩
                    case measure => simp [intOf]; omega
                · have hjn : j = d.readies.length := by omega
                  have HEn : Aside0 (en = (ea || anyK nr d.readies)) := ⟨by have := HE.out; rwa [hjn, List.take_length] at this⟩
                  clear HE hjn
                  have hq : d.readied = en := by rw [HEn.out, ← HEa.out, ← HNe.out, ← HNr.out]; exact HFw.out.1
                  cases hi9 : is with
                  | true =>
                    subst hi9
                    have hen : en = true := by rw [← hq, HFw.out.1]; exact HFw.out.2 rfl
                    subst hen
                    have HQ := Aside0.mk hq
                    have a1 : wr.cell? ⟨w1.heap.size, 1, none⟩ = some (.bool d.readied) := blk_cell HC.out 1
                    rw [hq] at a1
                    clear hq
                    go_wp2_with fail
                    go_roundw
                    case rel => exact ⟨i + 1, d, by go_num, by omega, by omega, ⟨HFw.out.1⟩, HG2, ⟨_, _, _, _, HC.out, H1.out, H2.out⟩, HP, HB⟩
                    case measure => simp [intOf]; omega
                  | false =>
                    subst hi9
                    have HQ := Aside0.mk hq
                    have a1 : wr.cell? ⟨w1.heap.size, 1, none⟩ = some (.bool d.readied) := blk_cell HC.out 1
                    rw [hq] at a1
                    clear hq
                    go_wp2_with fail
                    go_roundw
                    case rel => exact ⟨i + 1, d, by go_num, by omega, by omega, ⟨HFw.out.1⟩, HG2, ⟨_, _, _, _, HC.out, H1.out, H2.out⟩, HP, HB⟩
                    case measure => simp [intOf]; omega
      · go_wp2_with fail
        go_ret
        exact ⟨rfl, HB.out⟩
    · go_wp2_with fail
      go_ret
      exact ⟨rfl, HB.out⟩
end Go.Proofs.Ytkppilpailbpeaa.Vot
