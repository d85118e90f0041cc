/- The walk of VoteCasts. -/
import Derived.Test.YtkppilpailbpeaaVotStep
namespace Go.Proofs.Ytkppilpailbpeaa.Vot
open Go Go.RowKit Go.Proofs.YtkppilpailbpeaaW.PrintWords Go.Proofs.Ytkppilpailbpeaa.Cnt Go.Proofs.Ytkppilpailbpeaa.Opn
set_option linter.unusedVariables false
set_option linter.unusedSimpArgs false

theorem b2n_le (b : Bool) : b2n b ≤ 1 := by cases b <;> simp [b2n]
theorem nK_le (k : Int) (l : List Out) : nK k l ≤ l.length := List.length_filter_le _ _
set_option maxHeartbeats 4000000 in
set_option maxRecDepth 100000 in
theorem casts_calls (m : Nat) (fr : Int) (A : Option Addr) (ca : Nat) (l : List Vt) (w : World) (hm : m < 65536) (hf0 : 0 ≤ fr) (hf1 : fr ≤ 255) (hr : Kd.C kV w A l.length l) (hl : l.length ≤ 9223372036854775807) (hok : ∀ x ∈ l, VtOk x) (hbs : ∀ x ∈ l, x.body.size ≤ 9223372036854775807) :
    Calls Try.prog 8 #[.agg #[.int .u16 (m : Int), .int .u8 fr], .slice A l.length ca] w (Kept (.bool true) w) := by
  have HR := Aside0.mk hr
  have HK := Aside0.mk hok
  have HKs := Aside0.mk hbs
  clear hr hok hbs
  have HB := Aside0.mk (Below.refl w.heap.size w)
  go_enter Try.func8, Try.ntmps8
  go_wp2_with (first | (go_at_call 11; refine (alive_calls _).mono ?_; rintro e w1 ⟨rfl, hb⟩; have HP : Aside0 (w1.heap[w.heap.size]? = some (.cells #[.int .u16 (m : Int), .int .u8 fr] 28 (0, 0))) := ⟨blk_below (by repeat (first | (with_reducible exact HP.out) | (with_reducible refine blk_drew ?_) | (with_reducible refine blk_drewN ?_ _) | (with_reducible refine blk_newg ?_; (simp; done)) | (with_reducible refine blk_alloc ?_ _))) hb⟩; have HBx : Aside0 (Below w.heap.size w w1) := ⟨below_back hb (by repeat (first | (with_reducible exact HB.out) | (with_reducible refine below_alloc ?_ _) | (with_reducible refine pw_below_drewN ?_ _) | (with_reducible refine below_drew ?_)))⟩; clear HB hb; have HB := HBx; clear HBx; have lt1 := blk_lt HP.out) | fail)
  go_loopw [6, 7, 8, 9] (fun v6 v7 v8 v9 w' => ∃ (i e r tt : Nat) (c : Cas), v9 = .int .i64 (i : Int) ∧ v6 = .int .i64 (e : Int) ∧ v7 = .int .i64 (r : Int) ∧ v8 = .int .i64 (tt : Int) ∧ i ≤ l.length ∧ i ≤ 60 ∧ Aside0 (e = b2n c.echoed ∧ r = b2n c.readied ∧ tt = b2n c.done) ∧ Aside0 (Good c i) ∧ Aside0 (CaseB w' w1.heap.size c) ∧ Aside0 (w'.heap[w.heap.size]? = some (.cells #[.int .u16 (m : Int), .int .u8 fr] 28 (0, 0))) ∧ Aside0 (Below w.heap.size w w')) (fun _ _ _ v9 _ => l.length - (intOf v9).toNat)
  case atStart => exact ⟨0, 0, 0, 0, ⟨false, false, false, [], []⟩, rfl, rfl, rfl, rfl, by omega, by omega, ⟨rfl, rfl, rfl⟩, ⟨fun x hx => by simp at hx, fun x hx => by simp at hx, Nat.le_refl _, Nat.le_refl _, fun h => by cases h⟩, ⟨none, 0, none, 0, blk_new _ _, Kd.R_nil _ _ _ _ _, Kd.R_nil _ _ _ _ _⟩, ⟨blk_alloc HP.out _⟩, ⟨(by repeat (first | (with_reducible exact HB.out) | (with_reducible refine below_alloc ?_ _) | (with_reducible refine pw_below_drewN ?_ _) | (with_reducible refine below_drew ?_)))⟩⟩
  case round =>
    clear HB HP
    obtain ⟨i, e, r, tt, c, rfl, rfl, rfl, rfl, hi, hi60, HN, HG, HCB, HP, HB⟩ := hrel
    by_cases hlt : i < l.length
    · by_cases h60 : i < 60
      · obtain ⟨ad, ea, g0, g1, g2⟩ := at_V (Kd.C_below HR.out HB.out) i hlt
        cases ea
        have hxk := HK.out l[i] (List.getElem_mem _)
        have hxs := HKs.out l[i] (List.getElem_mem _)
        generalize l[i] = x at *
        obtain ⟨⟨k0, k1⟩, w0', w1'⟩ := hxk
        have HBs := Aside0.mk hxs
        clear hxs
        by_cases hbig : 1100 < x.body.size
        · go_wp2_with fail
          go_roundw
          case rel => exact ⟨i + 1, e, r, tt, c, by go_num, rfl, rfl, rfl, by omega, by omega, HN, ⟨HG.out.more⟩, ⟨HCB.out.below (below_alloc (Below.refl _ _) _)⟩, ⟨blk_alloc HP.out _⟩, ⟨(by repeat (first | (with_reducible exact HB.out) | (with_reducible refine below_alloc ?_ _) | (with_reducible refine pw_below_drewN ?_ _) | (with_reducible refine below_drew ?_)))⟩⟩
          case measure => simp [intOf]; omega
        · obtain ⟨A1, c1, A2, c2, hC, hr1, hr2⟩ := HCB.out
          have HS := Aside0.mk (take_step c m fr x.kind x.who x.body)
          have HG2 := Aside0.mk (take_good HG.out m fr x.kind x.who x.body)
          obtain ⟨a, ha⟩ : ∃ a, takeM c m fr x.kind x.who x.body = a := ⟨_, rfl⟩
          rw [ha] at HS HG2
          obtain ⟨d, o, bo, is, er⟩ := a
          have HA := Aside0.mk ha
          have HWE := Aside0.mk HG.out.we
          have HWR := Aside0.mk HG.out.wr
          have HLE : Aside0 (c.echoes.length ≤ 900000) := ⟨by have := HG.out.le; omega⟩
          have HLR : Aside0 (c.readies.length ≤ 900000) := ⟨by have := HG.out.lr; omega⟩
          have HL1 := Aside0.mk (RB_le hr1)
          have HL2 := Aside0.mk (RB_le hr2)
          have HC := Aside0.mk hC
          have H1 := Aside0.mk hr1
          have H2 := Aside0.mk hr2
          have p0 : wr.cell? ⟨w.heap.size, 0, none⟩ = some (.int .u16 (m : Int)) := blk_cell HP.out 0
          have p1 : wr.cell? ⟨w.heap.size, 1, none⟩ = some (.int .u8 fr) := blk_cell HP.out 1
          have ltP := blk_lt HP.out
          have holen : o.length ≤ 1 := HS.out.n
          clear ha hC hr1 hr2 HCB
          go_wp2_with (first
            | (refine gate_ (.load 35 (.tmp 5)) rfl ?_; refine wpList_load_row rfl 35 (.tmp 5) rfl (w1.heap.size) rfl 35 #[.bool c.echoed, .bool c.readied, .bool c.done, .slice A1 c.echoes.length c1, .slice A2 c.readies.length c2] (0, 0) _ (by repeat (first | (with_reducible exact HC.out) | (with_reducible refine blk_drew ?_) | (with_reducible refine blk_drewN ?_ _) | (with_reducible refine blk_newg ?_; (simp; done)) | (with_reducible refine blk_alloc ?_ _))) Try.underlying35 rfl (by kernel_rfl) ?_)
            | (go_at_call 14; refine (take_calls c A1 c1 A2 c2 m fr x.kind x.who x.body _ (RB_C (by repeat (first | (with_reducible exact H1.out) | (with_reducible refine Kd.R_alloc ?_ _) | (with_reducible refine Kd.R_drewN ?_ _) | (with_reducible refine Kd.R_drew ?_)))) (RB_C (by repeat (first | (with_reducible exact H2.out) | (with_reducible refine Kd.R_alloc ?_ _) | (with_reducible refine Kd.R_drewN ?_ _) | (with_reducible refine Kd.R_drew ?_)))) HL1.out HL2.out HLE.out HLR.out hm hf0 hf1 w0' w1' k0 k1 HBs.out HWE.out HWR.out).mono ?_; rw [HA.out]; rintro e w2 ⟨v, A3, n3, rfl, ⟨B1, d1, B2, d2, rfl, hr1, hr2⟩, hO, hb⟩; have HCx : Aside0 (w2.heap[w1.heap.size]? = some (.cells #[.bool c.echoed, .bool c.readied, .bool c.done, .slice A1 c.echoes.length c1, .slice A2 c.readies.length c2] 35 (0, 0))) := ⟨blk_below (by repeat (first | (with_reducible exact HC.out) | (with_reducible refine blk_drew ?_) | (with_reducible refine blk_drewN ?_ _) | (with_reducible refine blk_newg ?_; (simp; done)) | (with_reducible refine blk_alloc ?_ _))) hb⟩; have HPx : Aside0 (w2.heap[w.heap.size]? = some (.cells #[.int .u16 (m : Int), .int .u8 fr] 28 (0, 0))) := ⟨blk_below (by repeat (first | (with_reducible exact HP.out) | (with_reducible refine blk_drew ?_) | (with_reducible refine blk_drewN ?_ _) | (with_reducible refine blk_newg ?_; (simp; done)) | (with_reducible refine blk_alloc ?_ _))) hb⟩; have HBx : Aside0 (Below w.heap.size w w2) := ⟨below_back hb (by repeat (first | (with_reducible exact HB.out) | (with_reducible refine below_alloc ?_ _) | (with_reducible refine pw_below_drewN ?_ _) | (with_reducible refine below_drew ?_)))⟩; clear HC HP HB; have HC := HCx; clear HCx; have HP := HPx; clear HPx; have HB := HBx; clear HBx; clear hb H1 H2; have H1 := Aside0.mk hr1; have H2 := Aside0.mk hr2; have HO := Aside0.mk hO; clear hr1 hr2 hO)
            | (refine gate_ (.store 35 (.tmp 5) (.tmp 56)) rfl ?_; refine wpList_store_row rfl 35 (.tmp 5) (.tmp 56) rfl (w1.heap.size) #[.bool d.echoed, .bool d.readied, .bool d.done, .slice B1 d.echoes.length d1, .slice B2 d.readies.length d2] rfl rfl 35 #[.bool c.echoed, .bool c.readied, .bool c.done, .slice A1 c.echoes.length c1, .slice A2 c.readies.length c2] (by repeat (first | (with_reducible exact HC.out) | (with_reducible refine blk_drew ?_) | (with_reducible refine blk_drewN ?_ _) | (with_reducible refine blk_newg ?_; (simp; done)) | (with_reducible refine blk_alloc ?_ _))) (by kernel_rfl) rfl (by simp [Value.oneCell']) ?_)
            | fail)
          have HCB2 : Aside0 (CaseB ((w2.alloc (.cells #[.bool d.echoed, .bool d.readied, .bool d.done, .slice B1 d.echoes.length d1, .slice B2 d.readies.length d2] 35)).setRow w1.heap.size #[.bool d.echoed, .bool d.readied, .bool d.done, .slice B1 d.echoes.length d1, .slice B2 d.readies.length d2]) w1.heap.size d) := ⟨CaseB.stored (by repeat (first | (with_reducible exact HC.out) | (with_reducible refine blk_drew ?_) | (with_reducible refine blk_drewN ?_ _) | (with_reducible refine blk_newg ?_; (simp; done)) | (with_reducible refine blk_alloc ?_ _))) (by repeat (first | (with_reducible exact H1.out) | (with_reducible refine Kd.R_alloc ?_ _) | (with_reducible refine Kd.R_drewN ?_ _) | (with_reducible refine Kd.R_drew ?_))) (by repeat (first | (with_reducible exact H2.out) | (with_reducible refine Kd.R_alloc ?_ _) | (with_reducible refine Kd.R_drewN ?_ _) | (with_reducible refine Kd.R_drew ?_)))⟩
          have HO2 : Aside0 (RO ((w2.alloc (.cells #[.bool d.echoed, .bool d.readied, .bool d.done, .slice B1 d.echoes.length d1, .slice B2 d.readies.length d2] 35)).setRow w1.heap.size #[.bool d.echoed, .bool d.readied, .bool d.done, .slice B1 d.echoes.length d1, .slice B2 d.readies.length d2]) (.slice A3 o.length n3) o) := ⟨RO_row (by repeat (first | (with_reducible exact HO.out) | (with_reducible refine Kd.R_alloc ?_ _) | (with_reducible refine Kd.R_drewN ?_ _) | (with_reducible refine Kd.R_drew ?_))) (by repeat (first | (with_reducible exact HC.out) | (with_reducible refine blk_drew ?_) | (with_reducible refine blk_drewN ?_ _) | (with_reducible refine blk_newg ?_; (simp; done)) | (with_reducible refine blk_alloc ?_ _))) (by decide) _⟩
          have HP2 : Aside0 (((w2.alloc (.cells #[.bool d.echoed, .bool d.readied, .bool d.done, .slice B1 d.echoes.length d1, .slice B2 d.readies.length d2] 35)).setRow w1.heap.size #[.bool d.echoed, .bool d.readied, .bool d.done, .slice B1 d.echoes.length d1, .slice B2 d.readies.length d2]).heap[w.heap.size]? = some (.cells #[.int .u16 (m : Int), .int .u8 fr] 28 (0, 0))) := ⟨by rw [setRow_other _ _ _ _ (by omega)]; exact blk_alloc HP.out _⟩
          have HB2 : Aside0 (Below w.heap.size w ((w2.alloc (.cells #[.bool d.echoed, .bool d.readied, .bool d.done, .slice B1 d.echoes.length d1, .slice B2 d.readies.length d2] 35)).setRow w1.heap.size #[.bool d.echoed, .bool d.readied, .bool d.done, .slice B1 d.echoes.length d1, .slice B2 d.readies.length d2])) := ⟨below_setRow (below_alloc HB.out _) (by omega) _⟩
          obtain ⟨hn1, hn2, hn3⟩ := HN.out
          have he0 := b2n_le c.echoed
          have hr0 := b2n_le c.readied
          have ht0 := b2n_le c.done
          have hes : e ≤ 1 := by omega
          have hrs : r ≤ 1 := by omega
          have hts : tt ≤ 1 := by omega
          have HN1 := Aside0.mk hn1
          have HN2 := Aside0.mk hn2
          have HN3 := Aside0.mk hn3
          clear hn1 hn2 hn3 he0 hr0 ht0 HN HC HP HB H1 H2 HO p0 p1
          go_loopw [6, 7, 59] (fun v6 v7 v59 w' => ∃ (j e1 r1 : Nat), v59 = .int .i64 (j : Int) ∧ v6 = .int .i64 (e1 : Int) ∧ v7 = .int .i64 (r1 : Int) ∧ j ≤ o.length ∧ e1 ≤ 1 + j ∧ r1 ≤ 1 + j ∧ Aside0 (e1 = b2n c.echoed + nK 2 (o.take j) ∧ r1 = b2n c.readied + nK 3 (o.take j)) ∧ Aside0 (CaseB w' w1.heap.size d) ∧ Aside0 (RO w' (.slice A3 o.length n3) o) ∧ Aside0 (w'.heap[w.heap.size]? = some (.cells #[.int .u16 (m : Int), .int .u8 fr] 28 (0, 0))) ∧ Aside0 (Below w.heap.size w w')) (fun _ _ v59 _ => o.length - (intOf v59).toNat)
          case atStart => exact ⟨0, e, r, rfl, rfl, rfl, by omega, by omega, by omega, ⟨by simp [nK, HN1.out], by simp [nK, HN2.out]⟩, HCB2, HO2, HP2, HB2⟩
          case round =>
            clear HCB2 HO2 HP2 HB2
            obtain ⟨j, e1, r1, rfl, rfl, rfl, hj, hj1, hj2, HE, HCB, HO, HP, HB⟩ := hrel
            by_cases hjl : j < o.length
            · obtain ⟨ad3, ea, q0, q1⟩ := at_O (Kd.R_reads' HO.out).2.2 j hjl
              cases ea
              have hk2 := nK_take 2 o j hjl
              have hk3 := nK_take 3 o j hjl
              have hk : o[j].kind = 2 ∨ o[j].kind = 3 := HS.out.k o[j] (List.getElem_mem _)
              generalize o[j] = y at *
              obtain ⟨yk, yb⟩ := y
              simp only at q0 q1 hk hk2 hk3
              rcases hk with rfl | rfl
              · have HK2 : Aside0 (nK 2 (o.take (j + 1)) = nK 2 (o.take j) + 1) := ⟨by simpa using hk2⟩
                have HK3 : Aside0 (nK 3 (o.take (j + 1)) = nK 3 (o.take j)) := ⟨by simpa using hk3⟩
                clear hk2 hk3
                go_wp2_with fail
                go_roundw
                case rel => exact ⟨j + 1, e1 + 1, r1, by go_num, by go_num, rfl, by omega, by omega, by omega, ⟨by have := HE.out.1; have := HK2.out; omega, by have := HE.out.2; have := HK3.out; omega⟩, ⟨HCB.out.below (below_alloc (Below.refl _ _) _)⟩, ⟨Kd.R_alloc HO.out _⟩, ⟨blk_alloc HP.out _⟩, ⟨(by repeat (first | (with_reducible exact HB.out) | (with_reducible refine below_alloc ?_ _) | (with_reducible refine pw_below_drewN ?_ _) | (with_reducible refine below_drew ?_)))⟩⟩
                case measure => simp [intOf]; omega
              · have HK2 : Aside0 (nK 2 (o.take (j + 1)) = nK 2 (o.take j)) := ⟨by simpa using hk2⟩
                have HK3 : Aside0 (nK 3 (o.take (j + 1)) = nK 3 (o.take j) + 1) := ⟨by simpa using hk3⟩
                clear hk2 hk3
                go_wp2_with fail
                go_roundw
                case rel => exact ⟨j + 1, e1, r1 + 1, by go_num, rfl, by go_num, by omega, by omega, by omega, ⟨by have := HE.out.1; have := HK2.out; omega, by have := HE.out.2; have := HK3.out; omega⟩, ⟨HCB.out.below (below_alloc (Below.refl _ _) _)⟩, ⟨Kd.R_alloc HO.out _⟩, ⟨blk_alloc HP.out _⟩, ⟨(by repeat (first | (with_reducible exact HB.out) | (with_reducible refine below_alloc ?_ _) | (with_reducible refine pw_below_drewN ?_ _) | (with_reducible refine below_drew ?_)))⟩⟩
                case measure => simp [intOf]; omega
            · have hjo : j = o.length := by omega
              obtain ⟨hq1, hq2⟩ := HE.out
              rw [hjo, List.take_length] at hq1 hq2
              have s1 := HS.out.e
              have s2 := HS.out.r
              have s3 := HS.out.d
              have s4 := HG2.out.dr
              simp only at s1 s2 s3 s4
              have u1 : e1 = b2n d.echoed := by omega
              have u2 : r1 = b2n d.readied := by omega
              have u3 : tt + b2n is = b2n d.done := by have := HN3.out; omega
              obtain ⟨A5, c5, A6, c6, hD, _, _⟩ := HCB.out
              have a0 : wr.cell? ⟨w1.heap.size, 0, none⟩ = some (.bool d.echoed) := blk_cell hD 0
              have a1 : wr.cell? ⟨w1.heap.size, 1, none⟩ = some (.bool d.readied) := blk_cell hD 1
              have a2 : wr.cell? ⟨w1.heap.size, 2, none⟩ = some (.bool d.done) := blk_cell hD 2
              have t1 : e1 ≤ 1 := by rw [u1]; exact b2n_le _
              have t2 : r1 ≤ 1 := by rw [u2]; exact b2n_le _
              have t3 : tt + b2n is ≤ r1 := by
                rw [u3, u2]
                cases h1 : d.done with
                | true => rw [s4 h1]; exact Nat.le_refl _
                | false => simp [b2n]
              have HE1 := Aside0.mk u1
              have HE2 := Aside0.mk u2
              have HE3 := Aside0.mk u3
              have HDR := Aside0.mk s4
              clear hD hjo hq1 hq2 s1 s2 s3 s4 u1 u2 u3 HE
              cases hi9 : is with
              | true =>
                subst hi9
                have t3 : tt + 1 ≤ r1 := by simpa [b2n] using t3
                have v1 : d.done = (((tt : Int) + 1) == 1) := by have := HE3.out; cases hh : d.done <;> simp [b2n, hh] at this ⊢ <;> omega
                have v2 : d.readied = ((r1 : Int) == 1) := by have := HE2.out; cases hh : d.readied <;> simp [b2n, hh] at this ⊢ <;> omega
                have v3 : d.echoed = ((e1 : Int) == 1) := by have := HE1.out; cases hh : d.echoed <;> simp [b2n, hh] at this ⊢ <;> omega
                have HE4 : Aside0 (tt + 1 = b2n d.done) := ⟨by have := HE3.out; simpa [b2n] using this⟩
                go_wp2_with fail
                go_roundw
                case rel => exact ⟨i + 1, e1, r1, tt + 1, d, by go_num, rfl, rfl, by go_num, by omega, by omega, ⟨HE1.out, HE2.out, HE4.out⟩, HG2, HCB, HP, HB⟩
                case measure => simp [intOf]; omega
              | false =>
                subst hi9
                have t3 : tt ≤ r1 := by simpa [b2n] using t3
                have v1 : d.done = ((tt : Int) == 1) := by have := HE3.out; cases hh : d.done <;> simp [b2n, hh] at this ⊢ <;> omega
                have v2 : d.readied = ((r1 : Int) == 1) := by have := HE2.out; cases hh : d.readied <;> simp [b2n, hh] at this ⊢ <;> omega
                have v3 : d.echoed = ((e1 : Int) == 1) := by have := HE1.out; cases hh : d.echoed <;> simp [b2n, hh] at this ⊢ <;> omega
                have HE4 : Aside0 (tt = b2n d.done) := ⟨by have := HE3.out; simpa [b2n] using this⟩
                go_wp2_with fail
                go_roundw
                case rel => exact ⟨i + 1, e1, r1, tt, d, by go_num, rfl, rfl, rfl, by omega, by omega, ⟨HE1.out, HE2.out, HE4.out⟩, HG2, HCB, HP, HB⟩
                case measure => simp [intOf]; omega
      · go_wp2_with fail
        go_ret
        exact ⟨rfl, HB.out⟩
    · go_wp2_with fail
      go_ret
      exact ⟨rfl, HB.out⟩
end Go.Proofs.Ytkppilpailbpeaa.Vot
