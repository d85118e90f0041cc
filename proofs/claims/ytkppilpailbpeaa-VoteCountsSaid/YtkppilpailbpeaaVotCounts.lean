/- The walk of VoteCounts. -/
import Derived.Test.YtkppilpailbpeaaVotCntP
import Derived.Deep.RegionHeld3
namespace Go.Proofs.Ytkppilpailbpeaa.Vot
open Go Go.RowKit Go.Proofs.YtkppilpailbpeaaW.PrintWords Go.Proofs.Ytkppilpailbpeaa.Cnt Go.Proofs.Ytkppilpailbpeaa.Opn Go.Proofs.Ytkppilpailbpeaa.Sep
set_option linter.unusedVariables false
set_option linter.unusedSimpArgs false

set_option maxHeartbeats 2000000 in
set_option maxRecDepth 100000 in
theorem sound_yes (A : Option Addr) (c : Nat) (l : List Bal) (w : World) (hr : kB.C w A l.length l) (hl : l.length ≤ 1000000) (hw : ∀ x ∈ l, x.who < 65536) (hs : SoundL l) :
    Calls Try.prog 13 #[.slice A l.length c] w (fun e w' => e = .returned (.bool true) ∧ ∃ m, w' = w.drewN m) := by
  have HR := Aside0.mk hr
  have HWh := Aside0.mk hw
  have HS := Aside0.mk (List.pairwise_iff_getElem.1 hs)
  clear hr hw hs
  go_enter Try.func13, Try.ntmps13
  go_wp2_with fail
  go_loopw [3] (fun v3 w' => ∃ (i : Nat) (m : Nat), v3 = .int .i64 (i : Int) ∧ i ≤ l.length ∧ w' = w.drewN m) (fun v3 _ => l.length - (intOf v3).toNat)
  case atStart => exact ⟨0, 0, rfl, by omega, rfl⟩
  case round =>
    obtain ⟨i, m, rfl, hi, rfl⟩ := hrel
    by_cases hlt : i < l.length
    · go_wp2_with fail
      go_loopw [4] (fun v4 w' => ∃ (j : Nat) (m : Nat), v4 = .int .i64 (j : Int) ∧ j ≤ i ∧ w' = w.drewN m) (fun v4 _ => i - (intOf v4).toNat)
      case atStart => exact ⟨0, m, rfl, by omega, rfl⟩
      case round =>
        obtain ⟨j, m, rfl, hj, rfl⟩ := hrel
        by_cases hji : j < i
        · obtain ⟨ad, ea, h0, h1⟩ := at_B HR.out i hlt
          cases ea
          obtain ⟨ad', ea', k0, k1⟩ := at_B HR.out j (by omega)
          cases ea'
          have hx := HWh.out l[i] (List.getElem_mem _)
          have hy := HWh.out l[j] (List.getElem_mem _)
          obtain ⟨hne, hz⟩ := HS.out j i (by omega) hlt hji
          generalize l[i] = x at *
          generalize l[j] = y at *
          have hnn := u16_and_nat x.who y.who hx hy
          rw [Nat.and_comm, hz] at hnn
          have q0 : 0 ≤ bits .and .u16 (x.who : Int) (y.who : Int) := by rw [hnn]; omega
          have hbq : (bits .and .u16 (x.who : Int) (y.who : Int) != 0) = false := by rw [hnn]; rfl
          have hq : (x.body.toList == y.body.toList) = false := (bytes_ne _ _).2 (fun e => hne e.symm)
          clear hnn hx hy hne hz
          have g0 : 0 ≤ (i : Int) := by omega
          have g1 : (i : Int) < (l.length : Int) := by omega
          have g2 : 0 ≤ (j : Int) := by omega
          have g3 : (j : Int) < (l.length : Int) := by omega
          have g4 : (j : Int) < (i : Int) := by omega
          have HI := Aside0.mk hi
          go_wp2_with fail
          go_quiet (fail)
          go_wp2_with fail
          go_roundw
          case rel => exact ⟨j + 1, _, by go_num, by omega, rfl⟩
          case measure => simp [intOf]; omega
        · go_wp2_with fail
          go_roundw
          case rel => exact ⟨i + 1, m, by go_num, by omega, rfl⟩
          case measure => simp [intOf]; omega
    · go_wp2_with fail
      go_ret
      exact ⟨rfl, _, rfl⟩
structure CntF (w : World) (g : Nat) (PC CC : Array Value) (d : Cas) (o : List Out) (B1 : Option Addr) (d1 : Nat) (B2 : Option Addr) (d2 : Nat) (A3 : Option Addr) (n3 : Nat) (W : World) : Prop where
  hp : W.heap[w.heap.size]? = some (.cells PC 28 (0, 0))
  hc : W.heap[g]? = some (.cells CC 35 (0, 0))
  b1 : RB W (.slice B1 d.echoes.length d1) d.echoes
  b2 : RB W (.slice B2 d.readies.length d2) d.readies
  o1 : RO W (.slice A3 o.length n3) o
  hb : Below w.heap.size w W
section
variable {w : World} {g : Nat} {PC CC : Array Value} {d : Cas} {o : List Out} {B1 : Option Addr} {d1 : Nat} {B2 : Option Addr} {d2 : Nat} {A3 : Option Addr} {n3 : Nat} {W W' : World}
theorem CntF.below (h : CntF w g PC CC d o B1 d1 B2 d2 A3 n3 W) (hb : Below W.heap.size W W') : CntF w g PC CC d o B1 d1 B2 d2 A3 n3 W' :=
  ⟨blk_below h.hp hb, blk_below h.hc hb, Kd.R_below h.b1 hb, Kd.R_below h.b2 hb, Kd.R_below h.o1 hb, below_then h.hb h.hb.size hb⟩
theorem CntF.alloc (h : CntF w g PC CC d o B1 d1 B2 d2 A3 n3 W) (x : Obj) : CntF w g PC CC d o B1 d1 B2 d2 A3 n3 (W.alloc x) := h.below (below_alloc (Below.refl _ _) _)
theorem CntF.drew (h : CntF w g PC CC d o B1 d1 B2 d2 A3 n3 W) : CntF w g PC CC d o B1 d1 B2 d2 A3 n3 W.drew := h.below (below_drew (Below.refl _ _))
theorem CntF.drewN (h : CntF w g PC CC d o B1 d1 B2 d2 A3 n3 W) (n : Nat) : CntF w g PC CC d o B1 d1 B2 d2 A3 n3 (W.drewN n) := h.below (pw_below_drewN (Below.refl _ _) n)
theorem cnt_call {P : Program} {f : FuncId} {args : Array Value} {R : Ending → World → Prop} (h : CntF w g PC CC d o B1 d1 B2 d2 A3 n3 W) (k : CntF w g PC CC d o B1 d1 B2 d2 A3 n3 W → Calls P f args W R) : Calls P f args W R := k h
theorem CntF.stored {old : Array Value} {x : Obj} (hp : W.heap[w.heap.size]? = some (.cells PC 28 (0, 0))) (hc : W.heap[g]? = some (.cells old 35 (0, 0))) (ne : w.heap.size < g) (b1 : RB W (.slice B1 d.echoes.length d1) d.echoes) (b2 : RB W (.slice B2 d.readies.length d2) d.readies) (o1 : RO W (.slice A3 o.length n3) o) (hb : Below w.heap.size w W) :
    CntF w g PC CC d o B1 d1 B2 d2 A3 n3 ((W.alloc x).setRow g CC) := by
  have hn := below_alloc (Below.refl W.heap.size W) x
  have k := blk_below hc hn
  have tB : ∀ q, q ∈ 77 :: kB.E → q ≠ 35 := fun q hq => by rw [kB_ty q hq]; decide
  have tO : ∀ q, q ∈ 72 :: kO.E → q ≠ 35 := fun q hq => by rw [kO_ty q hq]; decide
  exact ⟨(setRow_other _ _ _ _ (by omega)).trans (blk_below hp hn), setRow_heap _ _ _ _ _ _ k, rowR_row (Kd.R_below b1 hn) k tB _, rowR_row (Kd.R_below b2 hn) k tB _, rowR_row (Kd.R_below o1 hn) k tO _, below_setRow (below_then hb hb.size hn) (by omega) _⟩
end
theorem fieldr_run (d : Cas) : ∀ (W : World) (Y1 Y2 : Option Addr) (y1 y2 : Nat), (Instr.field 24 (.agg #[.bool d.echoed, .bool d.readied, .bool d.done, .slice Y1 d.echoes.length y1, .slice Y2 d.readies.length y2]) 3).run Try.prog W = .ok (.slice Y1 d.echoes.length y1) W := fun W Y1 Y2 y1 y2 => by kernel_rfl
theorem fieldr_run4 (d : Cas) : ∀ (W : World) (Y1 Y2 : Option Addr) (y1 y2 : Nat), (Instr.field 24 (.agg #[.bool d.echoed, .bool d.readied, .bool d.done, .slice Y1 d.echoes.length y1, .slice Y2 d.readies.length y2]) 4).run Try.prog W = .ok (.slice Y2 d.readies.length y2) W := fun W Y1 Y2 y1 y2 => by kernel_rfl

set_option maxHeartbeats 4000000 in
set_option maxRecDepth 100000 in
theorem vcounts_calls (m : Nat) (fr : Int) (A : Option Addr) (ca : Nat) (l : List Vt) (w : World) (hm : m < 65536) (hf0 : 0 ≤ fr) (hf1 : fr ≤ 255) (hr : Kd.C kV w A l.length l) (hl : l.length ≤ 9223372036854775807) (hok : ∀ x ∈ l, VtOk x) (hbs : ∀ x ∈ l, x.body.size ≤ 9223372036854775807) :
    Calls Try.prog 9 #[.agg #[.int .u16 (m : Int), .int .u8 fr], .slice A l.length ca] w (Kept (.bool true) w) := by
  have HR := Aside0.mk hr
  have HK := Aside0.mk hok
  have HKs := Aside0.mk hbs
  clear hr hok hbs
  have HB := Aside0.mk (Below.refl w.heap.size w)
  go_enter Try.func9, Try.ntmps9
  go_wp2_with (first | (go_at_call 11; refine (alive_calls _).mono ?_; rintro e w1 ⟨rfl, hb⟩; have HP : Aside0 (w1.heap[w.heap.size]? = some (.cells #[.int .u16 (m : Int), .int .u8 fr] 28 (0, 0))) := ⟨blk_below (by repeat (first | (with_reducible refine blk_newg ?_; (simp; done)) | (with_reducible refine blk_drew ?_) | (with_reducible refine blk_drewN ?_ _) | (with_reducible refine blk_alloc ?_ _))) hb⟩; have HBx : Aside0 (Below w.heap.size w w1) := ⟨below_back hb (by repeat (first | (with_reducible exact HB.out) | (with_reducible refine below_alloc ?_ _) | (with_reducible refine pw_below_drewN ?_ _) | (with_reducible refine below_drew ?_)))⟩; clear HB hb; have HB := HBx; clear HBx; have lt1 := blk_lt HP.out; have p00 : w1.cell? ⟨w.heap.size, 0, none⟩ = some (.int .u16 (m : Int)) := blk_cell HP.out 0) | (go_at_call 26; refine (rsize_calls m _ hm).mono ?_; rintro e w2 ⟨rfl, hb⟩; have HC0 : Aside0 (w2.heap[w1.heap.size]? = some (.cells #[.bool false, .bool false, .bool false, .slice none 0 0, .slice none 0 0] 35 (0, 0))) := ⟨blk_below (blk_newg rfl) hb⟩; have HPx : Aside0 (w2.heap[w.heap.size]? = some (.cells #[.int .u16 (m : Int), .int .u8 fr] 28 (0, 0))) := ⟨blk_below (by repeat (first | (with_reducible exact HP.out) | (with_reducible refine blk_drew ?_) | (with_reducible refine blk_drewN ?_ _) | (with_reducible refine blk_newg ?_; (simp; done)) | (with_reducible refine blk_alloc ?_ _))) hb⟩; have HBx : Aside0 (Below w.heap.size w w2) := ⟨below_back hb (by repeat (first | (with_reducible exact HB.out) | (with_reducible refine below_alloc ?_ _) | (with_reducible refine pw_below_drewN ?_ _) | (with_reducible refine below_drew ?_)))⟩; clear HP HB; have HP := HPx; clear HPx; have HB := HBx; clear HBx; clear hb p00) | fail)
  go_loopw [7] (fun v7 w' => ∃ (i : Nat) (c : Cas), v7 = .int .i64 (i : Int) ∧ i ≤ l.length ∧ i ≤ 60 ∧ Aside0 (Good c i) ∧ Aside0 (CountOk m c) ∧ Aside0 (CaseB w' w1.heap.size c) ∧ Aside0 (w'.heap[w.heap.size]? = some (.cells #[.int .u16 (m : Int), .int .u8 fr] 28 (0, 0))) ∧ Aside0 (Below w.heap.size w w')) (fun v7 _ => l.length - (intOf v7).toNat)
  case atStart => exact ⟨0, ⟨false, false, false, [], []⟩, rfl, by omega, by omega, ⟨fun x hx => by simp at hx, fun x hx => by simp at hx, Nat.le_refl _, Nat.le_refl _, fun h => by cases h⟩, ⟨List.Pairwise.nil, List.Pairwise.nil, fun x hx => by simp at hx, fun x hx => by simp at hx⟩, ⟨none, 0, none, 0, HC0.out, Kd.R_nil _ _ _ _ _, Kd.R_nil _ _ _ _ _⟩, HP, HB⟩
  case round =>
    clear HB HP HC0
    obtain ⟨i, c, rfl, hi, hi60, HG, HCO, HCB, HP, HB⟩ := hrel
    by_cases hlt : i < l.length
    · by_cases h60 : i < 60
      · obtain ⟨ad, ea, g0, g1, g2⟩ := at_V (Kd.C_below HR.out HB.out) i hlt
        cases ea
        have hxk := HK.out l[i] (List.getElem_mem _)
        have hxs := HKs.out l[i] (List.getElem_mem _)
        generalize l[i] = x at *
        obtain ⟨⟨k0, k1⟩, w0', w1'⟩ := hxk
        have HBs := Aside0.mk hxs
        clear hxs
        by_cases hbig : 1100 < x.body.size
        · go_wp2_with fail
          go_roundw
          case rel => exact ⟨i + 1, c, by go_num, by omega, by omega, ⟨HG.out.more⟩, HCO, ⟨HCB.out.below (below_alloc (Below.refl _ _) _)⟩, ⟨blk_alloc HP.out _⟩, ⟨(by repeat (first | (with_reducible exact HB.out) | (with_reducible refine below_alloc ?_ _) | (with_reducible refine pw_below_drewN ?_ _) | (with_reducible refine below_drew ?_)))⟩⟩
          case measure => simp [intOf]; omega
        · obtain ⟨A1, c1, A2, c2, hC, hr1, hr2⟩ := HCB.out
          have HS := Aside0.mk (take_step c m fr x.kind x.who x.body)
          have HG2 := Aside0.mk (take_good HG.out m fr x.kind x.who x.body)
          obtain ⟨a, ha⟩ : ∃ a, takeM c m fr x.kind x.who x.body = a := ⟨_, rfl⟩
          have HT := Aside0.mk (take_counts hm HCO.out fr x.kind x.who w0' x.body ha)
          rw [ha] at HS HG2
          obtain ⟨d, o, bo, is, er⟩ := a
          have HA := Aside0.mk ha
          have HWE := Aside0.mk HG.out.we
          have HWR := Aside0.mk HG.out.wr
          have HLE : Aside0 (c.echoes.length ≤ 900000) := ⟨by have := HG.out.le; omega⟩
          have HLR : Aside0 (c.readies.length ≤ 900000) := ⟨by have := HG.out.lr; omega⟩
          have HD5 : Aside0 (d.echoes.length ≤ 61) := ⟨by have := HG2.out.le; simp only at this; omega⟩
          have HD6 : Aside0 (d.readies.length ≤ 61) := ⟨by have := HG2.out.lr; simp only at this; omega⟩
          have HD1 : Aside0 (d.echoes.length ≤ 900000) := ⟨by have := HD5.out; omega⟩
          have HD2 : Aside0 (d.readies.length ≤ 900000) := ⟨by have := HD6.out; omega⟩
          have HD3 : Aside0 (d.echoes.length ≤ 1000000) := ⟨by have := HD5.out; omega⟩
          have HD4 : Aside0 (d.readies.length ≤ 1000000) := ⟨by have := HD6.out; omega⟩
          have holen : o.length ≤ 1 := by have := HS.out.n; simp only at this; omega
          have HWE2 : Aside0 (∀ x ∈ d.echoes, x.who < 65536) := ⟨HG2.out.we⟩
          have HWR2 : Aside0 (∀ x ∈ d.readies, x.who < 65536) := ⟨HG2.out.wr⟩
          have HSE := Aside0.mk HT.out.1.se
          have HSR := Aside0.mk HT.out.1.sr
          have HL1 := Aside0.mk (RB_le hr1)
          have HL2 := Aside0.mk (RB_le hr2)
          have HC := Aside0.mk hC
          have H1 := Aside0.mk hr1
          have H2 := Aside0.mk hr2
          have p0 : wr.cell? ⟨w.heap.size, 0, none⟩ = some (.int .u16 (m : Int)) := blk_cell HP.out 0
          have p1 : wr.cell? ⟨w.heap.size, 1, none⟩ = some (.int .u8 fr) := blk_cell HP.out 1
          have ltP := blk_lt HP.out
          clear ha hC hr1 hr2 HCB
          go_upto_region 11 with (first
            | (refine gate_ (.load 35 (.tmp 5)) rfl ?_; refine wpList_load_row rfl 35 (.tmp 5) rfl (w1.heap.size) rfl 35 #[.bool c.echoed, .bool c.readied, .bool c.done, .slice A1 c.echoes.length c1, .slice A2 c.readies.length c2] (0, 0) _ (by repeat (first | (with_reducible exact HC.out) | (with_reducible refine blk_drew ?_) | (with_reducible refine blk_drewN ?_ _) | (with_reducible refine blk_newg ?_; (simp; done)) | (with_reducible refine blk_alloc ?_ _))) Try.underlying35 rfl (by kernel_rfl) ?_)
            | (go_at_call 14; refine (take_calls c A1 c1 A2 c2 m fr x.kind x.who x.body _ (RB_C (by repeat (first | (with_reducible exact H1.out) | (with_reducible refine Kd.R_alloc ?_ _) | (with_reducible refine Kd.R_drewN ?_ _) | (with_reducible refine Kd.R_drew ?_)))) (RB_C (by repeat (first | (with_reducible exact H2.out) | (with_reducible refine Kd.R_alloc ?_ _) | (with_reducible refine Kd.R_drewN ?_ _) | (with_reducible refine Kd.R_drew ?_)))) HL1.out HL2.out HLE.out HLR.out hm hf0 hf1 w0' w1' k0 k1 HBs.out HWE.out HWR.out).mono ?_; rw [HA.out]; rintro e w3 ⟨v, A3, n3, rfl, ⟨B1, d1, B2, d2, rfl, hr1, hr2⟩, hO, hb⟩; have HCx : Aside0 (w3.heap[w1.heap.size]? = some (.cells #[.bool c.echoed, .bool c.readied, .bool c.done, .slice A1 c.echoes.length c1, .slice A2 c.readies.length c2] 35 (0, 0))) := ⟨blk_below (by repeat (first | (with_reducible exact HC.out) | (with_reducible refine blk_drew ?_) | (with_reducible refine blk_drewN ?_ _) | (with_reducible refine blk_newg ?_; (simp; done)) | (with_reducible refine blk_alloc ?_ _))) hb⟩; have HPx : Aside0 (w3.heap[w.heap.size]? = some (.cells #[.int .u16 (m : Int), .int .u8 fr] 28 (0, 0))) := ⟨blk_below (by repeat (first | (with_reducible exact HP.out) | (with_reducible refine blk_drew ?_) | (with_reducible refine blk_drewN ?_ _) | (with_reducible refine blk_newg ?_; (simp; done)) | (with_reducible refine blk_alloc ?_ _))) hb⟩; have HBx : Aside0 (Below w.heap.size w w3) := ⟨below_back hb (by repeat (first | (with_reducible exact HB.out) | (with_reducible refine below_alloc ?_ _) | (with_reducible refine pw_below_drewN ?_ _) | (with_reducible refine below_drew ?_)))⟩; clear HC HP HB; have HC := HCx; clear HCx; have HP := HPx; clear HPx; have HB := HBx; clear HBx; clear hb H1 H2 p0 p1; have HN1 := Aside0.mk hr1; have HN2 := Aside0.mk hr2; have HO := Aside0.mk hO; clear hr1 hr2 hO)
            | fail)
          (try go_frame)
          go_cut [] (fun wx => Aside0 (CntF w w1.heap.size #[.int .u16 (m : Int), .int .u8 fr] #[.bool d.echoed, .bool d.readied, .bool d.done, .slice B1 d.echoes.length d1, .slice B2 d.readies.length d2] d o B1 d1 B2 d2 A3 n3 wx))
          case first =>
            go_wp2_with (first
              | (refine gate_ (.store 35 (.tmp 5) (.tmp 59)) rfl ?_; refine wpList_store_row rfl 35 (.tmp 5) (.tmp 59) rfl (w1.heap.size) #[.bool d.echoed, .bool d.readied, .bool d.done, .slice B1 d.echoes.length d1, .slice B2 d.readies.length d2] rfl rfl 35 #[.bool c.echoed, .bool c.readied, .bool c.done, .slice A1 c.echoes.length c1, .slice A2 c.readies.length c2] (by repeat (first | (with_reducible exact HC.out) | (with_reducible refine blk_drew ?_) | (with_reducible refine blk_drewN ?_ _) | (with_reducible refine blk_newg ?_; (simp; done)) | (with_reducible refine blk_alloc ?_ _))) (by kernel_rfl) rfl (by simp [Value.oneCell']) ?_)
              | fail)
            go_meet
            exact ⟨CntF.stored HP.out HC.out (by omega) HN1.out HN2.out HO.out HB.out⟩
          case rest =>
            have HQ := Aside0.mk hcut.out
            clear hcut HB HC HP HN1 HN2 HO ltP
            rename World => wq
            have a0 : wq.cell? ⟨w1.heap.size, 0, none⟩ = some (.bool d.echoed) := blk_cell HQ.out.hc 0
            have a1 : wq.cell? ⟨w1.heap.size, 1, none⟩ = some (.bool d.readied) := blk_cell HQ.out.hc 1
            have a2 : wq.cell? ⟨w1.heap.size, 2, none⟩ = some (.bool d.done) := blk_cell HQ.out.hc 2
            have a3 : wq.cell? ⟨w1.heap.size, 3, none⟩ = some (.slice B1 d.echoes.length d1) := blk_cell HQ.out.hc 3
            have a4 : wq.cell? ⟨w1.heap.size, 4, none⟩ = some (.slice B2 d.readies.length d2) := blk_cell HQ.out.hc 4
            have p0 : wq.cell? ⟨w.heap.size, 0, none⟩ = some (.int .u16 (m : Int)) := blk_cell HQ.out.hp 0
            have ltC := blk_lt HQ.out.hc
            have ltP := blk_lt HQ.out.hp
            have hf3 := fieldr_run d
            have hf4 := fieldr_run4 d
            have HFL : Aside0 (forL d.readies bo < 65536) := ⟨forL_lt HG2.out.wr bo⟩
            have HIS : Aside0 (is = true → 2 * faulty (sz m : Nat) + 1 ≤ (sz (forL d.readies bo) : Nat)) := ⟨HT.out.2.1⟩
            go_upto_region 12 with fail
            go_cut [84] (fun s84 wx => s84 = .bool false ∧ Aside0 (CntF w w1.heap.size #[.int .u16 (m : Int), .int .u8 fr] #[.bool d.echoed, .bool d.readied, .bool d.done, .slice B1 d.echoes.length d1, .slice B2 d.readies.length d2] d o B1 d1 B2 d2 A3 n3 wx))
            case first =>
              cases his : is with
              | false =>
                subst his
                go_wp2_with (first
            | (go_at_call 18; refine cnt_call (w := w) (g := w1.heap.size) (PC := #[.int .u16 (m : Int), .int .u8 fr]) (CC := #[.bool d.echoed, .bool d.readied, .bool d.done, .slice B1 d.echoes.length d1, .slice B2 d.readies.length d2]) (d := d) (o := o) (B1 := B1) (d1 := d1) (B2 := B2) (d2 := d2) (A3 := A3) (n3 := n3) ?_ ?_; (focus ((repeat (first | (with_reducible refine CntF.alloc ?_ _) | (with_reducible refine CntF.drewN ?_ _) | (with_reducible refine CntF.drew ?_))); (with_reducible exact HQ.out))); intro hq; (with_reducible refine (ours_calls d.echoed d.readied d.done d.echoes d.readies B1 d1 B2 d2 _ (RB_C hq.b1) (RB_C hq.b2) HD1.out HD2.out).mono ?_); rintro e w5 ⟨X1, x1, X2, x2, rfl, hr1, hr2, hb⟩; have H5 := Aside0.mk hr1; have H6 := Aside0.mk hr2; clear hr1 hr2; have HQx : Aside0 (CntF w w1.heap.size #[.int .u16 (m : Int), .int .u8 fr] #[.bool d.echoed, .bool d.readied, .bool d.done, .slice B1 d.echoes.length d1, .slice B2 d.readies.length d2] d o B1 d1 B2 d2 A3 n3 w5) := ⟨hq.below hb⟩; clear hb; clear a0 a1 a2 a3 a4 p0 ltC ltP; clear HQ; have HQ := HQx; clear HQx hq; have a0 : w5.cell? ⟨w1.heap.size, 0, none⟩ = some (.bool d.echoed) := blk_cell HQ.out.hc 0; have a1 : w5.cell? ⟨w1.heap.size, 1, none⟩ = some (.bool d.readied) := blk_cell HQ.out.hc 1; have a2 : w5.cell? ⟨w1.heap.size, 2, none⟩ = some (.bool d.done) := blk_cell HQ.out.hc 2; have a3 : w5.cell? ⟨w1.heap.size, 3, none⟩ = some (.slice B1 d.echoes.length d1) := blk_cell HQ.out.hc 3; have a4 : w5.cell? ⟨w1.heap.size, 4, none⟩ = some (.slice B2 d.readies.length d2) := blk_cell HQ.out.hc 4; have p0 : w5.cell? ⟨w.heap.size, 0, none⟩ = some (.int .u16 (m : Int)) := blk_cell HQ.out.hp 0; have ltC := blk_lt HQ.out.hc; have ltP := blk_lt HQ.out.hp)
            | (go_at_call 13; (with_reducible refine (sound_yes X1 x1 d.echoes _ ?_ HD3.out HWE2.out HSE.out).mono ?_); (focus exact RR_C (by repeat (first | (with_reducible exact H5.out) | (with_reducible refine Kd.R_alloc ?_ _) | (with_reducible refine Kd.R_drewN ?_ _) | (with_reducible refine Kd.R_drew ?_)))); rintro e ws ⟨rfl, ms, rfl⟩)
            | (go_at_call 13; (with_reducible refine (sound_yes X2 x2 d.readies _ ?_ HD4.out HWR2.out HSR.out).mono ?_); (focus exact RR_C (by repeat (first | (with_reducible exact H6.out) | (with_reducible refine Kd.R_alloc ?_ _) | (with_reducible refine Kd.R_drewN ?_ _) | (with_reducible refine Kd.R_drew ?_)))); rintro e ws ⟨rfl, ms, rfl⟩)
            | fail)
                go_meet
                exact ⟨rfl, ⟨by ((repeat (first | (with_reducible refine CntF.alloc ?_ _) | (with_reducible refine CntF.drewN ?_ _) | (with_reducible refine CntF.drew ?_))); (with_reducible exact HQ.out))⟩⟩
              | true =>
                subst his
                have hen := HIS.out rfl
                have hen1 : decide (((sz (forL d.readies bo) : Nat) : Int) < 2 * faulty (sz m : Nat) + 1) = false := decide_eq_false (by omega)
                go_wp2_with (first
            | (go_at_call 18; refine cnt_call (w := w) (g := w1.heap.size) (PC := #[.int .u16 (m : Int), .int .u8 fr]) (CC := #[.bool d.echoed, .bool d.readied, .bool d.done, .slice B1 d.echoes.length d1, .slice B2 d.readies.length d2]) (d := d) (o := o) (B1 := B1) (d1 := d1) (B2 := B2) (d2 := d2) (A3 := A3) (n3 := n3) ?_ ?_; (focus ((repeat (first | (with_reducible refine CntF.alloc ?_ _) | (with_reducible refine CntF.drewN ?_ _) | (with_reducible refine CntF.drew ?_))); (with_reducible exact HQ.out))); intro hq; (with_reducible refine (ours_calls d.echoed d.readied d.done d.echoes d.readies B1 d1 B2 d2 _ (RB_C hq.b1) (RB_C hq.b2) HD1.out HD2.out).mono ?_); rintro e w5 ⟨X1, x1, X2, x2, rfl, hr1, hr2, hb⟩; have H5 := Aside0.mk hr1; have H6 := Aside0.mk hr2; clear hr1 hr2; have HQx : Aside0 (CntF w w1.heap.size #[.int .u16 (m : Int), .int .u8 fr] #[.bool d.echoed, .bool d.readied, .bool d.done, .slice B1 d.echoes.length d1, .slice B2 d.readies.length d2] d o B1 d1 B2 d2 A3 n3 w5) := ⟨hq.below hb⟩; clear hb; clear a0 a1 a2 a3 a4 p0 ltC ltP; clear HQ; have HQ := HQx; clear HQx hq; have a0 : w5.cell? ⟨w1.heap.size, 0, none⟩ = some (.bool d.echoed) := blk_cell HQ.out.hc 0; have a1 : w5.cell? ⟨w1.heap.size, 1, none⟩ = some (.bool d.readied) := blk_cell HQ.out.hc 1; have a2 : w5.cell? ⟨w1.heap.size, 2, none⟩ = some (.bool d.done) := blk_cell HQ.out.hc 2; have a3 : w5.cell? ⟨w1.heap.size, 3, none⟩ = some (.slice B1 d.echoes.length d1) := blk_cell HQ.out.hc 3; have a4 : w5.cell? ⟨w1.heap.size, 4, none⟩ = some (.slice B2 d.readies.length d2) := blk_cell HQ.out.hc 4; have p0 : w5.cell? ⟨w.heap.size, 0, none⟩ = some (.int .u16 (m : Int)) := blk_cell HQ.out.hp 0; have ltC := blk_lt HQ.out.hc; have ltP := blk_lt HQ.out.hp)
            | (go_at_call 13; (with_reducible refine (sound_yes X1 x1 d.echoes _ ?_ HD3.out HWE2.out HSE.out).mono ?_); (focus exact RR_C (by repeat (first | (with_reducible exact H5.out) | (with_reducible refine Kd.R_alloc ?_ _) | (with_reducible refine Kd.R_drewN ?_ _) | (with_reducible refine Kd.R_drew ?_)))); rintro e ws ⟨rfl, ms, rfl⟩)
            | (go_at_call 13; (with_reducible refine (sound_yes X2 x2 d.readies _ ?_ HD4.out HWR2.out HSR.out).mono ?_); (focus exact RR_C (by repeat (first | (with_reducible exact H6.out) | (with_reducible refine Kd.R_alloc ?_ _) | (with_reducible refine Kd.R_drewN ?_ _) | (with_reducible refine Kd.R_drew ?_)))); rintro e ws ⟨rfl, ms, rfl⟩)
            | (go_at_call 20; refine cnt_call (w := w) (g := w1.heap.size) (PC := #[.int .u16 (m : Int), .int .u8 fr]) (CC := #[.bool d.echoed, .bool d.readied, .bool d.done, .slice B1 d.echoes.length d1, .slice B2 d.readies.length d2]) (d := d) (o := o) (B1 := B1) (d1 := d1) (B2 := B2) (d2 := d2) (A3 := A3) (n3 := n3) ?_ ?_; (focus ((repeat (first | (with_reducible refine CntF.alloc ?_ _) | (with_reducible refine CntF.drewN ?_ _) | (with_reducible refine CntF.drew ?_))); (with_reducible exact HQ.out))); intro hq; (with_reducible refine (for_calls B2 d2 d.readies bo _ (RB_C hq.b2) HD4.out).mono ?_); rintro e w6 ⟨rfl, hb⟩; have HQx : Aside0 (CntF w w1.heap.size #[.int .u16 (m : Int), .int .u8 fr] #[.bool d.echoed, .bool d.readied, .bool d.done, .slice B1 d.echoes.length d1, .slice B2 d.readies.length d2] d o B1 d1 B2 d2 A3 n3 w6) := ⟨hq.below hb⟩; clear hb; clear a0 a1 a2 a3 a4 p0 ltC ltP; clear HQ; have HQ := HQx; clear HQx hq; have a0 : w6.cell? ⟨w1.heap.size, 0, none⟩ = some (.bool d.echoed) := blk_cell HQ.out.hc 0; have a1 : w6.cell? ⟨w1.heap.size, 1, none⟩ = some (.bool d.readied) := blk_cell HQ.out.hc 1; have a2 : w6.cell? ⟨w1.heap.size, 2, none⟩ = some (.bool d.done) := blk_cell HQ.out.hc 2; have a3 : w6.cell? ⟨w1.heap.size, 3, none⟩ = some (.slice B1 d.echoes.length d1) := blk_cell HQ.out.hc 3; have a4 : w6.cell? ⟨w1.heap.size, 4, none⟩ = some (.slice B2 d.readies.length d2) := blk_cell HQ.out.hc 4; have p0 : w6.cell? ⟨w.heap.size, 0, none⟩ = some (.int .u16 (m : Int)) := blk_cell HQ.out.hp 0; have ltC := blk_lt HQ.out.hc; have ltP := blk_lt HQ.out.hp)
            | (go_at_call 26; refine cnt_call (w := w) (g := w1.heap.size) (PC := #[.int .u16 (m : Int), .int .u8 fr]) (CC := #[.bool d.echoed, .bool d.readied, .bool d.done, .slice B1 d.echoes.length d1, .slice B2 d.readies.length d2]) (d := d) (o := o) (B1 := B1) (d1 := d1) (B2 := B2) (d2 := d2) (A3 := A3) (n3 := n3) ?_ ?_; (focus ((repeat (first | (with_reducible refine CntF.alloc ?_ _) | (with_reducible refine CntF.drewN ?_ _) | (with_reducible refine CntF.drew ?_))); (with_reducible exact HQ.out))); intro hq; (with_reducible refine (rsize_calls (forL d.readies bo) _ HFL.out).mono ?_); rintro e w7 ⟨rfl, hb⟩; have HQx : Aside0 (CntF w w1.heap.size #[.int .u16 (m : Int), .int .u8 fr] #[.bool d.echoed, .bool d.readied, .bool d.done, .slice B1 d.echoes.length d1, .slice B2 d.readies.length d2] d o B1 d1 B2 d2 A3 n3 w7) := ⟨hq.below hb⟩; clear hb; clear a0 a1 a2 a3 a4 p0 ltC ltP; clear HQ; have HQ := HQx; clear HQx hq; have a0 : w7.cell? ⟨w1.heap.size, 0, none⟩ = some (.bool d.echoed) := blk_cell HQ.out.hc 0; have a1 : w7.cell? ⟨w1.heap.size, 1, none⟩ = some (.bool d.readied) := blk_cell HQ.out.hc 1; have a2 : w7.cell? ⟨w1.heap.size, 2, none⟩ = some (.bool d.done) := blk_cell HQ.out.hc 2; have a3 : w7.cell? ⟨w1.heap.size, 3, none⟩ = some (.slice B1 d.echoes.length d1) := blk_cell HQ.out.hc 3; have a4 : w7.cell? ⟨w1.heap.size, 4, none⟩ = some (.slice B2 d.readies.length d2) := blk_cell HQ.out.hc 4; have p0 : w7.cell? ⟨w.heap.size, 0, none⟩ = some (.int .u16 (m : Int)) := blk_cell HQ.out.hp 0; have ltC := blk_lt HQ.out.hc; have ltP := blk_lt HQ.out.hp)
            | (go_at_call 27; refine (renough_calls (sz m : Nat) _).mono ?_; rintro e we ⟨rfl, me, rfl⟩)
            | fail)
                go_meet
                exact ⟨rfl, ⟨by ((repeat (first | (with_reducible refine CntF.alloc ?_ _) | (with_reducible refine CntF.drewN ?_ _) | (with_reducible refine CntF.drew ?_))); (with_reducible exact HQ.out))⟩⟩
            case rest =>
              obtain ⟨rfl, hq12⟩ := hcut
              have HQ := Aside0.mk hq12.out
              clear hq12
              rename World => wr2
              clear a0 a1 a2 a3 a4 p0 ltC ltP
              have HOUT := Aside0.mk HT.out.2.2
              go_wp2_with fail
              go_loopw [87] (fun v87 w' => ∃ (j : Nat), v87 = .int .i64 (j : Int) ∧ j ≤ o.length ∧ Aside0 (CntF w w1.heap.size #[.int .u16 (m : Int), .int .u8 fr] #[.bool d.echoed, .bool d.readied, .bool d.done, .slice B1 d.echoes.length d1, .slice B2 d.readies.length d2] d o B1 d1 B2 d2 A3 n3 w')) (fun v87 _ => o.length - (intOf v87).toNat)
              case atStart => exact ⟨0, rfl, by omega, HQ⟩
              case round =>
                clear HQ
                obtain ⟨j, rfl, hj, HQ⟩ := hrel
                rename World => wl
                by_cases hjl : j < o.length
                · obtain ⟨ad3, ea, q0, q1⟩ := at_O (Kd.R_reads' HQ.out.o1).2.2 j hjl
                  have hoy := HOUT.out o[j] (List.getElem_mem _)
                  generalize o[j] = y at *
                  have HFE : Aside0 (forL d.echoes y.body < 65536) := ⟨forL_lt HG2.out.we y.body⟩
                  have HFR : Aside0 (forL d.readies y.body < 65536) := ⟨forL_lt HG2.out.wr y.body⟩
                  cases ea
                  have a0 : wl.cell? ⟨w1.heap.size, 0, none⟩ = some (.bool d.echoed) := blk_cell HQ.out.hc 0
                  have a1 : wl.cell? ⟨w1.heap.size, 1, none⟩ = some (.bool d.readied) := blk_cell HQ.out.hc 1
                  have a2 : wl.cell? ⟨w1.heap.size, 2, none⟩ = some (.bool d.done) := blk_cell HQ.out.hc 2
                  have a3 : wl.cell? ⟨w1.heap.size, 3, none⟩ = some (.slice B1 d.echoes.length d1) := blk_cell HQ.out.hc 3
                  have a4 : wl.cell? ⟨w1.heap.size, 4, none⟩ = some (.slice B2 d.readies.length d2) := blk_cell HQ.out.hc 4
                  have p0 : wl.cell? ⟨w.heap.size, 0, none⟩ = some (.int .u16 (m : Int)) := blk_cell HQ.out.hp 0
                  have ltC := blk_lt HQ.out.hc
                  have ltP := blk_lt HQ.out.hp
                  by_cases hk : y.kind = 3
                  · have hky := Aside0.mk hk
                    have hkb : (y.kind == 3) = true := by simp [hk]
                    by_cases he : echoes (sz m : Nat) ≤ (sz (forL d.echoes y.body) : Nat)
                    · have he1 : decide (((sz (forL d.echoes y.body) : Nat) : Int) < echoes (sz m : Nat)) = false := decide_eq_false (by omega)
                      clear hk hoy
                      go_wp2_with (first
                        | (go_at_call 20; refine cnt_call (w := w) (g := w1.heap.size) (PC := #[.int .u16 (m : Int), .int .u8 fr]) (CC := #[.bool d.echoed, .bool d.readied, .bool d.done, .slice B1 d.echoes.length d1, .slice B2 d.readies.length d2]) (d := d) (o := o) (B1 := B1) (d1 := d1) (B2 := B2) (d2 := d2) (A3 := some ad3) (n3 := n3) ?_ ?_; (focus ((repeat (first | (with_reducible refine CntF.alloc ?_ _) | (with_reducible refine CntF.drewN ?_ _) | (with_reducible refine CntF.drew ?_))); (with_reducible exact HQ.out))); intro hq; (with_reducible refine (for_calls B1 d1 d.echoes y.body _ (RB_C hq.b1) HD3.out).mono ?_); rintro e w6 ⟨rfl, hb⟩; have HXx : Aside0 (w6.heap[wl.heap.size]? = some (.cells #[.int .i64 y.kind, .string y.body] 72 (0, 0))) := ⟨blk_below (by repeat (first | (with_reducible refine blk_newg ?_; (simp; done)) | (with_reducible refine blk_drew ?_) | (with_reducible refine blk_drewN ?_ _) | (with_reducible refine blk_alloc ?_ _))) hb⟩; have HXB := HXx; clear HXx; have HQx : Aside0 (CntF w w1.heap.size #[.int .u16 (m : Int), .int .u8 fr] #[.bool d.echoed, .bool d.readied, .bool d.done, .slice B1 d.echoes.length d1, .slice B2 d.readies.length d2] d o B1 d1 B2 d2 (some ad3) n3 w6) := ⟨hq.below hb⟩; clear hb; clear a0 a1 a2 a3 a4 p0 ltC ltP; clear HQ; have HQ := HQx; clear HQx hq; have a0 : w6.cell? ⟨w1.heap.size, 0, none⟩ = some (.bool d.echoed) := blk_cell HQ.out.hc 0; have a1 : w6.cell? ⟨w1.heap.size, 1, none⟩ = some (.bool d.readied) := blk_cell HQ.out.hc 1; have a2 : w6.cell? ⟨w1.heap.size, 2, none⟩ = some (.bool d.done) := blk_cell HQ.out.hc 2; have a3 : w6.cell? ⟨w1.heap.size, 3, none⟩ = some (.slice B1 d.echoes.length d1) := blk_cell HQ.out.hc 3; have a4 : w6.cell? ⟨w1.heap.size, 4, none⟩ = some (.slice B2 d.readies.length d2) := blk_cell HQ.out.hc 4; have p0 : w6.cell? ⟨w.heap.size, 0, none⟩ = some (.int .u16 (m : Int)) := blk_cell HQ.out.hp 0; have ltC := blk_lt HQ.out.hc; have ltP := blk_lt HQ.out.hp)
                        | (go_at_call 26; refine cnt_call (w := w) (g := w1.heap.size) (PC := #[.int .u16 (m : Int), .int .u8 fr]) (CC := #[.bool d.echoed, .bool d.readied, .bool d.done, .slice B1 d.echoes.length d1, .slice B2 d.readies.length d2]) (d := d) (o := o) (B1 := B1) (d1 := d1) (B2 := B2) (d2 := d2) (A3 := some ad3) (n3 := n3) ?_ ?_; (focus ((repeat (first | (with_reducible refine CntF.alloc ?_ _) | (with_reducible refine CntF.drewN ?_ _) | (with_reducible refine CntF.drew ?_))); (with_reducible exact HQ.out))); intro hq; (with_reducible refine (rsize_calls (forL d.echoes y.body) _ HFE.out).mono ?_); rintro e w7 ⟨rfl, hb⟩; have HXx : Aside0 (w7.heap[wl.heap.size]? = some (.cells #[.int .i64 y.kind, .string y.body] 72 (0, 0))) := ⟨blk_below (by repeat (first | (with_reducible exact HXB.out) | (with_reducible refine blk_drew ?_) | (with_reducible refine blk_drewN ?_ _) | (with_reducible refine blk_newg ?_; (simp; done)) | (with_reducible refine blk_alloc ?_ _))) hb⟩; clear HXB; have HXB := HXx; clear HXx; have HQx : Aside0 (CntF w w1.heap.size #[.int .u16 (m : Int), .int .u8 fr] #[.bool d.echoed, .bool d.readied, .bool d.done, .slice B1 d.echoes.length d1, .slice B2 d.readies.length d2] d o B1 d1 B2 d2 (some ad3) n3 w7) := ⟨hq.below hb⟩; clear hb; clear a0 a1 a2 a3 a4 p0 ltC ltP; clear HQ; have HQ := HQx; clear HQx hq; have a0 : w7.cell? ⟨w1.heap.size, 0, none⟩ = some (.bool d.echoed) := blk_cell HQ.out.hc 0; have a1 : w7.cell? ⟨w1.heap.size, 1, none⟩ = some (.bool d.readied) := blk_cell HQ.out.hc 1; have a2 : w7.cell? ⟨w1.heap.size, 2, none⟩ = some (.bool d.done) := blk_cell HQ.out.hc 2; have a3 : w7.cell? ⟨w1.heap.size, 3, none⟩ = some (.slice B1 d.echoes.length d1) := blk_cell HQ.out.hc 3; have a4 : w7.cell? ⟨w1.heap.size, 4, none⟩ = some (.slice B2 d.readies.length d2) := blk_cell HQ.out.hc 4; have p0 : w7.cell? ⟨w.heap.size, 0, none⟩ = some (.int .u16 (m : Int)) := blk_cell HQ.out.hp 0; have ltC := blk_lt HQ.out.hc; have ltP := blk_lt HQ.out.hp; have b1 : w7.cell? ⟨wl.heap.size, 1, none⟩ = some (.string y.body) := blk_cell HXB.out 1; have ltX := blk_lt HXB.out)
                        | (go_at_call 28; refine (rechoes_calls (sz m : Nat) _).mono ?_; rintro e we ⟨rfl, me, rfl⟩)
                        | fail)
                      go_roundw
                      case rel => exact ⟨j + 1, by go_num, by omega, ⟨by ((repeat (first | (with_reducible refine CntF.alloc ?_ _) | (with_reducible refine CntF.drewN ?_ _) | (with_reducible refine CntF.drew ?_))); (with_reducible exact HQ.out))⟩⟩
                      case measure => simp [intOf]; omega
                    · have he1 : decide (((sz (forL d.echoes y.body) : Nat) : Int) < echoes (sz m : Nat)) = true := decide_eq_true (by omega)
                      have hr1 := (hoy hk).resolve_left he
                      have he2 : decide (((sz (forL d.readies y.body) : Nat) : Int) < faulty (sz m : Nat) + 1) = false := decide_eq_false (by omega)
                      clear hk hoy hr1
                      go_wp2_with (first
                        | (go_at_call 20; refine cnt_call (w := w) (g := w1.heap.size) (PC := #[.int .u16 (m : Int), .int .u8 fr]) (CC := #[.bool d.echoed, .bool d.readied, .bool d.done, .slice B1 d.echoes.length d1, .slice B2 d.readies.length d2]) (d := d) (o := o) (B1 := B1) (d1 := d1) (B2 := B2) (d2 := d2) (A3 := some ad3) (n3 := n3) ?_ ?_; (focus ((repeat (first | (with_reducible refine CntF.alloc ?_ _) | (with_reducible refine CntF.drewN ?_ _) | (with_reducible refine CntF.drew ?_))); (with_reducible exact HQ.out))); intro hq; (with_reducible refine (for_calls B1 d1 d.echoes y.body _ (RB_C hq.b1) HD3.out).mono ?_); rintro e w6 ⟨rfl, hb⟩; have HXx : Aside0 (w6.heap[wl.heap.size]? = some (.cells #[.int .i64 y.kind, .string y.body] 72 (0, 0))) := ⟨blk_below (by repeat (first | (with_reducible refine blk_newg ?_; (simp; done)) | (with_reducible refine blk_drew ?_) | (with_reducible refine blk_drewN ?_ _) | (with_reducible refine blk_alloc ?_ _))) hb⟩; have HXB := HXx; clear HXx; have HQx : Aside0 (CntF w w1.heap.size #[.int .u16 (m : Int), .int .u8 fr] #[.bool d.echoed, .bool d.readied, .bool d.done, .slice B1 d.echoes.length d1, .slice B2 d.readies.length d2] d o B1 d1 B2 d2 (some ad3) n3 w6) := ⟨hq.below hb⟩; clear hb; clear a0 a1 a2 a3 a4 p0 ltC ltP; clear HQ; have HQ := HQx; clear HQx hq; have a0 : w6.cell? ⟨w1.heap.size, 0, none⟩ = some (.bool d.echoed) := blk_cell HQ.out.hc 0; have a1 : w6.cell? ⟨w1.heap.size, 1, none⟩ = some (.bool d.readied) := blk_cell HQ.out.hc 1; have a2 : w6.cell? ⟨w1.heap.size, 2, none⟩ = some (.bool d.done) := blk_cell HQ.out.hc 2; have a3 : w6.cell? ⟨w1.heap.size, 3, none⟩ = some (.slice B1 d.echoes.length d1) := blk_cell HQ.out.hc 3; have a4 : w6.cell? ⟨w1.heap.size, 4, none⟩ = some (.slice B2 d.readies.length d2) := blk_cell HQ.out.hc 4; have p0 : w6.cell? ⟨w.heap.size, 0, none⟩ = some (.int .u16 (m : Int)) := blk_cell HQ.out.hp 0; have ltC := blk_lt HQ.out.hc; have ltP := blk_lt HQ.out.hp)
                        | (go_at_call 26; refine cnt_call (w := w) (g := w1.heap.size) (PC := #[.int .u16 (m : Int), .int .u8 fr]) (CC := #[.bool d.echoed, .bool d.readied, .bool d.done, .slice B1 d.echoes.length d1, .slice B2 d.readies.length d2]) (d := d) (o := o) (B1 := B1) (d1 := d1) (B2 := B2) (d2 := d2) (A3 := some ad3) (n3 := n3) ?_ ?_; (focus ((repeat (first | (with_reducible refine CntF.alloc ?_ _) | (with_reducible refine CntF.drewN ?_ _) | (with_reducible refine CntF.drew ?_))); (with_reducible exact HQ.out))); intro hq; (with_reducible refine (rsize_calls (forL d.echoes y.body) _ HFE.out).mono ?_); rintro e w7 ⟨rfl, hb⟩; have HXx : Aside0 (w7.heap[wl.heap.size]? = some (.cells #[.int .i64 y.kind, .string y.body] 72 (0, 0))) := ⟨blk_below (by repeat (first | (with_reducible exact HXB.out) | (with_reducible refine blk_drew ?_) | (with_reducible refine blk_drewN ?_ _) | (with_reducible refine blk_newg ?_; (simp; done)) | (with_reducible refine blk_alloc ?_ _))) hb⟩; clear HXB; have HXB := HXx; clear HXx; have HQx : Aside0 (CntF w w1.heap.size #[.int .u16 (m : Int), .int .u8 fr] #[.bool d.echoed, .bool d.readied, .bool d.done, .slice B1 d.echoes.length d1, .slice B2 d.readies.length d2] d o B1 d1 B2 d2 (some ad3) n3 w7) := ⟨hq.below hb⟩; clear hb; clear a0 a1 a2 a3 a4 p0 ltC ltP; clear HQ; have HQ := HQx; clear HQx hq; have a0 : w7.cell? ⟨w1.heap.size, 0, none⟩ = some (.bool d.echoed) := blk_cell HQ.out.hc 0; have a1 : w7.cell? ⟨w1.heap.size, 1, none⟩ = some (.bool d.readied) := blk_cell HQ.out.hc 1; have a2 : w7.cell? ⟨w1.heap.size, 2, none⟩ = some (.bool d.done) := blk_cell HQ.out.hc 2; have a3 : w7.cell? ⟨w1.heap.size, 3, none⟩ = some (.slice B1 d.echoes.length d1) := blk_cell HQ.out.hc 3; have a4 : w7.cell? ⟨w1.heap.size, 4, none⟩ = some (.slice B2 d.readies.length d2) := blk_cell HQ.out.hc 4; have p0 : w7.cell? ⟨w.heap.size, 0, none⟩ = some (.int .u16 (m : Int)) := blk_cell HQ.out.hp 0; have ltC := blk_lt HQ.out.hc; have ltP := blk_lt HQ.out.hp; have b1 : w7.cell? ⟨wl.heap.size, 1, none⟩ = some (.string y.body) := blk_cell HXB.out 1; have ltX := blk_lt HXB.out)
                        | (go_at_call 28; refine (rechoes_calls (sz m : Nat) _).mono ?_; rintro e we ⟨rfl, me, rfl⟩)
                        | (go_at_call 20; refine cnt_call (w := w) (g := w1.heap.size) (PC := #[.int .u16 (m : Int), .int .u8 fr]) (CC := #[.bool d.echoed, .bool d.readied, .bool d.done, .slice B1 d.echoes.length d1, .slice B2 d.readies.length d2]) (d := d) (o := o) (B1 := B1) (d1 := d1) (B2 := B2) (d2 := d2) (A3 := some ad3) (n3 := n3) ?_ ?_; (focus ((repeat (first | (with_reducible refine CntF.alloc ?_ _) | (with_reducible refine CntF.drewN ?_ _) | (with_reducible refine CntF.drew ?_))); (with_reducible exact HQ.out))); intro hq; (with_reducible refine (for_calls B2 d2 d.readies y.body _ (RB_C hq.b2) HD4.out).mono ?_); rintro e w6 ⟨rfl, hb⟩; have HXx : Aside0 (w6.heap[wl.heap.size]? = some (.cells #[.int .i64 y.kind, .string y.body] 72 (0, 0))) := ⟨blk_below (by repeat (first | (with_reducible exact HXB.out) | (with_reducible refine blk_drew ?_) | (with_reducible refine blk_drewN ?_ _) | (with_reducible refine blk_newg ?_; (simp; done)) | (with_reducible refine blk_alloc ?_ _))) hb⟩; clear HXB; have HXB := HXx; clear HXx; clear b1 ltX; have HQx : Aside0 (CntF w w1.heap.size #[.int .u16 (m : Int), .int .u8 fr] #[.bool d.echoed, .bool d.readied, .bool d.done, .slice B1 d.echoes.length d1, .slice B2 d.readies.length d2] d o B1 d1 B2 d2 (some ad3) n3 w6) := ⟨hq.below hb⟩; clear hb; clear a0 a1 a2 a3 a4 p0 ltC ltP; clear HQ; have HQ := HQx; clear HQx hq; have a0 : w6.cell? ⟨w1.heap.size, 0, none⟩ = some (.bool d.echoed) := blk_cell HQ.out.hc 0; have a1 : w6.cell? ⟨w1.heap.size, 1, none⟩ = some (.bool d.readied) := blk_cell HQ.out.hc 1; have a2 : w6.cell? ⟨w1.heap.size, 2, none⟩ = some (.bool d.done) := blk_cell HQ.out.hc 2; have a3 : w6.cell? ⟨w1.heap.size, 3, none⟩ = some (.slice B1 d.echoes.length d1) := blk_cell HQ.out.hc 3; have a4 : w6.cell? ⟨w1.heap.size, 4, none⟩ = some (.slice B2 d.readies.length d2) := blk_cell HQ.out.hc 4; have p0 : w6.cell? ⟨w.heap.size, 0, none⟩ = some (.int .u16 (m : Int)) := blk_cell HQ.out.hp 0; have ltC := blk_lt HQ.out.hc; have ltP := blk_lt HQ.out.hp)
                        | (go_at_call 26; refine cnt_call (w := w) (g := w1.heap.size) (PC := #[.int .u16 (m : Int), .int .u8 fr]) (CC := #[.bool d.echoed, .bool d.readied, .bool d.done, .slice B1 d.echoes.length d1, .slice B2 d.readies.length d2]) (d := d) (o := o) (B1 := B1) (d1 := d1) (B2 := B2) (d2 := d2) (A3 := some ad3) (n3 := n3) ?_ ?_; (focus ((repeat (first | (with_reducible refine CntF.alloc ?_ _) | (with_reducible refine CntF.drewN ?_ _) | (with_reducible refine CntF.drew ?_))); (with_reducible exact HQ.out))); intro hq; (with_reducible refine (rsize_calls (forL d.readies y.body) _ HFR.out).mono ?_); rintro e w7 ⟨rfl, hb⟩; have HXx : Aside0 (w7.heap[wl.heap.size]? = some (.cells #[.int .i64 y.kind, .string y.body] 72 (0, 0))) := ⟨blk_below (by repeat (first | (with_reducible exact HXB.out) | (with_reducible refine blk_drew ?_) | (with_reducible refine blk_drewN ?_ _) | (with_reducible refine blk_newg ?_; (simp; done)) | (with_reducible refine blk_alloc ?_ _))) hb⟩; clear HXB; have HXB := HXx; clear HXx; have HQx : Aside0 (CntF w w1.heap.size #[.int .u16 (m : Int), .int .u8 fr] #[.bool d.echoed, .bool d.readied, .bool d.done, .slice B1 d.echoes.length d1, .slice B2 d.readies.length d2] d o B1 d1 B2 d2 (some ad3) n3 w7) := ⟨hq.below hb⟩; clear hb; clear a0 a1 a2 a3 a4 p0 ltC ltP; clear HQ; have HQ := HQx; clear HQx hq; have a0 : w7.cell? ⟨w1.heap.size, 0, none⟩ = some (.bool d.echoed) := blk_cell HQ.out.hc 0; have a1 : w7.cell? ⟨w1.heap.size, 1, none⟩ = some (.bool d.readied) := blk_cell HQ.out.hc 1; have a2 : w7.cell? ⟨w1.heap.size, 2, none⟩ = some (.bool d.done) := blk_cell HQ.out.hc 2; have a3 : w7.cell? ⟨w1.heap.size, 3, none⟩ = some (.slice B1 d.echoes.length d1) := blk_cell HQ.out.hc 3; have a4 : w7.cell? ⟨w1.heap.size, 4, none⟩ = some (.slice B2 d.readies.length d2) := blk_cell HQ.out.hc 4; have p0 : w7.cell? ⟨w.heap.size, 0, none⟩ = some (.int .u16 (m : Int)) := blk_cell HQ.out.hp 0; have ltC := blk_lt HQ.out.hc; have ltP := blk_lt HQ.out.hp; have b1 : w7.cell? ⟨wl.heap.size, 1, none⟩ = some (.string y.body) := blk_cell HXB.out 1; have ltX := blk_lt HXB.out)
                        | (go_at_call 29; refine (rreadies_calls (sz m : Nat) _).mono ?_; rintro e we ⟨rfl, me, rfl⟩)
                        | fail)
                      go_roundw
                      case rel => exact ⟨j + 1, by go_num, by omega, ⟨by ((repeat (first | (with_reducible refine CntF.alloc ?_ _) | (with_reducible refine CntF.drewN ?_ _) | (with_reducible refine CntF.drew ?_))); (with_reducible exact HQ.out))⟩⟩
                      case measure => simp [intOf]; omega
                  · have hkb : (y.kind == 3) = false := by simp [hk]
                    clear hoy
                    go_wp2_with fail
                    go_roundw
                    case rel => exact ⟨j + 1, by go_num, by omega, ⟨by ((repeat (first | (with_reducible refine CntF.alloc ?_ _) | (with_reducible refine CntF.drewN ?_ _) | (with_reducible refine CntF.drew ?_))); (with_reducible exact HQ.out))⟩⟩
                    case measure => simp [intOf]; omega
                · have hjo : j = o.length := by omega
                  subst hjo
                  obtain ⟨LL, hLL⟩ : ∃ LL, d.echoes ++ d.readies = LL := ⟨_, rfl⟩
                  have HLl : Aside0 (LL.length ≤ 200) := ⟨by rw [← hLL]; have := HD5.out; have := HD6.out; simp; omega⟩
                  have HSub : Aside0 (∀ x ∈ LL, (x.who &&& (65535 - m) = 0 ∧ x.who ≠ 0) ∧ x.who < 65536) := ⟨fun x hx => by
                    rw [← hLL] at hx
                    rcases List.mem_append.1 hx with hx | hx
                    · exact ⟨HT.out.1.be x hx, HWE2.out x hx⟩
                    · exact ⟨HT.out.1.br x hx, HWR2.out x hx⟩⟩
                  have HLL := Aside0.mk hLL
                  clear hLL
                  go_upto_region 20 with fail
                  go_cut [122, 123, 124] (fun s122 s123 s124 wx => ∃ (A9 : Option Addr) (c9 : Nat), s122 = .slice A9 LL.length c9 ∧ s123 = .int .i64 (LL.length : Int) ∧ s124 = .int .i64 0 ∧ Aside0 (CntF w w1.heap.size #[.int .u16 (m : Int), .int .u8 fr] #[.bool d.echoed, .bool d.readied, .bool d.done, .slice B1 d.echoes.length d1, .slice B2 d.readies.length d2] d o B1 d1 B2 d2 A3 n3 wx) ∧ Aside0 (RB wx (.slice A9 LL.length c9) LL))
                  case first =>
                    have HKV : Aside0 (∀ w' : World, CntF w w1.heap.size #[.int .u16 (m : Int), .int .u8 fr] #[.bool d.echoed, .bool d.readied, .bool d.done, .slice B1 d.echoes.length d1, .slice B2 d.readies.length d2] d o B1 d1 B2 d2 A3 n3 w' → (w'.cell? ⟨w1.heap.size, 3, none⟩ = some (.slice B1 d.echoes.length d1) ∧ w'.cell? ⟨w1.heap.size, 4, none⟩ = some (.slice B2 d.readies.length d2))) := ⟨fun W h => ⟨blk_cell h.hc 3, blk_cell h.hc 4⟩⟩
                    go_region_held3 (fun w' => (w'.cell? ⟨w1.heap.size, 3, none⟩ = some (.slice B1 d.echoes.length d1) ∧ w'.cell? ⟨w1.heap.size, 4, none⟩ = some (.slice B2 d.readies.length d2)))
                      ((refine HKV.out _ (HQ.out.below ?_); ((repeat (first | (with_reducible refine pw_below_drewN ?_ _) | (with_reducible refine below_drew ?_))); (first | (with_reducible exact HB3.out) | (with_reducible exact HB2.out) | (with_reducible exact Below.refl _ _)))))
                      (first
                        | (refine Kd.R_append_rows_step kB (Rr := kB.K wl) 0 (by rfl) (.const (.slice none 0 0)) (.tmp 118) 33 77 (.agg #[(.string ⟨#[]⟩), (.int .u16 0)]) 24 (by rfl) Try.underlying33 infoB rfl (by decide) (by decide) (.slice none 0 0) [] d.echoes B1 d.echoes.length d1 (fun k => wl.heap.size ≤ k) (fun _ => False) (by rfl) (by rfl) (Kd.R_nil _ _ _ _ _) (ReadsRow.imp_ (RB_C HQ.out.b1) (by ((repeat (first | (with_reducible refine pw_below_drewN ?_ _) | (with_reducible refine below_drew ?_))); (first | (with_reducible exact HB3.out) | (with_reducible exact HB2.out) | (with_reducible exact Below.refl _ _)))) (fun p c hp => hp)) (fun x cs hx => by rw [kB_open hx]; exact kB_mkM _ _ _ x) (fun _ hk => hk.elim) (fun k hk => Nat.le_trans (Below.size (B := wl.heap.size) (w := wl) (by ((repeat (first | (with_reducible refine pw_below_drewN ?_ _) | (with_reducible refine below_drew ?_))); (first | (with_reducible exact HB3.out) | (with_reducible exact HB2.out) | (with_reducible exact Below.refl _ _))))) hk) (Below.refl 0 _) (Nat.zero_le _) (by have := HD5.out; simp; omega) ?_; intro v1 w8 ho _hb8 hg hat; have HB2 : Aside0 (Below wl.heap.size wl w8) := ⟨below_then (B := wl.heap.size) (w := wl) (by ((repeat (first | (with_reducible refine pw_below_drewN ?_ _) | (with_reducible refine below_drew ?_))); (first | (with_reducible exact HB3.out) | (with_reducible exact HB2.out) | (with_reducible exact Below.refl _ _)))) (Below.size (B := wl.heap.size) (w := wl) (by ((repeat (first | (with_reducible refine pw_below_drewN ?_ _) | (with_reducible refine below_drew ?_))); (first | (with_reducible exact HB3.out) | (with_reducible exact HB2.out) | (with_reducible exact Below.refl _ _))))) (pw_below_grown (Below.refl _ _) none (Nat.le_refl _) hg (fun k h => by cases h))⟩; obtain ⟨A8, c8, ev⟩ := Kd.R_slice ho; subst ev; have HO8 : Aside0 (kB.R 77 w8 0 (fun k => wl.heap.size ≤ k) (.slice A8 d.echoes.length c8) d.echoes) := ⟨by simpa using ho⟩; clear ho _hb8 hg hat)
                        | (refine Kd.R_append_rows_step kB (Rr := kB.K wl) 0 (by rfl) (.tmp 119) (.tmp 121) 33 77 (.agg #[(.string ⟨#[]⟩), (.int .u16 0)]) 24 (by rfl) Try.underlying33 infoB rfl (by decide) (by decide) (.slice A8 d.echoes.length c8) d.echoes d.readies B2 d.readies.length d2 (fun k => wl.heap.size ≤ k) (fun _ => False) (by rfl) (by rfl) (by (repeat (first | (with_reducible refine Kd.R_drewN ?_ _) | (with_reducible refine Kd.R_drew ?_))); (with_reducible exact HO8.out)) (ReadsRow.imp_ (RB_C HQ.out.b2) (by ((repeat (first | (with_reducible refine pw_below_drewN ?_ _) | (with_reducible refine below_drew ?_))); (first | (with_reducible exact HB3.out) | (with_reducible exact HB2.out) | (with_reducible exact Below.refl _ _)))) (fun p c hp => hp)) (fun x cs hx => by rw [kB_open hx]; exact kB_mkM _ _ _ x) (fun _ hk => hk.elim) (fun k hk => Nat.le_trans (Below.size (B := wl.heap.size) (w := wl) (by ((repeat (first | (with_reducible refine pw_below_drewN ?_ _) | (with_reducible refine below_drew ?_))); (first | (with_reducible exact HB3.out) | (with_reducible exact HB2.out) | (with_reducible exact Below.refl _ _))))) hk) (Below.refl 0 _) (Nat.zero_le _) (by have := HD5.out; have := HD6.out; omega) ?_; intro v2 w9 ho _hb9 hg hat; have HB3 : Aside0 (Below wl.heap.size wl w9) := ⟨pw_below_grown (B := wl.heap.size) (w := wl) (by ((repeat (first | (with_reducible refine pw_below_drewN ?_ _) | (with_reducible refine below_drew ?_))); (first | (with_reducible exact HB3.out) | (with_reducible exact HB2.out) | (with_reducible exact Below.refl _ _)))) _ (Below.size (B := wl.heap.size) (w := wl) (by ((repeat (first | (with_reducible refine pw_below_drewN ?_ _) | (with_reducible refine below_drew ?_))); (first | (with_reducible exact HB3.out) | (with_reducible exact HB2.out) | (with_reducible exact Below.refl _ _))))) hg (fun k hk => HO8.out.1 k hk)⟩; obtain ⟨A9, c9, ev⟩ := Kd.R_slice ho; rw [HLL.out] at ho ev; subst ev; have HO9 : Aside0 (kB.R 77 w9 0 (fun k => wl.heap.size ≤ k) (.slice A9 LL.length c9) LL) := ⟨ho⟩; clear ho _hb9 hg hat)
                        | fail)
                    all_goals (go_wp2_with fail; go_meet; exact ⟨A9, c9, rfl, rfl, rfl, ⟨HQ.out.below (by ((repeat (first | (with_reducible refine pw_below_drewN ?_ _) | (with_reducible refine below_drew ?_))); (first | (with_reducible exact HB3.out) | (with_reducible exact HB2.out) | (with_reducible exact Below.refl _ _))))⟩, ⟨Kd.R_mono (by (repeat (first | (with_reducible refine Kd.R_drewN ?_ _) | (with_reducible refine Kd.R_drew ?_))); (with_reducible exact HO9.out)) (fun _ _ => trivial)⟩⟩)
                  case rest =>
                    clear HQ
                    obtain ⟨A9, c9, rfl, rfl, rfl, HQ, H9⟩ := hcut
                    rename World => wk
                    have HLlo := HLl.out
                    go_wp2_with fail
                    go_loopw [124] (fun v124 w' => ∃ (k : Nat), v124 = .int .i64 (k : Int) ∧ k ≤ LL.length ∧ Aside0 (CntF w w1.heap.size #[.int .u16 (m : Int), .int .u8 fr] #[.bool d.echoed, .bool d.readied, .bool d.done, .slice B1 d.echoes.length d1, .slice B2 d.readies.length d2] d o B1 d1 B2 d2 A3 n3 w') ∧ Aside0 (RB w' (.slice A9 LL.length c9) LL)) (fun v124 _ => LL.length - (intOf v124).toNat)
                    case atStart => exact ⟨0, rfl, by omega, HQ, H9⟩
                    case round =>
                      clear HQ H9
                      obtain ⟨k, rfl, hk, HQ, H9⟩ := hrel
                      by_cases hkl : k < LL.length
                      · obtain ⟨ad9, ea, q0, q1⟩ := at_B (RB_C H9.out) k hkl
                        have hs := HSub.out LL[k] (List.getElem_mem _)
                        generalize LL[k] = y at *
                        have hn : bits .andNot .u16 (y.who : Int) (m : Int) = 0 := by rw [u16_andNot_nat y.who m hs.2 hm, hs.1.1]; rfl
                        have hne : ((y.who : Int) == 0) = false := by simp; exact hs.1.2
                        have p0 := blk_cell HQ.out.hp 0
                        have ltP := blk_lt HQ.out.hp
                        clear hs
                        cases ea
                        go_wp2_with fail
                        go_roundw
                        case rel => exact ⟨k + 1, by go_num, by omega, ⟨HQ.out.alloc _⟩, ⟨Kd.R_alloc H9.out _⟩⟩
                        case measure => simp [intOf]; omega
                      · go_wp2_with fail
                        go_roundw
                        case rel => exact ⟨i + 1, d, by go_num, by omega, by omega, HG2, ⟨HT.out.1⟩, ⟨B1, d1, B2, d2, HQ.out.hc, HQ.out.b1, HQ.out.b2⟩, ⟨HQ.out.hp⟩, ⟨HQ.out.hb⟩⟩
                        case measure => simp [intOf]; omega
      · go_wp2_with fail
        go_ret
        exact ⟨rfl, HB.out⟩
    · go_wp2_with fail
      go_ret
      exact ⟨rfl, HB.out⟩
end Go.Proofs.Ytkppilpailbpeaa.Vot
