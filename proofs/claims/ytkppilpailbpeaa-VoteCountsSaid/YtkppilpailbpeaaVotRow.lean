/- The walk of VoteRow. -/
import Derived.Test.YtkppilpailbpeaaVotTakes
namespace Go.Proofs.Ytkppilpailbpeaa.Vot
open Go Go.RowKit Go.Proofs.YtkppilpailbpeaaW.PrintWords Go.Proofs.Ytkppilpailbpeaa.Cnt Go.Proofs.Ytkppilpailbpeaa.Opn Go.Proofs.Ytkppilpailbpeaa.Sep
set_option linter.unusedVariables false
set_option linter.unusedSimpArgs false

/-- block g holds a case of the reference -/
def CaseD (w : World) (g : Nat) (c : Cas) : Prop := ∃ A1 c1 A2 c2, w.heap[g]? = some (.cells #[.bool c.echoed, .bool c.readied, .bool c.done, .slice A1 c.echoes.length c1, .slice A2 c.readies.length c2] 24 (0, 0)) ∧ RR w (.slice A1 c.echoes.length c1) c.echoes ∧ RR w (.slice A2 c.readies.length c2) c.readies
theorem CaseD.below {w w' : World} {g : Nat} {c : Cas} (h : CaseD w g c) (hb : Below w.heap.size w w') : CaseD w' g c := by
  obtain ⟨A1, c1, A2, c2, hC, h1, h2⟩ := h
  exact ⟨A1, c1, A2, c2, blk_below hC hb, Kd.R_below h1 hb, Kd.R_below h2 hb⟩
structure RowF (w : World) (g7 g8 gt : Nat) (CC DC TC : Array Value) (d : Cas) (o : List Out) (B1 : Option Addr) (d1 : Nat) (B2 : Option Addr) (d2 : Nat) (A5 : Option Addr) (c5 : Nat) (A6 : Option Addr) (c6 : Nat) (A3 : Option Addr) (n3 : Nat) (A7 : Option Addr) (c7 : Nat) (W : World) : Prop where
  hc : W.heap[g7]? = some (.cells CC 35 (0, 0))
  hd : W.heap[g8]? = some (.cells DC 24 (0, 0))
  ht : W.heap[gt]? = some (.cells TC 43 (0, 0))
  b1 : RB W (.slice B1 d.echoes.length d1) d.echoes
  b2 : RB W (.slice B2 d.readies.length d2) d.readies
  r1 : RR W (.slice A5 d.echoes.length c5) d.echoes
  r2 : RR W (.slice A6 d.readies.length c6) d.readies
  o1 : RO W (.slice A3 o.length n3) o
  o2 : kO.R 87 W 0 (fun _ => True) (.slice A7 o.length c7) o
  hb : Below w.heap.size w W
section
variable {w : World} {g7 g8 gt : Nat} {CC DC TC : Array Value} {d : Cas} {o : List Out} {B1 : Option Addr} {d1 : Nat} {B2 : Option Addr} {d2 : Nat} {A5 : Option Addr} {c5 : Nat} {A6 : Option Addr} {c6 : Nat} {A3 : Option Addr} {n3 : Nat} {A7 : Option Addr} {c7 : Nat} {W W' : World}
theorem RowF.below (h : RowF w g7 g8 gt CC DC TC d o B1 d1 B2 d2 A5 c5 A6 c6 A3 n3 A7 c7 W) (hb : Below W.heap.size W W') : RowF w g7 g8 gt CC DC TC d o B1 d1 B2 d2 A5 c5 A6 c6 A3 n3 A7 c7 W' :=
  ⟨blk_below h.hc hb, blk_below h.hd hb, blk_below h.ht hb, Kd.R_below h.b1 hb, Kd.R_below h.b2 hb, Kd.R_below h.r1 hb, Kd.R_below h.r2 hb, Kd.R_below h.o1 hb, Kd.R_below h.o2 hb, below_then h.hb h.hb.size hb⟩
theorem RowF.alloc (h : RowF w g7 g8 gt CC DC TC d o B1 d1 B2 d2 A5 c5 A6 c6 A3 n3 A7 c7 W) (x : Obj) : RowF w g7 g8 gt CC DC TC d o B1 d1 B2 d2 A5 c5 A6 c6 A3 n3 A7 c7 (W.alloc x) := h.below (below_alloc (Below.refl _ _) _)
theorem RowF.drew (h : RowF w g7 g8 gt CC DC TC d o B1 d1 B2 d2 A5 c5 A6 c6 A3 n3 A7 c7 W) : RowF w g7 g8 gt CC DC TC d o B1 d1 B2 d2 A5 c5 A6 c6 A3 n3 A7 c7 W.drew := h.below (below_drew (Below.refl _ _))
theorem RowF.drewN (h : RowF w g7 g8 gt CC DC TC d o B1 d1 B2 d2 A5 c5 A6 c6 A3 n3 A7 c7 W) (n : Nat) : RowF w g7 g8 gt CC DC TC d o B1 d1 B2 d2 A5 c5 A6 c6 A3 n3 A7 c7 (W.drewN n) := h.below (pw_below_drewN (Below.refl _ _) n)
theorem row_call {P : Program} {f : FuncId} {args : Array Value} {R : Ending → World → Prop} (h : RowF w g7 g8 gt CC DC TC d o B1 d1 B2 d2 A5 c5 A6 c6 A3 n3 A7 c7 W) (k : RowF w g7 g8 gt CC DC TC d o B1 d1 B2 d2 A5 c5 A6 c6 A3 n3 A7 c7 W → Calls P f args W R) : Calls P f args W R := k h
theorem rowR_row {α : Type} {k : Kd α} {e : Nat} {W : World} {v : Value} {l : List α} (h : k.R e W 0 (fun _ => True) v l) {g t : Nat} {cells : Array Value} (hb : W.heap[g]? = some (.cells cells t (0, 0))) (ht : ∀ q, q ∈ e :: k.E → q ≠ t) (cs : Array Value) : k.R e (W.setRow g cs) 0 (fun _ => True) v l :=
  Kd.R_mono (R_row h hb ht cs) (fun _ _ => trivial)
theorem kO_ty {e : Nat} : ∀ q, q ∈ e :: kO.E → q = e := by
  intro q hq
  simpa [kO, Kd.iso, Kd.pair, Kd.string, Kd.int, Kd.scalar] using hq
/-- c = next; d = t.C -/
theorem RowF.stored {old7 old8 : Array Value} (hc : W.heap[g7]? = some (.cells old7 35 (0, 0))) (hd : W.heap[g8]? = some (.cells old8 24 (0, 0))) (ne : g7 ≠ g8) (b1 : RB W (.slice B1 d.echoes.length d1) d.echoes) (b2 : RB W (.slice B2 d.readies.length d2) d.readies) (r1 : RR W (.slice A5 d.echoes.length c5) d.echoes) (r2 : RR W (.slice A6 d.readies.length c6) d.readies) (o1 : RO W (.slice A3 o.length n3) o)
    (o2 : kO.R 87 W 0 (fun _ => True) (.slice A7 o.length c7) o) (hb : Below w.heap.size w W) (h7 : w.heap.size ≤ g7) (h8 : w.heap.size ≤ g8) : RowF w g7 g8 W.heap.size CC DC TC d o B1 d1 B2 d2 A5 c5 A6 c6 A3 n3 A7 c7 (((W.alloc (.cells TC 43)).setRow g7 CC).setRow g8 DC) := by
  have hn := below_alloc (Below.refl W.heap.size W) (.cells TC 43)
  have k7 := blk_below hc hn
  have k8 := blk_below hd hn
  have k8' : ((W.alloc (.cells TC 43)).setRow g7 CC).heap[g8]? = some (.cells old8 24 (0, 0)) := (setRow_other _ _ _ _ (Ne.symm ne)).trans k8
  have tB : ∀ q, q ∈ 77 :: kB.E → q ≠ 35 := fun q hq => by rw [kB_ty q hq]; decide
  have tB' : ∀ q, q ∈ 77 :: kB.E → q ≠ 24 := fun q hq => by rw [kB_ty q hq]; decide
  have tR : ∀ q, q ∈ 78 :: kB.E → q ≠ 35 := fun q hq => by rw [kB_ty q hq]; decide
  have tR' : ∀ q, q ∈ 78 :: kB.E → q ≠ 24 := fun q hq => by rw [kB_ty q hq]; decide
  have tO : ∀ q, q ∈ 72 :: kO.E → q ≠ 35 := fun q hq => by rw [kO_ty q hq]; decide
  have tO' : ∀ q, q ∈ 72 :: kO.E → q ≠ 24 := fun q hq => by rw [kO_ty q hq]; decide
  have tP : ∀ q, q ∈ 87 :: kO.E → q ≠ 35 := fun q hq => by rw [kO_ty q hq]; decide
  have tP' : ∀ q, q ∈ 87 :: kO.E → q ≠ 24 := fun q hq => by rw [kO_ty q hq]; decide
  have l7 := blk_lt hc
  have l8 := blk_lt hd
  exact ⟨(setRow_other _ _ _ _ ne).trans (setRow_heap _ _ _ _ _ _ k7), setRow_heap _ _ _ _ _ _ k8', (setRow_other _ _ _ _ (by omega)).trans ((setRow_other _ _ _ _ (by omega)).trans (blk_new _ _)),
    rowR_row (rowR_row (Kd.R_below b1 hn) k7 tB _) k8' tB' _, rowR_row (rowR_row (Kd.R_below b2 hn) k7 tB _) k8' tB' _, rowR_row (rowR_row (Kd.R_below r1 hn) k7 tR _) k8' tR' _, rowR_row (rowR_row (Kd.R_below r2 hn) k7 tR _) k8' tR' _,
    rowR_row (rowR_row (Kd.R_below o1 hn) k7 tO _) k8' tO' _, rowR_row (rowR_row (Kd.R_below o2 hn) k7 tP _) k8' tP' _, below_setRow (below_setRow (below_then hb hb.size hn) h7 _) h8 _⟩
end

set_option maxHeartbeats 4000000 in
set_option maxRecDepth 100000 in
theorem row_calls (m : Nat) (fr : Int) (A : Option Addr) (ca : Nat) (l : List Vt) (w : World) (hm : m < 65536) (hf0 : 0 ≤ fr) (hf1 : fr ≤ 255) (hr : Kd.C kV w A l.length l) (hl : l.length ≤ 9223372036854775807) (hok : ∀ x ∈ l, VtOk x) (hbs : ∀ x ∈ l, x.body.size ≤ 9223372036854775807) :
    Calls Try.prog 4 #[.int .u16 (m : Int), .int .u8 fr, .slice A l.length ca] w (Kept (.bool true) w) := by
  have HR := Aside0.mk hr
  have HK := Aside0.mk hok
  have HKs := Aside0.mk hbs
  clear hr hok hbs
  have HB := Aside0.mk (Below.refl w.heap.size w)
  go_enter Try.func4, Try.ntmps4
  go_wp2_with (first | (go_at_call 11; refine (alive_calls _).mono ?_; rintro e w1 ⟨rfl, hb⟩; have HBx : Aside0 (Below w.heap.size w w1) := ⟨below_back hb (by repeat (first | (with_reducible exact HB.out) | (with_reducible refine below_alloc ?_ _) | (with_reducible refine pw_below_drewN ?_ _) | (with_reducible refine below_drew ?_)))⟩; clear HB hb; have HB := HBx; clear HBx) | fail)
  go_loopw [9] (fun v9 w' => ∃ (i : Nat) (c : Cas), v9 = .int .i64 (i : Int) ∧ i ≤ l.length ∧ i ≤ 60 ∧ Aside0 (Good c i) ∧ Aside0 (CaseB w' w1.heap.size c) ∧ Aside0 (CaseD w' (w1.heap.size + 1) c) ∧ Aside0 (Below w.heap.size w w')) (fun v9 _ => l.length - (intOf v9).toNat)
  case atStart => exact ⟨0, ⟨false, false, false, [], []⟩, rfl, by omega, by omega, ⟨fun x hx => by simp at hx, fun x hx => by simp at hx, Nat.le_refl _, Nat.le_refl _, fun h => by cases h⟩, ⟨none, 0, none, 0, blk_alloc (blk_new _ _) _, Kd.R_nil _ _ _ _ _, Kd.R_nil _ _ _ _ _⟩, ⟨none, 0, none, 0, blk_newg (by simp), Kd.R_nil _ _ _ _ _, Kd.R_nil _ _ _ _ _⟩, ⟨(by repeat (first | (with_reducible exact HB.out) | (with_reducible refine below_alloc ?_ _) | (with_reducible refine pw_below_drewN ?_ _) | (with_reducible refine below_drew ?_)))⟩⟩
  case round =>
    have HW1 := Aside0.mk HB.out.size
    clear HB
    obtain ⟨i, c, rfl, hi, hi60, HG, HCB, HCD, HB⟩ := hrel
    by_cases hlt : i < l.length
    · by_cases h60 : i < 60
      · obtain ⟨ad, ea, g0, g1, g2⟩ := at_V (Kd.C_below HR.out HB.out) i hlt
        cases ea
        have hxk := HK.out l[i] (List.getElem_mem _)
        have hxs := HKs.out l[i] (List.getElem_mem _)
        generalize l[i] = x at *
        obtain ⟨⟨k0, k1⟩, w0', w1'⟩ := hxk
        have HBs := Aside0.mk hxs
        clear hxs
        by_cases hbig : 1100 < x.body.size
        · go_wp2_with fail
          go_roundw
          case rel => exact ⟨i + 1, c, by go_num, by omega, by omega, ⟨HG.out.more⟩, ⟨HCB.out.below (below_alloc (Below.refl _ _) _)⟩, ⟨HCD.out.below (below_alloc (Below.refl _ _) _)⟩, ⟨(by repeat (first | (with_reducible exact HB.out) | (with_reducible refine below_alloc ?_ _) | (with_reducible refine pw_below_drewN ?_ _) | (with_reducible refine below_drew ?_)))⟩⟩
          case measure => simp [intOf]; omega
        · obtain ⟨A1, c1, A2, c2, hC, hr1, hr2⟩ := HCB.out
          obtain ⟨E1, e1, E2, e2, hD, hs1, hs2⟩ := HCD.out
          have HS := Aside0.mk (take_step c m fr x.kind x.who x.body)
          have HG2 := Aside0.mk (take_good HG.out m fr x.kind x.who x.body)
          obtain ⟨a, ha⟩ : ∃ a, takeM c m fr x.kind x.who x.body = a := ⟨_, rfl⟩
          rw [ha] at HS HG2
          obtain ⟨d, o, bo, is, er⟩ := a
          have HA := Aside0.mk ha
          have HWE := Aside0.mk HG.out.we
          have HWR := Aside0.mk HG.out.wr
          have HLE : Aside0 (c.echoes.length ≤ 900000) := ⟨by have := HG.out.le; omega⟩
          have HLR : Aside0 (c.readies.length ≤ 900000) := ⟨by have := HG.out.lr; omega⟩
          have HD1 : Aside0 (d.echoes.length ≤ 900000) := ⟨by have := HG2.out.le; simp only at this; omega⟩
          have HD2 : Aside0 (d.readies.length ≤ 900000) := ⟨by have := HG2.out.lr; simp only at this; omega⟩
          have HD3 : Aside0 (d.echoes.length ≤ 1000000) := ⟨by have := HD1.out; omega⟩
          have HD4 : Aside0 (d.readies.length ≤ 1000000) := ⟨by have := HD2.out; omega⟩
          have HOL : Aside0 (o.length ≤ 1000000) := ⟨by have := HS.out.n; simp only at this; omega⟩
          have HL1 := Aside0.mk (RB_le hr1)
          have HL2 := Aside0.mk (RB_le hr2)
          have HC := Aside0.mk hC
          have HD := Aside0.mk hD
          have H1 := Aside0.mk hr1
          have H2 := Aside0.mk hr2
          have H3 := Aside0.mk hs1
          have H4 := Aside0.mk hs2
          clear ha hC hr1 hr2 hD hs1 hs2 HCB HCD
          go_upto_region 13 with (first
            | (refine gate_ (.load 35 (.tmp 7)) rfl ?_; refine wpList_load_row rfl 35 (.tmp 7) rfl (w1.heap.size) rfl 35 #[.bool c.echoed, .bool c.readied, .bool c.done, .slice A1 c.echoes.length c1, .slice A2 c.readies.length c2] (0, 0) _ (by repeat (first | (with_reducible exact HC.out) | (with_reducible refine blk_drew ?_) | (with_reducible refine blk_drewN ?_ _) | (with_reducible refine blk_newg ?_; (simp; done)) | (with_reducible refine blk_alloc ?_ _))) Try.underlying35 rfl (by kernel_rfl) ?_)
            | (go_at_call 14; refine (take_calls c A1 c1 A2 c2 m fr x.kind x.who x.body _ (RB_C (by repeat (first | (with_reducible exact H1.out) | (with_reducible refine Kd.R_alloc ?_ _) | (with_reducible refine Kd.R_drewN ?_ _) | (with_reducible refine Kd.R_drew ?_)))) (RB_C (by repeat (first | (with_reducible exact H2.out) | (with_reducible refine Kd.R_alloc ?_ _) | (with_reducible refine Kd.R_drewN ?_ _) | (with_reducible refine Kd.R_drew ?_)))) HL1.out HL2.out HLE.out HLR.out hm hf0 hf1 w0' w1' k0 k1 HBs.out HWE.out HWR.out).mono ?_; rw [HA.out]; rintro e w2 ⟨v, A3, n3, rfl, ⟨B1, d1, B2, d2, rfl, hr1, hr2⟩, hO, hb⟩; have HCx : Aside0 (w2.heap[w1.heap.size]? = some (.cells #[.bool c.echoed, .bool c.readied, .bool c.done, .slice A1 c.echoes.length c1, .slice A2 c.readies.length c2] 35 (0, 0))) := ⟨blk_below (by repeat (first | (with_reducible exact HC.out) | (with_reducible refine blk_drew ?_) | (with_reducible refine blk_drewN ?_ _) | (with_reducible refine blk_newg ?_; (simp; done)) | (with_reducible refine blk_alloc ?_ _))) hb⟩; have HDx : Aside0 (w2.heap[(w1.heap.size + 1)]? = some (.cells #[.bool c.echoed, .bool c.readied, .bool c.done, .slice E1 c.echoes.length e1, .slice E2 c.readies.length e2] 24 (0, 0))) := ⟨blk_below (by repeat (first | (with_reducible exact HD.out) | (with_reducible refine blk_drew ?_) | (with_reducible refine blk_drewN ?_ _) | (with_reducible refine blk_newg ?_; (simp; done)) | (with_reducible refine blk_alloc ?_ _))) hb⟩; have H3x : Aside0 (RR w2 (.slice E1 c.echoes.length e1) c.echoes) := ⟨Kd.R_below (by repeat (first | (with_reducible exact H3.out) | (with_reducible refine Kd.R_alloc ?_ _) | (with_reducible refine Kd.R_drewN ?_ _) | (with_reducible refine Kd.R_drew ?_))) hb⟩; have H4x : Aside0 (RR w2 (.slice E2 c.readies.length e2) c.readies) := ⟨Kd.R_below (by repeat (first | (with_reducible exact H4.out) | (with_reducible refine Kd.R_alloc ?_ _) | (with_reducible refine Kd.R_drewN ?_ _) | (with_reducible refine Kd.R_drew ?_))) hb⟩; have HBx : Aside0 (Below w.heap.size w w2) := ⟨below_back hb (by repeat (first | (with_reducible exact HB.out) | (with_reducible refine below_alloc ?_ _) | (with_reducible refine pw_below_drewN ?_ _) | (with_reducible refine below_drew ?_)))⟩; clear HC HD H3 H4 HB; have HC := HCx; clear HCx; have HD := HDx; clear HDx; have H3 := H3x; clear H3x; have H4 := H4x; clear H4x; have HB := HBx; clear HBx; have HV : Aside0 (w2.heap[wr.heap.size]? = some (.cells #[.int .i64 x.kind, .int .u8 x.who, .string x.body] 30 (0, 0))) := ⟨blk_below (by repeat (first | (with_reducible refine blk_newg ?_; (simp; done)) | (with_reducible refine blk_drew ?_) | (with_reducible refine blk_drewN ?_ _))) hb⟩; clear hb H1 H2; have HN1 := Aside0.mk hr1; have HN2 := Aside0.mk hr2; have HO := Aside0.mk hO; clear hr1 hr2 hO; have v0 := blk_cell HV.out 0; have v1 := blk_cell HV.out 1; have v2 := blk_cell HV.out 2; have ltv := blk_lt HV.out)
            | (refine gate_ (.load 24 (.tmp 8)) rfl ?_; refine wpList_load_row rfl 24 (.tmp 8) rfl (w1.heap.size + 1) rfl 24 #[.bool c.echoed, .bool c.readied, .bool c.done, .slice E1 c.echoes.length e1, .slice E2 c.readies.length e2] (0, 0) _ (by repeat (first | (with_reducible exact HD.out) | (with_reducible refine blk_drew ?_) | (with_reducible refine blk_drewN ?_ _) | (with_reducible refine blk_newg ?_; (simp; done)) | (with_reducible refine blk_alloc ?_ _))) Try.underlying24 rfl (by kernel_rfl) ?_)
            | (go_at_call 16; refine (rtake_calls c E1 e1 E2 e2 m fr x.kind x.who x.body _ _ (Below.refl _ _) (RR_C (by repeat (first | (with_reducible exact H3.out) | (with_reducible refine Kd.R_alloc ?_ _) | (with_reducible refine Kd.R_drewN ?_ _) | (with_reducible refine Kd.R_drew ?_)))) (RR_C (by repeat (first | (with_reducible exact H4.out) | (with_reducible refine Kd.R_alloc ?_ _) | (with_reducible refine Kd.R_drewN ?_ _) | (with_reducible refine Kd.R_drew ?_)))) HLE.out HLR.out hm hf0 hf1 w0' w1' k0 k1 HBs.out HWE.out HWR.out).mono ?_; rw [HA.out]; rintro e w3 ⟨A5, c5, A6, c6, A7, c7, rfl, ho⟩; have hb := ho.bel; have HR1 : Aside0 (RR w3 (.slice A5 d.echoes.length c5) d.echoes) := ⟨ho.rdR (by repeat (first | (with_reducible exact H3.out) | (with_reducible refine Kd.R_alloc ?_ _) | (with_reducible refine Kd.R_drewN ?_ _) | (with_reducible refine Kd.R_drew ?_))) 0 rfl⟩; have HR2 : Aside0 (RR w3 (.slice A6 d.readies.length c6) d.readies) := ⟨ho.rdR (by repeat (first | (with_reducible exact H4.out) | (with_reducible refine Kd.R_alloc ?_ _) | (with_reducible refine Kd.R_drewN ?_ _) | (with_reducible refine Kd.R_drew ?_))) 1 rfl⟩; have HO2 : Aside0 (kO.R 87 w3 0 (fun _ => True) (.slice A7 o.length c7) o) := ⟨ho.rdR (Kd.R_nil _ _ _ _ _) 2 rfl⟩; have HCx : Aside0 (w3.heap[w1.heap.size]? = some (.cells #[.bool c.echoed, .bool c.readied, .bool c.done, .slice A1 c.echoes.length c1, .slice A2 c.readies.length c2] 35 (0, 0))) := ⟨blk_below (by repeat (first | (with_reducible exact HC.out) | (with_reducible refine blk_drew ?_) | (with_reducible refine blk_drewN ?_ _) | (with_reducible refine blk_newg ?_; (simp; done)) | (with_reducible refine blk_alloc ?_ _))) hb⟩; have HDx : Aside0 (w3.heap[(w1.heap.size + 1)]? = some (.cells #[.bool c.echoed, .bool c.readied, .bool c.done, .slice E1 c.echoes.length e1, .slice E2 c.readies.length e2] 24 (0, 0))) := ⟨blk_below (by repeat (first | (with_reducible exact HD.out) | (with_reducible refine blk_drew ?_) | (with_reducible refine blk_drewN ?_ _) | (with_reducible refine blk_newg ?_; (simp; done)) | (with_reducible refine blk_alloc ?_ _))) hb⟩; have HN1x : Aside0 (RB w3 (.slice B1 d.echoes.length d1) d.echoes) := ⟨Kd.R_below (by repeat (first | (with_reducible exact HN1.out) | (with_reducible refine Kd.R_alloc ?_ _) | (with_reducible refine Kd.R_drewN ?_ _) | (with_reducible refine Kd.R_drew ?_))) hb⟩; have HN2x : Aside0 (RB w3 (.slice B2 d.readies.length d2) d.readies) := ⟨Kd.R_below (by repeat (first | (with_reducible exact HN2.out) | (with_reducible refine Kd.R_alloc ?_ _) | (with_reducible refine Kd.R_drewN ?_ _) | (with_reducible refine Kd.R_drew ?_))) hb⟩; have HOx : Aside0 (RO w3 (.slice A3 o.length n3) o) := ⟨Kd.R_below (by repeat (first | (with_reducible exact HO.out) | (with_reducible refine Kd.R_alloc ?_ _) | (with_reducible refine Kd.R_drewN ?_ _) | (with_reducible refine Kd.R_drew ?_))) hb⟩; have HBx : Aside0 (Below w.heap.size w w3) := ⟨below_back hb (by repeat (first | (with_reducible exact HB.out) | (with_reducible refine below_alloc ?_ _) | (with_reducible refine pw_below_drewN ?_ _) | (with_reducible refine below_drew ?_)))⟩; clear HC HD HN1 HN2 HO HB; have HC := HCx; clear HCx; have HD := HDx; clear HDx; have HN1 := HN1x; clear HN1x; have HN2 := HN2x; clear HN2x; have HO := HOx; clear HOx; have HB := HBx; clear HBx; have HX : Aside0 (w3.heap[w2.heap.size]? = some (.cells #[.bool d.echoed, .bool d.readied, .bool d.done, .slice B1 d.echoes.length d1, .slice B2 d.readies.length d2] 35 (0, 0))) := ⟨blk_below (by repeat (first | (with_reducible refine blk_newg ?_; (simp; done)) | (with_reducible refine blk_drew ?_) | (with_reducible refine blk_drewN ?_ _))) hb⟩; clear hb ho H3 H4 v0 v1 v2 HV ltv)
            | (refine gate_ (.load 35 (.tmp 11)) rfl ?_; refine wpList_load_row rfl 35 (.tmp 11) rfl (w2.heap.size) rfl 35 #[.bool d.echoed, .bool d.readied, .bool d.done, .slice B1 d.echoes.length d1, .slice B2 d.readies.length d2] (0, 0) _ (by repeat (first | (with_reducible exact HX.out) | (with_reducible refine blk_drew ?_) | (with_reducible refine blk_drewN ?_ _) | (with_reducible refine blk_newg ?_; (simp; done)) | (with_reducible refine blk_alloc ?_ _))) Try.underlying35 rfl (by kernel_rfl) ?_)
            | (refine gate_ (.store 35 (.tmp 7) (.tmp 63)) rfl ?_; refine wpList_store_row rfl 35 (.tmp 7) (.tmp 63) rfl (w1.heap.size) #[.bool d.echoed, .bool d.readied, .bool d.done, .slice B1 d.echoes.length d1, .slice B2 d.readies.length d2] rfl rfl 35 #[.bool c.echoed, .bool c.readied, .bool c.done, .slice A1 c.echoes.length c1, .slice A2 c.readies.length c2] (by repeat (first | (with_reducible exact HC.out) | (with_reducible refine blk_drew ?_) | (with_reducible refine blk_drewN ?_ _) | (with_reducible refine blk_newg ?_; (simp; done)) | (with_reducible refine blk_alloc ?_ _))) (by kernel_rfl) rfl (by simp [Value.oneCell']) ?_)
            | fail)
          go_frame
          go_cut [] (fun wx => Aside0 (RowF w w1.heap.size (w1.heap.size + 1) w3.heap.size #[.bool d.echoed, .bool d.readied, .bool d.done, .slice B1 d.echoes.length d1, .slice B2 d.readies.length d2] #[.bool d.echoed, .bool d.readied, .bool d.done, .slice A5 d.echoes.length c5, .slice A6 d.readies.length c6] #[.bool d.echoed, .bool d.readied, .bool d.done, .slice A5 d.echoes.length c5, .slice A6 d.readies.length c6, .slice A7 o.length c7, .string bo, .bool is, .int .i64 er] d o B1 d1 B2 d2 A5 c5 A6 c6 A3 n3 A7 c7 wx))
          case first =>
            have l7 := blk_lt HC.out
            have l8 := blk_lt HD.out
            go_wp2_with (first
              | (refine gate_ (.load 24 (.tmp 64)) rfl ?_; refine ev_load (g := w3.heap.size) (cs := #[.bool d.echoed, .bool d.readied, .bool d.done, .slice A5 d.echoes.length c5, .slice A6 d.readies.length c6, .slice A7 o.length c7, .string bo, .bool is, .int .i64 er]) (T := 43) ((setRow_other _ _ _ _ (by omega)).trans (blk_newg rfl)) 0 5 [.bool d.echoed, .bool d.readied, .bool d.done, .slice A5 d.echoes.length c5, .slice A6 d.readies.length c6] rfl rfl rfl (by rfl) Try.underlying24 rfl (by kernel_rfl) ?_)
              | (refine gate_ (.store 24 (.tmp 8) (.tmp 65)) rfl ?_; refine wpList_store_row rfl 24 (.tmp 8) (.tmp 65) rfl (w1.heap.size + 1) #[.bool d.echoed, .bool d.readied, .bool d.done, .slice A5 d.echoes.length c5, .slice A6 d.readies.length c6] rfl rfl 24 #[.bool c.echoed, .bool c.readied, .bool c.done, .slice E1 c.echoes.length e1, .slice E2 c.readies.length e2] ((setRow_other _ _ _ _ (by omega)).trans (blk_alloc HD.out _)) (by kernel_rfl) rfl (by simp [Value.oneCell']) ?_)
              | fail)
            go_meet
            exact ⟨RowF.stored HC.out HD.out (by omega) HN1.out HN2.out HR1.out HR2.out HO.out HO2.out HB.out HW1.out (by have := HW1.out; omega)⟩
          case rest =>
            have HQ := Aside0.mk hcut.out
            clear hcut
            clear HB HC HD HX HN1 HN2 HR1 HR2 HO HO2
            have HKV : Aside0 (∀ w' : World, RowF w w1.heap.size (w1.heap.size + 1) w3.heap.size #[.bool d.echoed, .bool d.readied, .bool d.done, .slice B1 d.echoes.length d1, .slice B2 d.readies.length d2] #[.bool d.echoed, .bool d.readied, .bool d.done, .slice A5 d.echoes.length c5, .slice A6 d.readies.length c6] #[.bool d.echoed, .bool d.readied, .bool d.done, .slice A5 d.echoes.length c5, .slice A6 d.readies.length c6, .slice A7 o.length c7, .string bo, .bool is, .int .i64 er] d o B1 d1 B2 d2 A5 c5 A6 c6 A3 n3 A7 c7 w' → (w'.cell? ⟨w1.heap.size, 0, none⟩ = some (.bool d.echoed) ∧ w'.cell? ⟨w1.heap.size, 1, none⟩ = some (.bool d.readied) ∧ w'.cell? ⟨w1.heap.size, 2, none⟩ = some (.bool d.done) ∧ w'.cell? ⟨w1.heap.size, 3, none⟩ = some (.slice B1 d.echoes.length d1) ∧ w'.cell? ⟨w1.heap.size, 4, none⟩ = some (.slice B2 d.readies.length d2) ∧ w'.cell? ⟨w1.heap.size + 1, 0, none⟩ = some (.bool d.echoed) ∧ w'.cell? ⟨w1.heap.size + 1, 1, none⟩ = some (.bool d.readied) ∧ w'.cell? ⟨w1.heap.size + 1, 2, none⟩ = some (.bool d.done) ∧ w'.cell? ⟨w1.heap.size + 1, 3, none⟩ = some (.slice A5 d.echoes.length c5) ∧ w'.cell? ⟨w1.heap.size + 1, 4, none⟩ = some (.slice A6 d.readies.length c6) ∧ w'.cell? ⟨w3.heap.size, 0, none⟩ = some (.bool d.echoed) ∧ w'.cell? ⟨w3.heap.size, 1, none⟩ = some (.bool d.readied) ∧ w'.cell? ⟨w3.heap.size, 2, none⟩ = some (.bool d.done) ∧ w'.cell? ⟨w3.heap.size, 3, none⟩ = some (.slice A5 d.echoes.length c5) ∧ w'.cell? ⟨w3.heap.size, 4, none⟩ = some (.slice A6 d.readies.length c6) ∧ w'.cell? ⟨w3.heap.size, 5, none⟩ = some (.slice A7 o.length c7) ∧ w'.cell? ⟨w3.heap.size, 6, none⟩ = some (.string bo) ∧ w'.cell? ⟨w3.heap.size, 7, none⟩ = some (.bool is) ∧ w'.cell? ⟨w3.heap.size, 8, none⟩ = some (.int .i64 er))) := ⟨fun W h => ⟨blk_cell h.hc 0, blk_cell h.hc 1, blk_cell h.hc 2, blk_cell h.hc 3, blk_cell h.hc 4, blk_cell h.hd 0, blk_cell h.hd 1, blk_cell h.hd 2, blk_cell h.hd 3, blk_cell h.hd 4, blk_cell h.ht 0, blk_cell h.ht 1, blk_cell h.ht 2, blk_cell h.ht 3, blk_cell h.ht 4, blk_cell h.ht 5, blk_cell h.ht 6, blk_cell h.ht 7, blk_cell h.ht 8⟩⟩
            have e1 : (is != is) = false := by simp
            have e2 : (er != er) = false := by simp
            have e3 : (!(bo.toList == bo.toList)) = false := by simp
            rename World => wt
            go_wp2_with fail
            go_region_held3 (fun w' => (w'.cell? ⟨w1.heap.size, 0, none⟩ = some (.bool d.echoed) ∧ w'.cell? ⟨w1.heap.size, 1, none⟩ = some (.bool d.readied) ∧ w'.cell? ⟨w1.heap.size, 2, none⟩ = some (.bool d.done) ∧ w'.cell? ⟨w1.heap.size, 3, none⟩ = some (.slice B1 d.echoes.length d1) ∧ w'.cell? ⟨w1.heap.size, 4, none⟩ = some (.slice B2 d.readies.length d2) ∧ w'.cell? ⟨w1.heap.size + 1, 0, none⟩ = some (.bool d.echoed) ∧ w'.cell? ⟨w1.heap.size + 1, 1, none⟩ = some (.bool d.readied) ∧ w'.cell? ⟨w1.heap.size + 1, 2, none⟩ = some (.bool d.done) ∧ w'.cell? ⟨w1.heap.size + 1, 3, none⟩ = some (.slice A5 d.echoes.length c5) ∧ w'.cell? ⟨w1.heap.size + 1, 4, none⟩ = some (.slice A6 d.readies.length c6) ∧ w'.cell? ⟨w3.heap.size, 0, none⟩ = some (.bool d.echoed) ∧ w'.cell? ⟨w3.heap.size, 1, none⟩ = some (.bool d.readied) ∧ w'.cell? ⟨w3.heap.size, 2, none⟩ = some (.bool d.done) ∧ w'.cell? ⟨w3.heap.size, 3, none⟩ = some (.slice A5 d.echoes.length c5) ∧ w'.cell? ⟨w3.heap.size, 4, none⟩ = some (.slice A6 d.readies.length c6) ∧ w'.cell? ⟨w3.heap.size, 5, none⟩ = some (.slice A7 o.length c7) ∧ w'.cell? ⟨w3.heap.size, 6, none⟩ = some (.string bo) ∧ w'.cell? ⟨w3.heap.size, 7, none⟩ = some (.bool is) ∧ w'.cell? ⟨w3.heap.size, 8, none⟩ = some (.int .i64 er)))
              ((refine HKV.out _ ?_; (focus ((repeat (first | (with_reducible refine RowF.alloc ?_ _) | (with_reducible refine RowF.drewN ?_ _) | (with_reducible refine RowF.drew ?_))); (with_reducible exact HQ.out)))))
              (first
                | (go_at_call 18; refine row_call (w := w) (g7 := w1.heap.size) (g8 := w1.heap.size + 1) (gt := w3.heap.size) (CC := #[.bool d.echoed, .bool d.readied, .bool d.done, .slice B1 d.echoes.length d1, .slice B2 d.readies.length d2]) (DC := #[.bool d.echoed, .bool d.readied, .bool d.done, .slice A5 d.echoes.length c5, .slice A6 d.readies.length c6]) (TC := #[.bool d.echoed, .bool d.readied, .bool d.done, .slice A5 d.echoes.length c5, .slice A6 d.readies.length c6, .slice A7 o.length c7, .string bo, .bool is, .int .i64 er]) (d := d) (o := o) (B1 := B1) (d1 := d1) (B2 := B2) (d2 := d2) (A5 := A5) (c5 := c5) (A6 := A6) (c6 := c6) (A3 := A3) (n3 := n3) (A7 := A7) (c7 := c7) ?_ ?_; (focus ((repeat (first | (with_reducible refine RowF.alloc ?_ _) | (with_reducible refine RowF.drewN ?_ _) | (with_reducible refine RowF.drew ?_))); (with_reducible exact HQ.out))); intro hq; (with_reducible refine (ours_calls d.echoed d.readied d.done d.echoes d.readies B1 d1 B2 d2 _ (RB_C hq.b1) (RB_C hq.b2) HD1.out HD2.out).mono ?_); rintro e w5 ⟨X1, x1, X2, x2, rfl, hr1, hr2, hb⟩; have H5 := Aside0.mk hr1; have H6 := Aside0.mk hr2; clear hr1 hr2; have HQx : Aside0 (RowF w w1.heap.size (w1.heap.size + 1) w3.heap.size #[.bool d.echoed, .bool d.readied, .bool d.done, .slice B1 d.echoes.length d1, .slice B2 d.readies.length d2] #[.bool d.echoed, .bool d.readied, .bool d.done, .slice A5 d.echoes.length c5, .slice A6 d.readies.length c6] #[.bool d.echoed, .bool d.readied, .bool d.done, .slice A5 d.echoes.length c5, .slice A6 d.readies.length c6, .slice A7 o.length c7, .string bo, .bool is, .int .i64 er] d o B1 d1 B2 d2 A5 c5 A6 c6 A3 n3 A7 c7 w5) := ⟨hq.below hb⟩; clear hb; clear HQ; have HQ := HQx; clear HQx hq)
                | (go_at_call 17; refine row_call (w := w) (g7 := w1.heap.size) (g8 := w1.heap.size + 1) (gt := w3.heap.size) (CC := #[.bool d.echoed, .bool d.readied, .bool d.done, .slice B1 d.echoes.length d1, .slice B2 d.readies.length d2]) (DC := #[.bool d.echoed, .bool d.readied, .bool d.done, .slice A5 d.echoes.length c5, .slice A6 d.readies.length c6]) (TC := #[.bool d.echoed, .bool d.readied, .bool d.done, .slice A5 d.echoes.length c5, .slice A6 d.readies.length c6, .slice A7 o.length c7, .string bo, .bool is, .int .i64 er]) (d := d) (o := o) (B1 := B1) (d1 := d1) (B2 := B2) (d2 := d2) (A5 := A5) (c5 := c5) (A6 := A6) (c6 := c6) (A3 := A3) (n3 := n3) (A7 := A7) (c7 := c7) ?_ ?_; (focus ((repeat (first | (with_reducible refine RowF.alloc ?_ _) | (with_reducible refine RowF.drewN ?_ _) | (with_reducible refine RowF.drew ?_))); (with_reducible exact HQ.out))); intro hq; (with_reducible refine (same_calls d.echoed d.readied d.done d.echoes d.readies X1 x1 X2 x2 A5 c5 A6 c6 _ ?_ ?_ (RR_C hq.r1) (RR_C hq.r2) HD3.out HD4.out).mono ?_); (focus exact RR_C (by repeat (first | (with_reducible exact H5.out) | (with_reducible refine Kd.R_alloc ?_ _) | (with_reducible refine Kd.R_drewN ?_ _) | (with_reducible refine Kd.R_drew ?_)))); (focus exact RR_C (by repeat (first | (with_reducible exact H6.out) | (with_reducible refine Kd.R_alloc ?_ _) | (with_reducible refine Kd.R_drewN ?_ _) | (with_reducible refine Kd.R_drew ?_)))); rintro e w6 ⟨rfl, hb⟩; have HQx : Aside0 (RowF w w1.heap.size (w1.heap.size + 1) w3.heap.size #[.bool d.echoed, .bool d.readied, .bool d.done, .slice B1 d.echoes.length d1, .slice B2 d.readies.length d2] #[.bool d.echoed, .bool d.readied, .bool d.done, .slice A5 d.echoes.length c5, .slice A6 d.readies.length c6] #[.bool d.echoed, .bool d.readied, .bool d.done, .slice A5 d.echoes.length c5, .slice A6 d.readies.length c6, .slice A7 o.length c7, .string bo, .bool is, .int .i64 er] d o B1 d1 B2 d2 A5 c5 A6 c6 A3 n3 A7 c7 w6) := ⟨hq.below hb⟩; clear hb; clear HQ; have HQ := HQx; clear HQx hq)
                | (go_at_call 19; refine row_call (w := w) (g7 := w1.heap.size) (g8 := w1.heap.size + 1) (gt := w3.heap.size) (CC := #[.bool d.echoed, .bool d.readied, .bool d.done, .slice B1 d.echoes.length d1, .slice B2 d.readies.length d2]) (DC := #[.bool d.echoed, .bool d.readied, .bool d.done, .slice A5 d.echoes.length c5, .slice A6 d.readies.length c6]) (TC := #[.bool d.echoed, .bool d.readied, .bool d.done, .slice A5 d.echoes.length c5, .slice A6 d.readies.length c6, .slice A7 o.length c7, .string bo, .bool is, .int .i64 er]) (d := d) (o := o) (B1 := B1) (d1 := d1) (B2 := B2) (d2 := d2) (A5 := A5) (c5 := c5) (A6 := A6) (c6 := c6) (A3 := A3) (n3 := n3) (A7 := A7) (c7 := c7) ?_ ?_; (focus ((repeat (first | (with_reducible refine RowF.alloc ?_ _) | (with_reducible refine RowF.drewN ?_ _) | (with_reducible refine RowF.drew ?_))); (with_reducible exact HQ.out))); intro hq; (with_reducible refine (outs_calls A3 n3 o A7 c7 _ (Kd.R_reads' hq.o1).2.2 (Kd.R_reads' hq.o2).2.2 HOL.out).mono ?_); rintro e w7 ⟨rfl, hb⟩; have HQx : Aside0 (RowF w w1.heap.size (w1.heap.size + 1) w3.heap.size #[.bool d.echoed, .bool d.readied, .bool d.done, .slice B1 d.echoes.length d1, .slice B2 d.readies.length d2] #[.bool d.echoed, .bool d.readied, .bool d.done, .slice A5 d.echoes.length c5, .slice A6 d.readies.length c6] #[.bool d.echoed, .bool d.readied, .bool d.done, .slice A5 d.echoes.length c5, .slice A6 d.readies.length c6, .slice A7 o.length c7, .string bo, .bool is, .int .i64 er] d o B1 d1 B2 d2 A5 c5 A6 c6 A3 n3 A7 c7 w7) := ⟨hq.below hb⟩; clear hb; clear HQ; have HQ := HQx; clear HQx hq)
                | fail)
            all_goals (go_wp2_with fail; go_roundw)
            case rel => exact ⟨i + 1, d, by go_num, by omega, by omega, HG2, ⟨B1, d1, B2, d2, HQ.out.hc, HQ.out.b1, HQ.out.b2⟩, ⟨A5, c5, A6, c6, HQ.out.hd, HQ.out.r1, HQ.out.r2⟩, ⟨HQ.out.hb⟩⟩
            case measure => simp [intOf]; omega
      · go_wp2_with fail
        go_ret
        exact ⟨rfl, HB.out⟩
    · go_wp2_with fail
      go_ret
      exact ⟨rfl, HB.out⟩
end Go.Proofs.Ytkppilpailbpeaa.Vot
