/- The walk of alive. -/
import Derived.Test.YtkppilpailbpeaaVotTakeAll
namespace Go.Proofs.Ytkppilpailbpeaa.Vot
open Go Go.RowKit Go.Proofs.YtkppilpailbpeaaW.PrintWords Go.Proofs.Ytkppilpailbpeaa.Cnt Go.Proofs.Ytkppilpailbpeaa.Opn
set_option linter.unusedVariables false
set_option linter.unusedSimpArgs false

theorem RB_C {w : World} {A : Option Addr} {c : Nat} {l : List Bal} (h : RB w (.slice A l.length c) l) : kB.C w A l.length l := (Kd.R_reads' h).2.2
theorem RB_le {w : World} {A : Option Addr} {c : Nat} {l : List Bal} (h : RB w (.slice A l.length c) l) : l.length ≤ c := (Kd.R_reads' h).2.1
/-- block g holds a case -/
def CaseB (w : World) (g : Nat) (c : Cas) : Prop := ∃ A1 c1 A2 c2, w.heap[g]? = some (.cells #[.bool c.echoed, .bool c.readied, .bool c.done, .slice A1 c.echoes.length c1, .slice A2 c.readies.length c2] 35 (0, 0)) ∧ RB w (.slice A1 c.echoes.length c1) c.echoes ∧ RB w (.slice A2 c.readies.length c2) c.readies
theorem CaseB.stored {W : World} {g : Nat} {c : Cas} {old : Array Value} {A1 A2 : Option Addr} {c1 c2 : Nat} (hg : W.heap[g]? = some (.cells old 35 (0, 0))) (h1 : RB W (.slice A1 c.echoes.length c1) c.echoes) (h2 : RB W (.slice A2 c.readies.length c2) c.readies) : CaseB (W.setRow g #[.bool c.echoed, .bool c.readied, .bool c.done, .slice A1 c.echoes.length c1, .slice A2 c.readies.length c2]) g c :=
  ⟨A1, c1, A2, c2, setRow_heap _ _ _ _ _ _ hg, RB_row h1 hg (by decide) _, RB_row h2 hg (by decide) _⟩
theorem CaseB.below {w w' : World} {g : Nat} {c : Cas} (h : CaseB w g c) (hb : Below w.heap.size w w') : CaseB w' g c := by
  obtain ⟨A1, c1, A2, c2, hC, h1, h2⟩ := h
  exact ⟨A1, c1, A2, c2, blk_below hC hb, Kd.R_below h1 hb, Kd.R_below h2 hb⟩
theorem B_C {w : World} {g : Nat} {b : ByteArray} {s : Nat} (h : w.heap[g]? = some (.cells #[.string b, .int .u16 (s : Int)] 77 (0, 0))) : kB.C w (some ⟨g, 0, none⟩) [(⟨b, s⟩ : Bal)].length [⟨b, s⟩] := by
  refine ⟨rfl, by simp, fun _ => ⟨_, rfl, fun j p hj => ?_⟩⟩
  have hj0 : j = 0 := by
    have := (List.getElem?_eq_some_iff.1 hj).1
    simp at this
    exact this
  subst hj0
  simp at hj
  subst hj
  refine ⟨_, rfl, kB_mk w _, fun i u hu => ?_⟩
  rw [add_plain, blk_cell h]
  simpa using hu
def csA : Nat → Cas
  | 0 => ⟨false, false, false, [], []⟩
  | 1 => ⟨false, false, false, [⟨⟨#[97]⟩, 1⟩], []⟩
  | 2 => ⟨false, false, false, [⟨⟨#[97]⟩, 3⟩], []⟩
  | _ => ⟨false, true, false, [⟨⟨#[97]⟩, 7⟩], []⟩
def outA (i : Nat) : List Out := if i = 2 then [⟨3, ⟨#[97]⟩⟩] else []
theorem takeA (i : Nat) (h : i < 3) : takeM (csA i) 15 0 2 (i : Int) ⟨#[97]⟩ = ⟨csA (i + 1), outA i, ⟨#[]⟩, false, 0⟩ := by
  have s1 : sz 15 = 4 := by decide
  have e1 : echoes 4 = 3 := by decide
  have f1 : faulty 4 = 1 := by decide
  have s3 : (⟨#[97]⟩ : ByteArray).size = 1 := rfl
  have s2 : ∀ n, hit ⟨#[97]⟩ ⟨⟨#[97]⟩, n⟩ = true := hit_self _
  match i, h with
  | 0, _ =>
    have b0 : hasB 15 0 = true := by decide
    have b1 : bitN 0 = 1 := by decide
    have b2 : sz 1 = 1 := by decide
    simp [takeM, csA, echoA, s3, votedL, withL, manyL, forL, readyC, readyO, outA, s1, s2, b0, b1, b2, e1, f1]
  | 1, _ =>
    have b0 : hasB 15 0 = true := by decide
    have b3 : hasB 15 1 = true := by decide
    have b4 : hasB 1 1 = false := by decide
    have b1 : bitN 1 = 2 := by decide
    have b2 : sz 3 = 2 := by decide
    simp [takeM, csA, echoA, s3, votedL, withL, manyL, forL, readyC, readyO, outA, s1, s2, b0, b1, b2, b3, b4, e1, f1]
  | 2, _ =>
    have b0 : hasB 15 0 = true := by decide
    have b3 : hasB 15 2 = true := by decide
    have b4 : hasB 3 2 = false := by decide
    have b1 : bitN 2 = 4 := by decide
    have b2 : sz 7 = 3 := by decide
    simp [takeM, csA, echoA, s3, votedL, withL, manyL, forL, readyC, readyO, outA, s1, s2, b0, b1, b2, b3, b4, e1, f1]
theorem takeA2 : takeM ⟨false, true, false, [], [⟨⟨#[97]⟩, 3⟩]⟩ 15 0 3 2 ⟨#[97]⟩ = ⟨⟨false, true, true, [], [⟨⟨#[97]⟩, 7⟩]⟩, [], ⟨#[97]⟩, true, 0⟩ := by
  have s1 : sz 15 = 4 := by decide
  have e1 : echoes 4 = 3 := by decide
  have f1 : faulty 4 = 1 := by decide
  have s3 : (⟨#[97]⟩ : ByteArray).size = 1 := rfl
  have s2 : ∀ n, hit ⟨#[97]⟩ ⟨⟨#[97]⟩, n⟩ = true := hit_self _
  have b0 : hasB 15 0 = true := by decide
  have b3 : hasB 15 2 = true := by decide
  have b4 : hasB 3 2 = false := by decide
  have b1 : bitN 2 = 4 := by decide
  have b2 : sz 7 = 3 := by decide
  simp [takeM, readyA, s3, votedL, withL, manyL, forL, readyC, readyO, doneB, s1, s2, b0, b1, b2, b3, b4, e1, f1]
theorem takeA3 (c : Cas) : takeM c 15 0 1 1 ⟨#[97]⟩ = ⟨c, [], ⟨#[]⟩, false, 10⟩ := by
  have s3 : (⟨#[97]⟩ : ByteArray).size = 1 := rfl
  have b0 : hasB 15 0 = true := by decide
  have b3 : hasB 15 1 = true := by decide
  simp [takeM, s3, b0, b3, failA]
def nA (i : Nat) : Nat := if i = 3 then 1 else 0
theorem nA_succ (i : Nat) (h : i < 3) : nA (i + 1) = nA i + (outA i).length := by
  match i, h with
  | 0, _ => rfl
  | 1, _ => rfl
  | 2, _ => rfl
theorem csA_ok (i : Nat) : whoOk (csA i).echoes ∧ whoOk (csA i).readies ∧ (csA i).echoes.length ≤ 1 ∧ (csA i).readies.length ≤ 1 := by
  match i with
  | 0 => exact ⟨fun x hx => by simp [csA] at hx, fun x hx => by simp [csA] at hx, by simp [csA], by simp [csA]⟩
  | 1 => exact ⟨fun x hx => by simp [csA] at hx; subst hx; decide, fun x hx => by simp [csA] at hx, by simp [csA], by simp [csA]⟩
  | 2 => exact ⟨fun x hx => by simp [csA] at hx; subst hx; decide, fun x hx => by simp [csA] at hx, by simp [csA], by simp [csA]⟩
  | (n + 3) => exact ⟨fun x hx => by simp [csA] at hx; subst hx; decide, fun x hx => by simp [csA] at hx, by simp [csA], by simp [csA]⟩

set_option maxHeartbeats 1000000 in
set_option maxRecDepth 100000 in
theorem alive_calls (w : World) : Calls Try.prog 11 #[] w (Kept (.bool true) w) := by
  have HB := Aside0.mk (Below.refl w.heap.size w)
  go_enter Try.func11, Try.ntmps11
  go_wp2_with fail
  go_loopw [2, 19] (fun v2 v19 w' => ∃ (i : Nat), v19 = .int .u8 (i : Int) ∧ v2 = .int .i64 (nA i : Nat) ∧ i ≤ 3 ∧ Aside0 (CaseB w' w.heap.size (csA i)) ∧ Aside0 (Below w.heap.size w w')) (fun _ v19 _ => 3 - (intOf v19).toNat)
  case atStart => exact ⟨0, rfl, rfl, by omega, ⟨none, 0, none, 0, blk_new _ _, Kd.R_nil _ _ _ _ _, Kd.R_nil _ _ _ _ _⟩, ⟨(by repeat (first | (with_reducible exact HB.out) | (with_reducible refine below_alloc ?_ _) | (with_reducible refine pw_below_drewN ?_ _) | (with_reducible refine below_drew ?_)))⟩⟩
  case round =>
    clear HB
    obtain ⟨i, rfl, rfl, hi, HCB, HB⟩ := hrel
    obtain ⟨A1, c1, A2, c2, hC, hr1, hr2⟩ := HCB.out
    have hwi : IntKind.u8.wrap ((i : Int) + 1) = (i : Int) + 1 := by rw [IntKind.wrap_u8]; omega
    by_cases hlt : i < 3
    · obtain ⟨ok1, ok2, ok3, ok4⟩ := csA_ok i
      have hA := takeA i hlt
      obtain ⟨c, hc⟩ : ∃ c, csA i = c := ⟨_, rfl⟩
      rw [hc] at hC hr1 hr2 ok1 ok2 ok3 ok4 hA
      obtain ⟨d, hd⟩ : ∃ d, csA (i + 1) = d := ⟨_, rfl⟩
      obtain ⟨o, ho⟩ : ∃ o, outA i = o := ⟨_, rfl⟩
      have hn := nA_succ i hlt
      rw [hd, ho] at hA
      rw [ho] at hn
      have hol : o.length ≤ 1 := by rw [← ho]; unfold outA; split <;> simp
      have hnl : nA i ≤ 1 := by unfold nA; split <;> omega
      have HD := Aside0.mk hd
      have HN := Aside0.mk hn
      have HA := Aside0.mk hA
      have HL1 := Aside0.mk (RB_le hr1)
      have HL2 := Aside0.mk (RB_le hr2)
      have HC := Aside0.mk hC
      have H1 := Aside0.mk hr1
      have H2 := Aside0.mk hr2
      have HWE := Aside0.mk ok1
      have HWR := Aside0.mk ok2
      have HLE : Aside0 (c.echoes.length ≤ 900000) := ⟨by omega⟩
      have HLR : Aside0 (c.readies.length ≤ 900000) := ⟨by omega⟩
      clear HCB hC hr1 hr2 ok1 ok2 ok3 ok4 hA hd hc ho hn
      go_wp2_with (first
        | (refine gate_ (.load 35 (.tmp 1)) rfl ?_; refine wpList_load_row rfl 35 (.tmp 1) rfl (w.heap.size) rfl 35 #[.bool c.echoed, .bool c.readied, .bool c.done, .slice A1 c.echoes.length c1, .slice A2 c.readies.length c2] (0, 0) _ (by repeat (first | (with_reducible exact HC.out) | (with_reducible refine blk_drew ?_) | (with_reducible refine blk_drewN ?_ _) | (with_reducible refine blk_newg ?_; (simp; done)) | (with_reducible refine blk_alloc ?_ _))) Try.underlying35 rfl (by kernel_rfl) ?_)
        | (go_at_call 14; refine (take_calls c A1 c1 A2 c2 15 0 2 (i : Int) ⟨#[97]⟩ _ (RB_C (by repeat (first | (with_reducible exact H1.out) | (with_reducible refine Kd.R_alloc ?_ _) | (with_reducible refine Kd.R_drewN ?_ _) | (with_reducible refine Kd.R_drew ?_)))) (RB_C (by repeat (first | (with_reducible exact H2.out) | (with_reducible refine Kd.R_alloc ?_ _) | (with_reducible refine Kd.R_drewN ?_ _) | (with_reducible refine Kd.R_drew ?_)))) HL1.out HL2.out HLE.out HLR.out (by omega) (by omega) (by omega) (by omega) (by omega) (by omega) (by omega) (by decide) HWE.out HWR.out).mono ?_; rw [HA.out]; rintro e w1 ⟨v, A3, n3, rfl, ⟨B1, d1, B2, d2, rfl, hr1, hr2⟩, hO3, hb⟩; have HCx : Aside0 (w1.heap[w.heap.size]? = some (.cells #[.bool c.echoed, .bool c.readied, .bool c.done, .slice A1 c.echoes.length c1, .slice A2 c.readies.length c2] 35 (0, 0))) := ⟨blk_below (by repeat (first | (with_reducible exact HC.out) | (with_reducible refine blk_drew ?_) | (with_reducible refine blk_drewN ?_ _) | (with_reducible refine blk_newg ?_; (simp; done)) | (with_reducible refine blk_alloc ?_ _))) hb⟩; have HBx : Aside0 (Below w.heap.size w w1) := ⟨below_back hb (by repeat (first | (with_reducible exact HB.out) | (with_reducible refine below_alloc ?_ _) | (with_reducible refine pw_below_drewN ?_ _) | (with_reducible refine below_drew ?_)))⟩; clear HC HB H1 H2 hb; have HC := HCx; have HB := HBx; clear HCx HBx; have H1 := Aside0.mk hr1; have H2 := Aside0.mk hr2; clear hr1 hr2 hO3)
        | (refine gate_ (.store 35 (.tmp 1) (.tmp 33)) rfl ?_; refine wpList_store_row rfl 35 (.tmp 1) (.tmp 33) rfl (w.heap.size) #[.bool d.echoed, .bool d.readied, .bool d.done, .slice B1 d.echoes.length d1, .slice B2 d.readies.length d2] rfl rfl 35 #[.bool c.echoed, .bool c.readied, .bool c.done, .slice A1 c.echoes.length c1, .slice A2 c.readies.length c2] (by repeat (first | (with_reducible exact HC.out) | (with_reducible refine blk_drew ?_) | (with_reducible refine blk_drewN ?_ _) | (with_reducible refine blk_newg ?_; (simp; done)) | (with_reducible refine blk_alloc ?_ _))) (by kernel_rfl) rfl (by simp [Value.oneCell']) ?_)
        | fail)
      go_roundw
      case rel => exact ⟨i + 1, by go_num, by rw [HN.out]; go_num, by omega, ⟨by rw [HD.out]; exact CaseB.stored ((by repeat (first | (with_reducible exact HC.out) | (with_reducible refine blk_drew ?_) | (with_reducible refine blk_drewN ?_ _) | (with_reducible refine blk_newg ?_; (simp; done)) | (with_reducible refine blk_alloc ?_ _)))) (by repeat (first | (with_reducible exact H1.out) | (with_reducible refine Kd.R_alloc ?_ _) | (with_reducible refine Kd.R_drewN ?_ _) | (with_reducible refine Kd.R_drew ?_))) (by repeat (first | (with_reducible exact H2.out) | (with_reducible refine Kd.R_alloc ?_ _) | (with_reducible refine Kd.R_drewN ?_ _) | (with_reducible refine Kd.R_drew ?_)))⟩, ⟨below_setRow (below_alloc HB.out _) (Nat.le_refl _) _⟩⟩
      case measure => simp [intOf]; omega
    · have hi3 : i = 3 := by omega
      subst hi3
      have hC : wr.heap[w.heap.size]? = some (.cells #[.bool false, .bool true, .bool false, .slice A1 1 c1, .slice A2 0 c2] 35 (0, 0)) := hC
      have hr1 : RB wr (.slice A1 [(⟨⟨#[97]⟩, 7⟩ : Bal)].length c1) [⟨⟨#[97]⟩, 7⟩] := hr1
      have hr2 : RB wr (.slice A2 ([] : List Bal).length c2) [] := hr2
      have HL1 : Aside0 ([(⟨⟨#[97]⟩, 7⟩ : Bal)].length ≤ c1) := ⟨RB_le hr1⟩
      have HL2 : Aside0 (([] : List Bal).length ≤ c2) := ⟨RB_le hr2⟩
      have HC := Aside0.mk hC
      have H1 := Aside0.mk hr1
      have H2 := Aside0.mk hr2
      have HW7 : Aside0 (whoOk [⟨⟨#[97]⟩, 7⟩]) := ⟨(csA_ok 3).1⟩
      have HW3 : Aside0 (whoOk [⟨⟨#[97]⟩, 3⟩]) := ⟨(csA_ok 2).1⟩
      have HW0 : Aside0 (whoOk []) := ⟨fun x hx => by simp at hx⟩
      have HFor : Aside0 (forL [⟨⟨#[97]⟩, 7⟩] ⟨#[97]⟩ = 7) := ⟨by simp [forL, hit_self]⟩
      have hSS : ((⟨#[97]⟩ : ByteArray).toList == (⟨#[97]⟩ : ByteArray).toList) = true := by simp
      have tok2 : True := trivial
      clear HCB hC hr1 hr2
      go_wp2_with (first
        | (go_at_call 14; have _t := tok2; clear _t tok2; refine (take_calls ⟨false, true, false, [], [⟨⟨#[97]⟩, 3⟩]⟩ none 0 (some ⟨wr.heap.size, 0, none⟩) 1 15 0 3 2 ⟨#[97]⟩ _ (Kd.C_nil _ _) (B_C (blk_new _ _)) (Nat.le_refl _) (Nat.le_refl _) (by simp) (by simp) (by omega) (by omega) (by omega) (by omega) (by omega) (by omega) (by omega) (by decide) HW0.out HW3.out).mono ?_; rw [takeA2]; rintro e w2 ⟨v, A3, n3, rfl, ⟨B1, d1, B2, d2, rfl, hr1, hr2⟩, hO3, hb⟩; clear hr1 hr2 hO3; have HCx : Aside0 (w2.heap[w.heap.size]? = some (.cells #[.bool false, .bool true, .bool false, .slice A1 1 c1, .slice A2 0 c2] 35 (0, 0))) := ⟨blk_below (by repeat (first | (with_reducible exact HC.out) | (with_reducible refine blk_drew ?_) | (with_reducible refine blk_drewN ?_ _) | (with_reducible refine blk_newg ?_; (simp; done)) | (with_reducible refine blk_alloc ?_ _))) hb⟩; have HBx : Aside0 (Below w.heap.size w w2) := ⟨below_back hb (by repeat (first | (with_reducible exact HB.out) | (with_reducible refine below_alloc ?_ _) | (with_reducible refine pw_below_drewN ?_ _) | (with_reducible refine below_drew ?_)))⟩; have H1x : Aside0 (RB w2 (.slice A1 [(⟨⟨#[97]⟩, 7⟩ : Bal)].length c1) [⟨⟨#[97]⟩, 7⟩]) := ⟨Kd.R_below (by repeat (first | (with_reducible exact H1.out) | (with_reducible refine Kd.R_alloc ?_ _) | (with_reducible refine Kd.R_drewN ?_ _) | (with_reducible refine Kd.R_drew ?_))) hb⟩; have H2x : Aside0 (RB w2 (.slice A2 ([] : List Bal).length c2) []) := ⟨Kd.R_below (by repeat (first | (with_reducible exact H2.out) | (with_reducible refine Kd.R_alloc ?_ _) | (with_reducible refine Kd.R_drewN ?_ _) | (with_reducible refine Kd.R_drew ?_))) hb⟩; clear HC HB H1 H2; have HC := HCx; clear HCx; have HB := HBx; clear HBx; have H1 := H1x; clear H1x; have H2 := H2x; clear H2x; clear hb)
        | (refine gate_ (.load 35 (.tmp 1)) rfl ?_; refine wpList_load_row rfl 35 (.tmp 1) rfl (w.heap.size) rfl 35 #[.bool false, .bool true, .bool false, .slice A1 1 c1, .slice A2 0 c2] (0, 0) _ (by repeat (first | (with_reducible exact HC.out) | (with_reducible refine blk_drew ?_) | (with_reducible refine blk_drewN ?_ _) | (with_reducible refine blk_newg ?_; (simp; done)) | (with_reducible refine blk_alloc ?_ _))) Try.underlying35 rfl (by kernel_rfl) ?_)
        | (go_at_call 14; refine (take_calls ⟨false, true, false, [⟨⟨#[97]⟩, 7⟩], []⟩ A1 c1 A2 c2 15 0 1 1 ⟨#[97]⟩ _ (RB_C (by repeat (first | (with_reducible exact H1.out) | (with_reducible refine Kd.R_alloc ?_ _) | (with_reducible refine Kd.R_drewN ?_ _) | (with_reducible refine Kd.R_drew ?_)))) (RB_C (by repeat (first | (with_reducible exact H2.out) | (with_reducible refine Kd.R_alloc ?_ _) | (with_reducible refine Kd.R_drewN ?_ _) | (with_reducible refine Kd.R_drew ?_)))) HL1.out HL2.out (by simp) (by simp) (by omega) (by omega) (by omega) (by omega) (by omega) (by omega) (by omega) (by decide) HW7.out HW0.out).mono ?_; rw [takeA3]; rintro e w3 ⟨v, A4, n4, rfl, ⟨B3, d3, B4, d4, rfl, hr1, hr2⟩, hO4, hb⟩; clear hr1 hr2 hO4; have HCx : Aside0 (w3.heap[w.heap.size]? = some (.cells #[.bool false, .bool true, .bool false, .slice A1 1 c1, .slice A2 0 c2] 35 (0, 0))) := ⟨blk_below (by repeat (first | (with_reducible exact HC.out) | (with_reducible refine blk_drew ?_) | (with_reducible refine blk_drewN ?_ _) | (with_reducible refine blk_newg ?_; (simp; done)) | (with_reducible refine blk_alloc ?_ _))) hb⟩; have HBx : Aside0 (Below w.heap.size w w3) := ⟨below_back hb (by repeat (first | (with_reducible exact HB.out) | (with_reducible refine below_alloc ?_ _) | (with_reducible refine pw_below_drewN ?_ _) | (with_reducible refine below_drew ?_)))⟩; have H1x : Aside0 (RB w3 (.slice A1 [(⟨⟨#[97]⟩, 7⟩ : Bal)].length c1) [⟨⟨#[97]⟩, 7⟩]) := ⟨Kd.R_below (by repeat (first | (with_reducible exact H1.out) | (with_reducible refine Kd.R_alloc ?_ _) | (with_reducible refine Kd.R_drewN ?_ _) | (with_reducible refine Kd.R_drew ?_))) hb⟩; have H2x : Aside0 (RB w3 (.slice A2 ([] : List Bal).length c2) []) := ⟨Kd.R_below (by repeat (first | (with_reducible exact H2.out) | (with_reducible refine Kd.R_alloc ?_ _) | (with_reducible refine Kd.R_drewN ?_ _) | (with_reducible refine Kd.R_drew ?_))) hb⟩; clear HC HB H1 H2; have HC := HCx; clear HCx; have HB := HBx; clear HBx; have H1 := H1x; clear H1x; have H2 := H2x; clear H2x; clear hb; have a1 : w3.cell? ⟨w.heap.size, 1, none⟩ = some (.bool true) := blk_cell HC.out 1; have a3 : w3.cell? ⟨w.heap.size, 3, none⟩ = some (.slice A1 1 c1) := blk_cell HC.out 3; have lt3 := blk_lt HC.out)
        | (go_at_call 20; refine (for_calls A1 c1 [⟨⟨#[97]⟩, 7⟩] ⟨#[97]⟩ _ (RB_C (by repeat (first | (with_reducible exact H1.out) | (with_reducible refine Kd.R_alloc ?_ _) | (with_reducible refine Kd.R_drewN ?_ _) | (with_reducible refine Kd.R_drew ?_)))) (by simp)).mono ?_; rw [HFor.out]; rintro e w4 ⟨rfl, hb⟩; have HBx : Aside0 (Below w.heap.size w w4) := ⟨below_back hb (by repeat (first | (with_reducible exact HB.out) | (with_reducible refine below_alloc ?_ _) | (with_reducible refine pw_below_drewN ?_ _) | (with_reducible refine below_drew ?_)))⟩; clear HB hb; have HB := HBx; clear HBx)
        | fail)
      go_ret
      exact ⟨rfl, HB.out⟩
end Go.Proofs.Ytkppilpailbpeaa.Vot
