/- The walk of TraceCounts. -/
import Derived.Test.YthkofjlbnekgkaaTrcLaw2
import Derived.Test.YthkofjlbnekgkaaTrcSum
namespace Go.Proofs.Ythkofjlbnekgkaa.Trc
open Go Go.RowKit Go.Maps Go.Proofs.YthkofjlbnekgkaaW.PrintWords Go.Proofs.Ythkofjlbnekgkaa.PTraceAgrees Go.Proofs.Ythkofjlbnekgkaa.Mp
set_option linter.unusedVariables false
set_option linter.unusedSimpArgs false
attribute [local go_sem high] eqA50 eqA52 eqA54

theorem belowN_snoc (l : List S50) (v : Int) (x : S50) (k : Nat) : belowN (l ++ [x]) v k = if isBelow v k x = true then belowN l v k + 1 else belowN l v k := by
  unfold belowN
  rw [List.filter_append]
  cases h : isBelow v k x <;> simp [h]

set_option maxHeartbeats 4000000 in
set_option maxRecDepth 100000 in
theorem tcounts_calls (A : Option Addr) (ca : Nat) (a : List S52) (vw : Int) (w : World) (hr : Kd.C k52 w A a.length a) (hca : a.length ≤ ca) (hla : a.length ≤ 9223372036854775807)
    (hok : ∀ x ∈ a, okE (conv x)) :
    Calls Try.prog 8 #[.slice A a.length ca, .int .i64 vw] w (Kept (.bool true) w) := by
  have HR := Aside0.mk hr
  have HK := Aside0.mk hok
  clear hr hok
  have HB := Aside0.mk (Below.refl w.heap.size w)
  by_cases h30 : 30 < a.length
  · go_enter Try.func8, Try.ntmps8
    go_wp2_with (go_at_call 9; refine (alive_calls _).mono ?_; rintro e w1 ⟨rfl, hb⟩; have HBx : Aside0 (Below w.heap.size w w1) := ⟨below_back hb (by repeat (first | (with_reducible exact HB.out) | (with_reducible refine below_alloc ?_ _) | (with_reducible refine pw_below_drewN ?_ _) | (with_reducible refine below_drew ?_)))⟩; clear HB hb; have HB := HBx; clear HBx)
    all_goals go_ret
    all_goals exact ⟨rfl, (by repeat (first | (with_reducible exact HB.out) | (with_reducible refine below_alloc ?_ _) | (with_reducible refine pw_below_drewN ?_ _) | (with_reducible refine below_drew ?_)))⟩
  obtain ⟨X, hX⟩ : ∃ X, a.map conv = X := ⟨_, rfl⟩
  have HlX : Aside0 (X.length = a.length) := ⟨by rw [← hX]; simp⟩
  have HOX : Aside0 (∀ x ∈ X, okE x) := ⟨by rw [← hX]; exact conv_oks HK.out⟩
  have hX30 : X.length ≤ 30 := by have := HlX.out; omega
  have HhX := Aside0.mk hX
  clear hX
  go_enter Try.func8, Try.ntmps8
  go_wp2_with (first
    | (go_at_call 9; refine (alive_calls _).mono ?_; rintro e w1 ⟨rfl, hb⟩; have HBx : Aside0 (Below w.heap.size w w1) := ⟨below_back hb (by repeat (first | (with_reducible exact HB.out) | (with_reducible refine below_alloc ?_ _) | (with_reducible refine pw_below_drewN ?_ _) | (with_reducible refine below_drew ?_)))⟩; clear HB hb; have HB := HBx; clear HBx)
    | (go_at_call 10; have ht := theirs_calls A ca a _ (Kd.C_below HR.out (by repeat (first | (with_reducible exact HB.out) | (with_reducible refine below_alloc ?_ _) | (with_reducible refine pw_below_drewN ?_ _) | (with_reducible refine below_drew ?_)))) (by omega); rw [HhX.out] at ht; refine ht.mono ?_; clear ht; rintro e w2 ⟨v, rfl, ho, hb⟩; obtain ⟨A1, c1, ev, hle1, hC1⟩ := Kd.R_reads ho; have HX := Aside0.mk hC1; subst ev; clear ho hC1; have HBx : Aside0 (Below w.heap.size w w2) := ⟨below_back hb (by repeat (first | (with_reducible exact HB.out) | (with_reducible refine below_alloc ?_ _) | (with_reducible refine pw_below_drewN ?_ _) | (with_reducible refine below_drew ?_)))⟩; clear HB hb; have HB := HBx; clear HBx)
    | fail)
  go_loopw [6, 21] (fun v6 v21 w' => ∃ (i m : Nat), v6 = .int .i64 (m : Int) ∧ v21 = .int .i64 (i : Int) ∧ i ≤ X.length ∧ m ≤ i ∧ Aside0 (m = belowN (X.take i) vw 16) ∧ Aside0 (Kd.C k50 w' A1 X.length X) ∧ Aside0 (Below w.heap.size w w')) (fun _ v21 _ => X.length - (intOf v21).toNat)
  case atStart => exact ⟨0, 0, rfl, rfl, by omega, by omega, ⟨rfl⟩, HX, HB⟩
  case round =>
    clear HX HB
    obtain ⟨i, m, rfl, rfl, hi, hmi, HM, HX, HB⟩ := hrel
    by_cases hlt : i < X.length
    · obtain ⟨ad, ea, h0, h1, h2, h3⟩ := at_T50 HX.out (i : Int) (by omega) (by omega)
      cases ea
      simp only [Int.toNat_natCast] at h0 h1 h2 h3
      have hx : X.take (i + 1) = X.take i ++ [rd_T50 X (i : Int)] := by rw [← List.take_append_getElem hlt, rd50 hlt]
      generalize rd_T50 X (i : Int) = x at *
      have HH := Aside0.mk (belowN_snoc (X.take i) vw x 16)
      have HXx := Aside0.mk hx
      clear hx
      by_cases hv : x.f0.f0 = vw
      · by_cases h16 : x.f0.f1 < 16
        · have e1 : (x.f0.f0 == vw) = true := by simp [hv]
          have e2 : decide (x.f0.f1 < 16) = true := decide_eq_true h16
          have HIs : Aside0 (isBelow vw 16 x = true) := ⟨by simp [isBelow, hv]; omega⟩
          clear hv
          go_wp2_with fail
          go_roundw
          case rel => exact ⟨i + 1, m + 1, by go_num, by go_num, by omega, by omega, ⟨by rw [HXx.out, HH.out, if_pos HIs.out, HM.out]⟩, ⟨(by repeat (first | (with_reducible exact HX.out) | (with_reducible refine Kd.C_alloc ?_ _) | (with_reducible refine Kd.C_drewN ?_ _) | (with_reducible refine Kd.C_drew ?_)))⟩, ⟨(by repeat (first | (with_reducible exact HB.out) | (with_reducible refine below_alloc ?_ _) | (with_reducible refine pw_below_drewN ?_ _) | (with_reducible refine below_drew ?_)))⟩⟩
          case measure => simp [intOf]; omega
        · have e1 : (x.f0.f0 == vw) = true := by simp [hv]
          have e2 : decide (x.f0.f1 < 16) = false := decide_eq_false h16
          have HIs : Aside0 (isBelow vw 16 x = false) := ⟨by simp [isBelow, hv]; omega⟩
          clear hv
          go_wp2_with fail
          go_roundw
          case rel => exact ⟨i + 1, m, by go_num, by go_num, by omega, by omega, ⟨by rw [HXx.out, HH.out, HIs.out, if_neg (by decide), HM.out]⟩, ⟨(by repeat (first | (with_reducible exact HX.out) | (with_reducible refine Kd.C_alloc ?_ _) | (with_reducible refine Kd.C_drewN ?_ _) | (with_reducible refine Kd.C_drew ?_)))⟩, ⟨(by repeat (first | (with_reducible exact HB.out) | (with_reducible refine below_alloc ?_ _) | (with_reducible refine pw_below_drewN ?_ _) | (with_reducible refine below_drew ?_)))⟩⟩
          case measure => simp [intOf]; omega
      · have e1 : (x.f0.f0 == vw) = false := by simp [hv]
        have HIs : Aside0 (isBelow vw 16 x = false) := ⟨by simp [isBelow, hv]⟩
        clear hv
        go_wp2_with fail
        go_roundw
        case rel => exact ⟨i + 1, m, by go_num, by go_num, by omega, by omega, ⟨by rw [HXx.out, HH.out, HIs.out, if_neg (by decide), HM.out]⟩, ⟨(by repeat (first | (with_reducible exact HX.out) | (with_reducible refine Kd.C_alloc ?_ _) | (with_reducible refine Kd.C_drewN ?_ _) | (with_reducible refine Kd.C_drew ?_)))⟩, ⟨(by repeat (first | (with_reducible exact HB.out) | (with_reducible refine below_alloc ?_ _) | (with_reducible refine pw_below_drewN ?_ _) | (with_reducible refine below_drew ?_)))⟩⟩
        case measure => simp [intOf]; omega
    · have HMt : Aside0 (m = belowN X vw 16) := ⟨by have := HM.out; rwa [List.take_of_length_le (by omega)] at this⟩
      obtain ⟨V, hV⟩ : ∃ V : Array Value, (nums .u16 (cntL X vw)).toArray = V := ⟨_, rfl⟩
      have HV1 : Aside0 (vecV (cntL X vw) = .agg V) := ⟨by unfold vecV; rw [hV]⟩
      have hVs : V.size = 16 := by rw [← hV]; simp [nums, cntL]
      have HVd := Aside0.mk hV
      clear hV
      go_wp2_with (first
        | (go_at_call 17; refine (counts_calls A1 c1 X vw _ (by repeat (first | (with_reducible exact HX.out) | (with_reducible refine Kd.C_alloc ?_ _) | (with_reducible refine Kd.C_drewN ?_ _) | (with_reducible refine Kd.C_drew ?_))) (by omega) (ok_src HOX.out)).mono ?_; rw [HV1.out]; rintro e w3 ⟨rfl, hb⟩; have HBx : Aside0 (Below w.heap.size w w3) := ⟨below_back hb (by repeat (first | (with_reducible exact HB.out) | (with_reducible refine below_alloc ?_ _) | (with_reducible refine pw_below_drewN ?_ _) | (with_reducible refine below_drew ?_)))⟩; have HXx : Aside0 (Kd.C k50 w3 A1 X.length X) := ⟨Kd.C_below (by repeat (first | (with_reducible exact HX.out) | (with_reducible refine Kd.C_alloc ?_ _) | (with_reducible refine Kd.C_drewN ?_ _) | (with_reducible refine Kd.C_drew ?_))) hb⟩; clear HB hb HX; have HB := HBx; clear HBx; have HX := HXx; clear HXx)
        | (refine wpList_store_row rfl 35 (.tmp 10) (.tmp 41) rfl w3.heap.size V rfl rfl 35 _ (blk_new _ _) (by rw [hVs]; kernel_rfl) (by simp [hVs]) (by rw [← HVd.out]; simp [nums, cntL, Value.oneCell']) ?_)
        | fail)
      have HVB : Aside0 (((w3.alloc (.cells (nums .u16 (cntL [] 0)).toArray 35)).setRow w3.heap.size V).heap[w3.heap.size]? = some (.cells V 35 (0, 0))) := ⟨setRow_heap _ _ _ V _ _ (blk_new _ _)⟩
      have HBs : Aside0 (Below w.heap.size w ((w3.alloc (.cells (nums .u16 (cntL [] 0)).toArray 35)).setRow w3.heap.size V)) := ⟨below_setRow (by repeat (first | (with_reducible exact HB.out) | (with_reducible refine below_alloc ?_ _) | (with_reducible refine pw_below_drewN ?_ _) | (with_reducible refine below_drew ?_))) HB.out.size _⟩
      have HXs : Aside0 (Kd.C k50 ((w3.alloc (.cells (nums .u16 (cntL [] 0)).toArray 35)).setRow w3.heap.size V) A1 X.length X) := ⟨Kd.C_below HX.out (below_setRow (below_alloc (Below.refl _ _) _) (Nat.le_refl _) _)⟩
      generalize w3.heap.size = B at *
      go_loopw [7, 42] (fun v7 v42 w' => ∃ (i : Nat), v42 = .int .u8 (i : Int) ∧ v7 = .int .i64 (belowN X vw i : Nat) ∧ i ≤ 16 ∧ Aside0 (w'.heap[B]? = some (.cells V 35 (0, 0))) ∧ Aside0 (Kd.C k50 w' A1 X.length X) ∧ Aside0 (Below w.heap.size w w')) (fun _ v42 _ => 16 - (intOf v42).toNat)
      case atStart => exact ⟨0, rfl, by rw [belowN_zero X vw (ok_src HOX.out)]; rfl, by omega, HVB, HXs, HBs⟩
      case round =>
        clear HX HXs HBs HVB HB
        obtain ⟨i, rfl, rfl, hi, HV, HX, HB⟩ := hrel
        by_cases hlt : i < 16
        · have hlo : (ofL X vw (i : Int)).length ≤ 30 := Nat.le_trans (List.length_filter_le _ _) hX30
          have HSu := Aside0.mk (belowN_succ vw i X (ok_src HOX.out))
          have hbl := belowN_le X vw i
          have hcell0 : V[i]? = some (.int .u16 (((ofL X vw (i : Int)).length : Nat) : Int)) := by
            rw [← HVd.out]
            have : cnt X vw i = ((ofL X vw (i : Int)).length : Int) := by unfold cnt; omega
            simp [nums, cntL, hlt, this]
          have HKV : Aside0 (∀ W : World, W.heap[B]? = some (.cells V 35 (0, 0)) → W.cell? ⟨B, i, none⟩ = some (.int .u16 (((ofL X vw (i : Int)).length : Nat) : Int))) := ⟨fun W h => (blk_cell h i).trans hcell0⟩
          obtain ⟨n, hn⟩ : ∃ n, (ofL X vw (i : Int)).length = n := ⟨_, rfl⟩
          rw [hn] at hlo hcell0 HSu HKV
          have hw8 : IntKind.u8.wrap ((i : Int) + 1) = (i : Int) + 1 := by rw [IntKind.wrap_u8]; omega
          have hwn : IntKind.i64.wrap (n : Int) = (n : Int) := IntWalk.i64_in _ (by omega)
          have hi0 : (0 : Int) ≤ (i : Int) := by omega
          have hi16 : (i : Int) < 16 := by omega
          have Hn := Aside0.mk hn
          clear hn hcell0
          go_wp2_with fail
          go_region_held3 (fun w' => w'.cell? ⟨B, i, none⟩ = some (.int .u16 (n : Int)))
            ((refine HKV.out _ ?_; repeat (first | (with_reducible exact HV.out) | (with_reducible refine blk_drewN ?_ _) | (with_reducible refine blk_drew ?_) | (with_reducible refine blk_alloc ?_ _))))
            (first
              | (go_at_call 13; refine (of_calls A1 c1 X vw (i : Int) _ (by repeat (first | (with_reducible exact HX.out) | (with_reducible refine Kd.C_alloc ?_ _) | (with_reducible refine Kd.C_drewN ?_ _) | (with_reducible refine Kd.C_drew ?_))) (by omega)).mono ?_; rintro e w4 ⟨v, rfl, ho, hb⟩; obtain ⟨A3, c3, ev⟩ := Kd.R_slice ho; rw [Hn.out] at ev; subst ev; clear ho; have HVx : Aside0 (w4.heap[B]? = some (.cells V 35 (0, 0))) := ⟨blk_below (by repeat (first | (with_reducible exact HV.out) | (with_reducible refine blk_drewN ?_ _) | (with_reducible refine blk_drew ?_) | (with_reducible refine blk_alloc ?_ _))) hb⟩; clear HV; have HV := HVx; clear HVx; have HBx : Aside0 (Below w.heap.size w w4) := ⟨below_back hb (by repeat (first | (with_reducible exact HB.out) | (with_reducible refine below_alloc ?_ _) | (with_reducible refine pw_below_drewN ?_ _) | (with_reducible refine below_drew ?_)))⟩; have HXx : Aside0 (Kd.C k50 w4 A1 X.length X) := ⟨Kd.C_below (by repeat (first | (with_reducible exact HX.out) | (with_reducible refine Kd.C_alloc ?_ _) | (with_reducible refine Kd.C_drewN ?_ _) | (with_reducible refine Kd.C_drew ?_))) hb⟩; clear HB hb HX; have HB := HBx; clear HBx; have HX := HXx; clear HXx)
              | fail)
          go_wp2_with fail
          go_roundw
          case rel => exact ⟨i + 1, by go_num, by rw [HSu.out]; go_num, by omega, HV, HX, HB⟩
          case measure => simp [intOf]; omega
        · have hi16 : i = 16 := by omega
          subst hi16
          go_wp2_with fail
          go_ret
          exact ⟨by rw [HMt.out]; simp, HB.out⟩
end Go.Proofs.Ythkofjlbnekgkaa.Trc
