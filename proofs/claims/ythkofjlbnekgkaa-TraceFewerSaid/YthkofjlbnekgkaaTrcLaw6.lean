/- The walk of TraceFewer. -/
import Derived.Test.YthkofjlbnekgkaaTrcLaw1
import Derived.Test.YthkofjlbnekgkaaTrcAlive
namespace Go.Proofs.Ythkofjlbnekgkaa.Trc
open Go Go.RowKit Go.Maps Go.Proofs.YthkofjlbnekgkaaW.PrintWords Go.Proofs.Ythkofjlbnekgkaa.PTraceAgrees Go.Proofs.Ythkofjlbnekgkaa.Mp
set_option linter.unusedVariables false
set_option linter.unusedSimpArgs false
attribute [local go_sem high] eqA50 eqA52 eqA54

/-- all are beginnings of some -/
def Cuts (X Y : List (List S50)) : Prop := ∀ y ∈ Y, ∃ x ∈ X, y <+: x
theorem cut_snoc {X Y : List (List S50)} {x : List S50} (h : Cuts X Y) (hx : x ∈ X) (k : Nat) : Cuts X (Y ++ [x.take k]) := by
  intro y hy
  rw [List.mem_append, List.mem_singleton] at hy
  rcases hy with hy | rfl
  · exact h y hy
  · exact ⟨x, hx, List.take_prefix _ _⟩
theorem agL_cuts {X Y : List (List S50)} (h : AgL X) (hc : Cuts X Y) : AgL Y := by
  intro a ha b hb s
  obtain ⟨x, hx, hxa⟩ := hc a ha
  obtain ⟨y, hy, hyb⟩ := hc b hb
  have h1 : ofL a s.1 s.2 <+: ofL x s.1 s.2 := hxa.filter _
  have h2 : ofL b s.1 s.2 <+: ofL y s.1 s.2 := hyb.filter _
  rw [pre_prefix]
  rcases (pre_prefix _ _).1 (h x hx y hy s) with h3 | h3
  · exact List.prefix_or_prefix_of_prefix (h1.trans h3) h2
  · exact List.prefix_or_prefix_of_prefix h1 (h2.trans h3)
theorem agL_one (x : List S50) : AgL [x] := by
  intro a ha b hb s
  rw [List.mem_singleton] at ha hb
  subst ha
  subst hb
  rw [pre_prefix]
  exact .inl (List.prefix_refl _)
theorem agL_own (x : List S50) (k : Nat) : agL [x, x.take k, x] = true := by
  rw [agL_iff]
  refine agL_cuts (agL_one x) fun y hy => ⟨x, by simp, ?_⟩
  simp only [List.mem_cons, List.not_mem_nil, or_false] at hy
  rcases hy with rfl | rfl | rfl
  · exact List.prefix_refl _
  · exact List.take_prefix _ _
  · exact List.prefix_refl _
theorem cL3 {w : World} {b : Nat} {xs ys zs : List S50} {A1 A2 A3 : Option Addr} {c1 c2 c3 n1 n2 n3 : Nat} (h : w.heap[b]? = some (.cells #[.slice A1 n1 c1, .slice A2 n2 c2, .slice A3 n3 c3] 26 (0, 0))) (e1 : n1 = xs.length) (e2 : n2 = ys.length) (e3 : n3 = zs.length)
    (h1 : Kd.C k50 w A1 xs.length xs) (h2 : Kd.C k50 w A2 ys.length ys) (h3 : Kd.C k50 w A3 zs.length zs) (l1 : xs.length ≤ c1) (l2 : ys.length ≤ c2) (l3 : zs.length ≤ c3) : Kd.C (Kd.slice 50 k50) w (some ⟨b, 0, none⟩) 3 [xs, ys, zs] := by
  subst e1
  subst e2
  subst e3
  refine ⟨rfl, by omega, fun _ => ⟨_, rfl, fun j p hj => ?_⟩⟩
  match j, hj with
  | 0, hj =>
    simp at hj
    subst hj
    refine ⟨_, rfl, ⟨A1, c1, rfl, l1, h1⟩, fun i u hu => ?_⟩
    have hi : i < 1 := (List.getElem?_eq_some_iff.1 hu).1
    obtain rfl : i = 0 := by omega
    rw [add_plain, blk_cell h]
    exact hu
  | 1, hj =>
    simp at hj
    subst hj
    refine ⟨_, rfl, ⟨A2, c2, rfl, l2, h2⟩, fun i u hu => ?_⟩
    have hi : i < 1 := (List.getElem?_eq_some_iff.1 hu).1
    obtain rfl : i = 0 := by omega
    rw [add_plain, blk_cell h]
    exact hu
  | 2, hj =>
    simp at hj
    subst hj
    refine ⟨_, rfl, ⟨A3, c3, rfl, l3, h3⟩, fun i u hu => ?_⟩
    have hi : i < 1 := (List.getElem?_eq_some_iff.1 hu).1
    obtain rfl : i = 0 := by omega
    rw [add_plain, blk_cell h]
    exact hu

set_option maxHeartbeats 4000000 in
set_option maxRecDepth 100000 in
theorem fewer_calls (A : Option Addr) (ca : Nat) (l : List (List S52)) (C : Option Addr) (cc : Nat) (cs : List Int) (w : World) (hr : Kd.C (Kd.slice 52 k52) w A l.length l) (hr' : Kd.C (Kd.int .u8) w C cs.length cs) (hc : l.length ≤ ca) (hl : l.length ≤ 9223372036854775807) (hl' : cs.length ≤ 9223372036854775807)
    (hok : ∀ x ∈ l, ∀ y ∈ x, okE (conv y)) (hcs : ∀ x ∈ cs, 0 ≤ x ∧ x ≤ 255) :
    Calls Try.prog 6 #[.slice A l.length ca, .slice C cs.length cc] w (Kept (.bool true) w) := by
  have HR := Aside0.mk hr
  have HR' := Aside0.mk hr'
  have HK := Aside0.mk hok
  have HCs := Aside0.mk hcs
  clear hr hr' hok hcs
  have HB := Aside0.mk (Below.refl w.heap.size w)
  cases hf : fewL l with
  | false =>
    have HF := Aside0.mk hf
    clear hf
    go_enter Try.func6, Try.ntmps6
    go_wp2_with (first
      | (go_at_call 9; refine (alive_calls _).mono ?_; rintro e w1 ⟨rfl, hb⟩; have HBx : Aside0 (Below w.heap.size w w1) := ⟨below_back hb (by repeat (first | (with_reducible exact HB.out) | (with_reducible exact Below.refl _ _) | (with_reducible refine below_alloc ?_ _) | (with_reducible refine pw_below_drewN ?_ _) | (with_reducible refine below_drew ?_)))⟩; clear HB hb; have HB := HBx; clear HBx)
      | (go_at_call 21; refine (few_calls _ _ l _ (Kd.C_below HR.out HB.out) hl).mono ?_; rw [HF.out]; rintro e w2 ⟨rfl, m, rfl⟩)
      | fail)
    go_ret
    exact ⟨rfl, (by repeat (first | (with_reducible exact HB.out) | (with_reducible exact Below.refl _ _) | (with_reducible refine below_alloc ?_ _) | (with_reducible refine pw_below_drewN ?_ _) | (with_reducible refine below_drew ?_)))⟩
  | true =>
    have HF := Aside0.mk hf
    obtain ⟨h30, h6⟩ := (fewL_iff l).1 hf
    have HL := Aside0.mk h30
    have HLm : Aside0 (∀ x ∈ l, x.length < 3518437208883) := ⟨fun x hx => by have := h30 x hx; omega⟩
    obtain ⟨X, hX⟩ : ∃ X, (l.map fun x => x.map conv) = X := ⟨_, rfl⟩
    have hXl : X.length = l.length := by rw [← hX]; simp
    have hX6 : X.length ≤ 6 := by omega
    have HLX : Aside0 (∀ x ∈ X, x.length ≤ 30) := ⟨by rw [← hX]; exact allconv_len h30⟩
    have HOX : Aside0 (∀ x ∈ X, ∀ y ∈ x, okE y) := ⟨by rw [← hX]; exact allconv_ok HK.out⟩
    have HAll : Aside0 (∀ W, Kd.C (Kd.slice 52 k52) W A l.length l → Calls Try.prog 23 #[.slice A l.length ca] W (Made (Kd.slice 50 k50) 26 X W)) := ⟨fun W h => by have := all_calls A ca l W h (by omega) HLm.out; rwa [hX] at this⟩
    clear hf h30 hX hXl
    obtain ⟨i0, hi0, _⟩ := Option.map_eq_some_iff.1 info50
    go_enter Try.func6, Try.ntmps6
    go_wp2_with (first
      | (go_at_call 9; refine (alive_calls _).mono ?_; rintro e w1 ⟨rfl, hb⟩; have HBx : Aside0 (Below w.heap.size w w1) := ⟨below_back hb (by repeat (first | (with_reducible exact HB.out) | (with_reducible exact Below.refl _ _) | (with_reducible refine below_alloc ?_ _) | (with_reducible refine pw_below_drewN ?_ _) | (with_reducible refine below_drew ?_)))⟩; clear HB hb; have HB := HBx; clear HBx)
      | (go_at_call 21; refine (few_calls _ _ l _ (Kd.C_below HR.out HB.out) hl).mono ?_; rw [HF.out]; rintro e w2 ⟨rfl, m, rfl⟩)
      | (go_at_call 23; refine (HAll.out _ (Kd.C_below HR.out (by repeat (first | (with_reducible exact HB.out) | (with_reducible exact Below.refl _ _) | (with_reducible refine below_alloc ?_ _) | (with_reducible refine pw_below_drewN ?_ _) | (with_reducible refine below_drew ?_))))).mono ?_; rintro e w3 ⟨v, rfl, ho, hb⟩; obtain ⟨A1, c1, ev, hle1, hC1⟩ := Kd.R_reads ho; have HC1 := Aside0.mk hC1; subst ev; clear ho hC1; have HBx : Aside0 (Below w.heap.size w w3) := ⟨below_back hb (by repeat (first | (with_reducible exact HB.out) | (with_reducible exact Below.refl _ _) | (with_reducible refine below_alloc ?_ _) | (with_reducible refine pw_below_drewN ?_ _) | (with_reducible refine below_drew ?_)))⟩; clear HB hb; have HB := HBx; clear HBx)
      | fail)
    have HB3 := Aside0.mk (Below.refl w3.heap.size w3)
    go_loopw [6, 19] (fun v6 v19 w' => ∃ (i : Nat) (Y : List (List S50)), v19 = .int .i64 (i : Int) ∧ i ≤ X.length ∧ Aside0 ((Kd.fixed (Kd.slice 50 k50) w3).R 26 w' w3.heap.size (fun _ => True) v6 Y) ∧ Aside0 (Y.length = i) ∧ Aside0 (Cuts X Y) ∧ Aside0 (Below w3.heap.size w3 w')) (fun _ v19 _ => X.length - (intOf v19).toNat)
    case atStart => exact ⟨0, [], rfl, by omega, ⟨Kd.R_nil _ _ _ _ _⟩, ⟨rfl⟩, ⟨fun y hy => by simp at hy⟩, HB3⟩
    case round =>
      clear HB3
      obtain ⟨i, Y, rfl, hi, HO, HLn, HCt, HB3⟩ := hrel
      by_cases hlt : i < X.length
      · obtain ⟨ad, A0, c0, ea, h0, hle, hx3⟩ := at_L7 HC1.out (i : Int) (by omega) (by omega)
        cases ea
        simp only [Int.toNat_natCast] at h0
        have hw0 := pw_cell_below HB3.out h0
        have hx : rd_L7 X (i : Int) = X[i] := by simp [rd_L7, hlt]
        have HXm : Aside0 (rd_L7 X (i : Int) ∈ X) := ⟨by rw [hx]; exact List.getElem_mem _⟩
        have HX3 := Aside0.mk hx3
        clear hx hx3 h0
        generalize rd_L7 X (i : Int) = x at *
        have hx30 := HLX.out x HXm.out
        by_cases hcut : i < cs.length
        · obtain ⟨adc, ec, hc0⟩ := Kd.at_int (Kd.C_below HR'.out (below_back HB3.out HB.out)) (i : Int) (by omega) (by omega)
          cases ec
          simp only [Int.toNat_natCast] at hc0
          have hr0 : 0 ≤ rd cs (i : Int) ∧ rd cs (i : Int) ≤ 255 := by
            have : rd cs (i : Int) = cs[i] := by simp [rd, hcut]
            rw [this]
            exact HCs.out _ (List.getElem_mem _)
          obtain ⟨r0, r1⟩ := hr0
          generalize rd cs (i : Int) = r at *
          obtain ⟨kN, hkN⟩ : ∃ kN : Nat, r % ((x.length : Int) + 1) = (kN : Int) := ⟨(r % ((x.length : Int) + 1)).toNat, by have := Int.emod_nonneg r (show ((x.length : Int) + 1) ≠ 0 by omega); omega⟩
          have hkx : kN ≤ x.length := by have := Int.emod_lt_of_pos r (show 0 < ((x.length : Int) + 1) by omega); omega
          have hwr : IntKind.i64.wrap r = r := IntWalk.i64_in _ (by omega)
          have c1' := cut_to (P := Try.prog) 26 50 .i64 Try.underlying26 hi0 A0 x.length c0 (kN : Int) (by omega) (by omega) hle
          rw [Int.toNat_natCast] at c1'
          have HlT : Aside0 ((x.take kN).length = kN) := ⟨by rw [List.length_take]; omega⟩
          have HlTc : Aside0 ((x.take kN).length ≤ c0) := ⟨by rw [HlT.out]; omega⟩
          have HXT : Aside0 (Kd.C k50 w3 A0 (x.take kN).length (x.take kN)) := ⟨Kd.C_take HX3.out hkx⟩
          have HMd : Aside0 ((Kd.slice 50 k50).K w3 (x.take kN) [.slice A0 kN c0]) := ⟨⟨A0, c0, by rw [HlT.out], HlTc.out, HXT.out⟩⟩
          have Hag3 := Aside0.mk (agL_own x kN)
          have HLin : Aside0 (∀ y ∈ [x, x.take kN, x], y.length ≤ 30) := ⟨by intro y hy; simp only [List.mem_cons, List.not_mem_nil, or_false] at hy; have := HlT.out; rcases hy with rfl | rfl | rfl <;> omega⟩
          have HOin : Aside0 (∀ y ∈ [x, x.take kN, x], ∀ z ∈ y, okE z) := ⟨by intro y hy; simp only [List.mem_cons, List.not_mem_nil, or_false] at hy; rcases hy with rfl | rfl | rfl; exact HOX.out _ HXm.out; exact fun z hz => HOX.out _ HXm.out z (List.mem_of_mem_take hz); exact HOX.out _ HXm.out⟩
          go_wp2_with (first
            | (at_builtin; refine Kd.R_append (Kd.fixed (Kd.slice 50 k50) w3) (w0 := w3) w3.heap.size rfl (.tmp 39) (.tmp 43) 44 26 (.slice none 0 0) 24 rfl Try.underlying44 info_rows rfl Nat.zero_lt_one (by omega) u6 Y (x.take kN) [.slice A0 kN c0] (fun _ => True) (fun _ => False) rfl ?aX ?aP (fun _ hk => hk.elim) ?aF ?aO ?aB ?aS ?aL ?_; (case aX => first | rfl | (simp [Act.eval]; done)); (case aP => exact HMd.out); (case aF => exact fun _ _ => trivial); (case aO => exact (by repeat (first | exact HO.out | apply Kd.R_alloc | apply Kd.R_drewN | apply Kd.R_drew))); (case aB => exact (by repeat (first | exact HB3.out | apply below_alloc | apply pw_below_drewN | apply below_drew))); (case aS => exact Below.size (by repeat (first | exact HB3.out | apply below_alloc | apply pw_below_drewN | apply below_drew))); (case aL => have := HLn.out; omega); intro v4 w4 ho hb hg hat; have HO4 := Aside0.mk ho; have HB4 := Aside0.mk hb; clear ho hb hg hat)
            | (go_at_call 22; refine (agree_calls _ _ [x, x.take kN, x] _ (cL3 (xs := x) (ys := x.take kN) (zs := x) (by repeat (first | (with_reducible refine blk_drew ?_) | (with_reducible refine blk_drewN ?_ _) | (with_reducible refine blk_new' ?_; (simp; done)) | (with_reducible refine blk_alloc ?_ _))) rfl HlT.out.symm rfl (Kd.C_below HX3.out (by repeat (first | (with_reducible exact HB4.out) | (with_reducible exact Below.refl _ _) | (with_reducible refine below_alloc ?_ _) | (with_reducible refine pw_below_drewN ?_ _) | (with_reducible refine below_drew ?_)))) (Kd.C_below HXT.out (by repeat (first | (with_reducible exact HB4.out) | (with_reducible exact Below.refl _ _) | (with_reducible refine below_alloc ?_ _) | (with_reducible refine pw_below_drewN ?_ _) | (with_reducible refine below_drew ?_)))) (Kd.C_below HX3.out (by repeat (first | (with_reducible exact HB4.out) | (with_reducible exact Below.refl _ _) | (with_reducible refine below_alloc ?_ _) | (with_reducible refine pw_below_drewN ?_ _) | (with_reducible refine below_drew ?_)))) hle HlTc.out hle) (by simp) HLin.out HOin.out).mono ?_; rw [Hag3.out]; rintro e w6 ⟨rfl, hb⟩; have HOx := Aside0.mk (Kd.R_below (by repeat (first | exact HO4.out | apply Kd.R_alloc | apply Kd.R_drewN | apply Kd.R_drew)) hb); have HBx : Aside0 (Below w3.heap.size w3 w6) := ⟨below_back hb (by repeat (first | (with_reducible exact HB4.out) | (with_reducible exact Below.refl _ _) | (with_reducible refine below_alloc ?_ _) | (with_reducible refine pw_below_drewN ?_ _) | (with_reducible refine below_drew ?_)))⟩; clear HO4 HB4 hb; have HO := HOx; have HB3 := HBx; clear HOx HBx)
            | fail)
          go_roundw
          case rel => exact ⟨i + 1, Y ++ [x.take kN], by go_num, by omega, HO, ⟨by rw [List.length_append, HLn.out]; rfl⟩, ⟨cut_snoc HCt.out HXm.out kN⟩, HB3⟩
          case measure => simp [intOf]; omega
        · have hkx : x.length ≤ x.length := Nat.le_refl _
          have c1' := cut_to (P := Try.prog) 26 50 .i64 Try.underlying26 hi0 A0 x.length c0 (x.length : Int) (by omega) (by omega) hle
          rw [Int.toNat_natCast] at c1'
          have HlT : Aside0 ((x.take x.length).length = x.length) := ⟨by rw [List.length_take]; omega⟩
          have HlTc : Aside0 ((x.take x.length).length ≤ c0) := ⟨by rw [HlT.out]; omega⟩
          have HXT : Aside0 (Kd.C k50 w3 A0 (x.take x.length).length (x.take x.length)) := ⟨Kd.C_take HX3.out hkx⟩
          have HMd : Aside0 ((Kd.slice 50 k50).K w3 (x.take x.length) [.slice A0 x.length c0]) := ⟨⟨A0, c0, by rw [HlT.out], HlTc.out, HXT.out⟩⟩
          have Hag3 := Aside0.mk (agL_own x x.length)
          have HLin : Aside0 (∀ y ∈ [x, x.take x.length, x], y.length ≤ 30) := ⟨by intro y hy; simp only [List.mem_cons, List.not_mem_nil, or_false] at hy; have := HlT.out; rcases hy with rfl | rfl | rfl <;> omega⟩
          have HOin : Aside0 (∀ y ∈ [x, x.take x.length, x], ∀ z ∈ y, okE z) := ⟨by intro y hy; simp only [List.mem_cons, List.not_mem_nil, or_false] at hy; rcases hy with rfl | rfl | rfl; exact HOX.out _ HXm.out; exact fun z hz => HOX.out _ HXm.out z (List.mem_of_mem_take hz); exact HOX.out _ HXm.out⟩
          go_wp2_with (first
            | (at_builtin; refine Kd.R_append (Kd.fixed (Kd.slice 50 k50) w3) (w0 := w3) w3.heap.size rfl (.tmp 39) (.tmp 43) 44 26 (.slice none 0 0) 24 rfl Try.underlying44 info_rows rfl Nat.zero_lt_one (by omega) u6 Y (x.take x.length) [.slice A0 x.length c0] (fun _ => True) (fun _ => False) rfl ?aX ?aP (fun _ hk => hk.elim) ?aF ?aO ?aB ?aS ?aL ?_; (case aX => first | rfl | (simp [Act.eval]; done)); (case aP => exact HMd.out); (case aF => exact fun _ _ => trivial); (case aO => exact (by repeat (first | exact HO.out | apply Kd.R_alloc | apply Kd.R_drewN | apply Kd.R_drew))); (case aB => exact (by repeat (first | exact HB3.out | apply below_alloc | apply pw_below_drewN | apply below_drew))); (case aS => exact Below.size (by repeat (first | exact HB3.out | apply below_alloc | apply pw_below_drewN | apply below_drew))); (case aL => have := HLn.out; omega); intro v4 w4 ho hb hg hat; have HO4 := Aside0.mk ho; have HB4 := Aside0.mk hb; clear ho hb hg hat)
            | (go_at_call 22; refine (agree_calls _ _ [x, x.take x.length, x] _ (cL3 (xs := x) (ys := x.take x.length) (zs := x) (by repeat (first | (with_reducible refine blk_drew ?_) | (with_reducible refine blk_drewN ?_ _) | (with_reducible refine blk_new' ?_; (simp; done)) | (with_reducible refine blk_alloc ?_ _))) rfl HlT.out.symm rfl (Kd.C_below HX3.out (by repeat (first | (with_reducible exact HB4.out) | (with_reducible exact Below.refl _ _) | (with_reducible refine below_alloc ?_ _) | (with_reducible refine pw_below_drewN ?_ _) | (with_reducible refine below_drew ?_)))) (Kd.C_below HXT.out (by repeat (first | (with_reducible exact HB4.out) | (with_reducible exact Below.refl _ _) | (with_reducible refine below_alloc ?_ _) | (with_reducible refine pw_below_drewN ?_ _) | (with_reducible refine below_drew ?_)))) (Kd.C_below HX3.out (by repeat (first | (with_reducible exact HB4.out) | (with_reducible exact Below.refl _ _) | (with_reducible refine below_alloc ?_ _) | (with_reducible refine pw_below_drewN ?_ _) | (with_reducible refine below_drew ?_)))) hle HlTc.out hle) (by simp) HLin.out HOin.out).mono ?_; rw [Hag3.out]; rintro e w6 ⟨rfl, hb⟩; have HOx := Aside0.mk (Kd.R_below (by repeat (first | exact HO4.out | apply Kd.R_alloc | apply Kd.R_drewN | apply Kd.R_drew)) hb); have HBx : Aside0 (Below w3.heap.size w3 w6) := ⟨below_back hb (by repeat (first | (with_reducible exact HB4.out) | (with_reducible exact Below.refl _ _) | (with_reducible refine below_alloc ?_ _) | (with_reducible refine pw_below_drewN ?_ _) | (with_reducible refine below_drew ?_)))⟩; clear HO4 HB4 hb; have HO := HOx; have HB3 := HBx; clear HOx HBx)
            | fail)
          go_roundw
          case rel => exact ⟨i + 1, Y ++ [x.take x.length], by go_num, by omega, HO, ⟨by rw [List.length_append, HLn.out]; rfl⟩, ⟨cut_snoc HCt.out HXm.out x.length⟩, HB3⟩
          case measure => simp [intOf]; omega
      · obtain ⟨A2, c2, ev, hle2, hC2⟩ := Kd.R_reads HO.out
        subst ev
        have HC2 : Aside0 (Kd.C (Kd.slice 50 k50) wr A2 Y.length Y) := ⟨Kd.C_read (dm := (Kd.fixed (Kd.slice 50 k50) w3)) (d := Kd.slice 50 k50) rfl (fun x cs h => (Kd.slice 50 k50).K_below HB3.out h) hC2⟩
        have HY6 : Aside0 (Y.length ≤ 6) := ⟨by have := HLn.out; omega⟩
        have HLY : Aside0 (∀ y ∈ Y, y.length ≤ 30) := ⟨fun y hy => by obtain ⟨x, hx, hp⟩ := HCt.out y hy; exact Nat.le_trans hp.length_le (HLX.out x hx)⟩
        have HOY : Aside0 (∀ y ∈ Y, ∀ z ∈ y, okE z) := ⟨fun y hy z hz => by obtain ⟨x, hx, hp⟩ := HCt.out y hy; exact HOX.out x hx z (hp.subset hz)⟩
        have HBw : Aside0 (Below w.heap.size w wr) := ⟨below_back HB3.out HB.out⟩
        have HCX := Aside0.mk (Kd.C_below HC1.out HB3.out)
        clear hC2 HB HB3 HO
        have HB := HBw
        clear HBw
        have tokA : True := trivial
        cases hag : agL X with
        | false =>
          have Hag := Aside0.mk hag
          clear hag
          go_wp2_with (first
            | (go_at_call 22; refine (agree_calls A1 c1 X _ HCX.out (by omega) HLX.out HOX.out).mono ?_; rw [Hag.out]; rintro e w7 ⟨rfl, hb⟩; have HBx : Aside0 (Below w.heap.size w w7) := ⟨below_back hb (by repeat (first | (with_reducible exact HB.out) | (with_reducible exact Below.refl _ _) | (with_reducible refine below_alloc ?_ _) | (with_reducible refine pw_below_drewN ?_ _) | (with_reducible refine below_drew ?_)))⟩; clear HB hb; have HB := HBx; clear HBx)
            | fail)
          go_ret
          exact ⟨rfl, HB.out⟩
        | true =>
          have Hag := Aside0.mk hag
          have HagY : Aside0 (agL Y = true) := ⟨(agL_iff Y).2 (agL_cuts ((agL_iff X).1 hag) HCt.out)⟩
          clear hag
          go_wp2_with (first
            | (go_at_call 22; have _t := tokA; clear _t tokA; refine (agree_calls A1 c1 X _ HCX.out (by omega) HLX.out HOX.out).mono ?_; rw [Hag.out]; rintro e w7 ⟨rfl, hb⟩; have HC2x := Aside0.mk (Kd.C_below HC2.out hb); clear HC2; have HC2 := HC2x; clear HC2x; have HBx : Aside0 (Below w.heap.size w w7) := ⟨below_back hb (by repeat (first | (with_reducible exact HB.out) | (with_reducible exact Below.refl _ _) | (with_reducible refine below_alloc ?_ _) | (with_reducible refine pw_below_drewN ?_ _) | (with_reducible refine below_drew ?_)))⟩; clear HB hb; have HB := HBx; clear HBx)
            | (go_at_call 22; refine (agree_calls A2 c2 Y _ HC2.out (by have := HY6.out; omega) HLY.out HOY.out).mono ?_; rw [HagY.out]; rintro e w8 ⟨rfl, hb⟩; have HBx : Aside0 (Below w.heap.size w w8) := ⟨below_back hb (by repeat (first | (with_reducible exact HB.out) | (with_reducible exact Below.refl _ _) | (with_reducible refine below_alloc ?_ _) | (with_reducible refine pw_below_drewN ?_ _) | (with_reducible refine below_drew ?_)))⟩; clear HB hb; have HB := HBx; clear HBx)
            | fail)
          go_ret
          exact ⟨rfl, HB.out⟩
end Go.Proofs.Ythkofjlbnekgkaa.Trc
