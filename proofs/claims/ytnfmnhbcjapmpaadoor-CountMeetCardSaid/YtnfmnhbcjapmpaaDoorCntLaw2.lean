/- The walks of CountRise, CountLists, CountUnion. -/
import Derived.Test.YtnfmnhbcjapmpaaDoorCntLaw
namespace Go.Proofs.YtnfmnhbcjapmpaaDoor.Cnt
open Go.RowKit Go.Proofs.YtnfmnhbcjapmpaaDoorW.PrintWords

theorem held_in (n : Int) (h1 : 1 ≤ n) (h2 : n ≤ 16) : held n = n := by unfold held; omega

theorem rise_calls (n : Int) (w : World) (h0 : 0 ≤ n) (h1 : n ≤ 255) (hT : Tab w) : Calls Tryd.prog 5 #[.int .u8 n] w (Holds w) := by
  have HT := Aside0.mk hT
  clear hT
  have m0 : 0 ≤ n % 15 := by omega
  have m1 : n % 15 ≤ 14 := by omega
  generalize hm : n % 15 + 1 = M
  have a1 : 1 ≤ M := by omega
  have a2 : M ≤ 15 := by omega
  have b1 : faulty M = (M - 1) / 3 := by unfold faulty; rw [held_in M (by omega) (by omega)]
  have b2 : faulty (M + 1) = M / 3 := by unfold faulty; rw [held_in (M + 1) (by omega) (by omega)]; omega
  have b3 : echoes M = (M + faulty M) / 2 + 1 := by unfold echoes; rw [held_in M (by omega) (by omega)]
  have b4 : echoes (M + 1) = (M + 1 + faulty (M + 1)) / 2 + 1 := by unfold echoes; rw [held_in (M + 1) (by omega) (by omega)]
  have c1 : faulty M ≤ faulty (M + 1) := by omega
  have c2 : echoes M ≤ echoes (M + 1) := by omega
  have c4 : M + faulty M < 2 * echoes M := by omega
  have c5 : 2 * (echoes M - 1) ≤ M + faulty M := by omega
  have d0 := faulty_range M
  have d1 := faulty_range (M + 1)
  have d2 : 0 ≤ echoes M ∧ echoes M ≤ 20 := by omega
  have d3 : 0 ≤ echoes (M + 1) ∧ echoes (M + 1) ≤ 20 := by omega
  have e1 : (faulty M + 1 + faulty M == 2 * faulty M + 1) = true := by simp; omega
  have c3 : 2 * faulty M + 1 ≤ 2 * faulty (M + 1) + 1 := by omega
  clear b1 b2 b3 b4
  have HM := Aside0.mk hm
  clear hm
  go_enter Tryd.func5, Tryd.ntmps5
  go_wp2_with (first
    | (go_at_call 10; refine (alive_calls _ HT.out).mono ?_; rintro e w1 ⟨rfl, hb⟩; have HB := Aside0.mk hb; clear hb)
    | (go_at_call 11; (try rw [HM.out]); refine (faulty_calls _ _).mono ?_; rintro e w1 ⟨rfl, m, rfl⟩)
    | (go_at_call 13; (try rw [HM.out]); refine (echoes_calls _ _).mono ?_; rintro e w1 ⟨rfl, m, rfl⟩)
    | (go_at_call 15; (try rw [HM.out]); refine (readies_calls _ _).mono ?_; rintro e w1 ⟨rfl, m, rfl⟩)
    | (go_at_call 17; (try rw [HM.out]); refine (enough_calls _ _).mono ?_; rintro e w1 ⟨rfl, m, rfl⟩))
  go_ret
  exact ⟨rfl, by repeat (first | exact HB.out | apply below_alloc | apply pw_below_drewN | apply below_drew)⟩

theorem union_calls (a b : Nat) (w : World) (ha : a < 65536) (hb : b < 65536) (hT : Tab w) : Calls Tryd.prog 7 #[.int .u16 (a : Int), .int .u16 (b : Int)] w (Holds w) := by
  have HT := Aside0.mk hT
  clear hT
  have E1 := Aside0.mk (u16_or_nat a b ha hb)
  have E2 := Aside0.mk (u16_and_nat a b ha hb)
  have E3 := Aside0.mk (u16_andNot_nat a b ha hb)
  have l1 : a ||| b < 65536 := Nat.or_lt_two_pow (n := 16) ha hb
  have l2 : a &&& b < 65536 := Nat.lt_of_le_of_lt Nat.and_le_left ha
  have l3 : a &&& (65535 - b) < 65536 := Nat.lt_of_le_of_lt Nat.and_le_left ha
  have s1 := sz_union a b
  have s2 := sz_diff a b hb
  have z1 := sz_le a
  have z2 := sz_le b
  have z3 := sz_le (a ||| b)
  have z4 := sz_le (a &&& b)
  have t1 : ((sz (a ||| b) : Int) + (sz (a &&& b) : Int) == (sz a : Int) + (sz b : Int)) = true := by simp; omega
  have t2 : ((sz (a &&& (65535 - b)) : Int) == (sz a : Int) - (sz (a &&& b) : Int)) = true := by simp; omega
  have S1 := Aside0.mk s1
  have S2 := Aside0.mk s2
  clear s1 s2
  go_enter Tryd.func7, Tryd.ntmps7
  go_wp2_with (first
    | (go_at_call 10; refine (alive_calls _ HT.out).mono ?_; rintro e w1 ⟨rfl, hb⟩; have HB := Aside0.mk hb; clear hb)
    | (go_at_call 19; rw [E1.out]; refine (size_calls (a ||| b) _ l1).mono ?_; rintro e w1 ⟨rfl, m, rfl⟩)
    | (go_at_call 19; rw [E2.out]; refine (size_calls (a &&& b) _ l2).mono ?_; rintro e w1 ⟨rfl, m, rfl⟩)
    | (go_at_call 19; rw [E3.out]; refine (size_calls (a &&& (65535 - b)) _ l3).mono ?_; rintro e w1 ⟨rfl, m, rfl⟩)
    | (go_at_call 19; (with_reducible refine (size_calls a _ ha).mono ?_); rintro e w1 ⟨rfl, m, rfl⟩)
    | (go_at_call 19; (with_reducible refine (size_calls b _ hb).mono ?_); rintro e w1 ⟨rfl, m, rfl⟩))
  go_ret
  exact ⟨rfl, by repeat (first | exact HB.out | apply below_alloc | apply pw_below_drewN | apply below_drew)⟩

theorem hasB_nat (s i : Nat) (hs : s < 65536) : hasB s (i : Int) = s.testBit i := by
  unfold hasB
  by_cases h : i < 16
  · have : decide ((i : Int) < 16) = true := decide_eq_true (by omega)
    rw [this]; simp
  · have h1 : s.testBit i = false := Nat.testBit_lt_two_pow (Nat.lt_of_lt_of_le hs (Nat.pow_le_pow_right (n := 2) (by decide) (show 16 ≤ i by omega)))
    rw [h1]; simp [h1]
theorem upI_16 (s : Nat) : upI s 16 = lstI s := rfl
theorem bit_lt {s i : Nat} (hs : s < 65536) (h : s.testBit i = true) : i < 16 := by
  rcases Nat.lt_or_ge i 16 with h1 | h1
  · exact h1
  · rw [Nat.testBit_lt_two_pow (Nat.lt_of_lt_of_le hs (Nat.pow_le_pow_right (n := 2) (by decide) h1))] at h
    cases h
theorem upI_more (s n : Nat) (hs : s < 65536) (h : 16 ≤ n) : upI s n = lstI s := by
  obtain ⟨d, rfl⟩ : ∃ d, n = 16 + d := ⟨n - 16, by omega⟩
  induction d with
  | zero => rfl
  | succ d ih =>
    rw [← Nat.add_assoc, upI_succ, ih (by omega)]
    cases ht : s.testBit (16 + d) with
    | true => have := bit_lt hs ht; omega
    | false => simp
theorem upI_split (s i : Nat) : ∀ d, ∃ rest, upI s (i + d) = upI s i ++ rest
  | 0 => ⟨[], by simp⟩
  | d + 1 => by
    obtain ⟨rest, h⟩ := upI_split s i d
    exact ⟨rest ++ (if s.testBit (i + d) then [((i + d : Nat) : Int)] else []), by rw [← Nat.add_assoc, upI_succ, h, List.append_assoc]⟩
theorem upI_at (s i : Nat) (hs : s < 65536) (h : s.testBit i = true) : (upI s i).length < (lstI s).length ∧ rd (lstI s) ((upI s i).length : Int) = (i : Int) := by
  have hi := bit_lt hs h
  obtain ⟨rest, hr⟩ := upI_split s (i + 1) (16 - (i + 1))
  rw [show i + 1 + (16 - (i + 1)) = 16 by omega, upI_16, upI_succ, h] at hr
  rw [hr]
  constructor
  · simp
  · simp [rd, List.append_assoc]

set_option maxRecDepth 100000 in
theorem lists_calls (s : Nat) (w : World) (hs : s < 65536) (hT : Tab w) : Calls Tryd.prog 6 #[.int .u16 (s : Int)] w (Holds w) := by
  have HT := Aside0.mk hT
  clear hT
  go_enter Tryd.func6, Tryd.ntmps6
  go_wp2_with (first
    | (go_at_call 10; refine (alive_calls _ HT.out).mono ?_; rintro e w1 ⟨rfl, hb⟩; have HB := Aside0.mk hb; clear hb)
    | (go_at_call 20; refine (list_calls s _ hs (Tab.below HT.out HB.out)).mono ?_; rintro e w2 ⟨v, rfl, ho, hb⟩; have HB2 := Aside0.mk (below_back hb HB.out); clear HB hb; obtain ⟨A, c, ev, hc, hr⟩ := Kd.R_reads ho; subst ev; have HR := Aside0.mk hr; clear ho hr))
  have hl0 := lst_le s
  have hl1 : (lstI s).length ≤ 16 := by unfold lstI; rw [List.length_map]; exact hl0
  clear hl0
  go_loopw [4, 5, 10] (fun v4 v5 v10 w' => ∃ (i : Nat), v10 = .int .u8 (i : Int) ∧ i ≤ 20 ∧ v4 = .int .i64 ((upI s i).length : Int) ∧ ∃ m, w' = w2.drewN m) (fun _ _ v10 _ => (20 - intOf v10).toNat)
  case atStart => exact ⟨0, rfl, by omega, rfl, 0, rfl⟩
  case round =>
    obtain ⟨i, rfl, hi, rfl, m, rfl⟩ := hrel
    have hlen := upI_le s i
    have hsu := upI_succ s i
    by_cases hlt : i < 20
    · have hh := Aside0.mk (hasB_nat s i hs)
      cases ht : s.testBit i with
      | false =>
        have HT0 := Aside0.mk ht
        have HU : Aside0 ((upI s (i + 1)).length = (upI s i).length) := ⟨by rw [hsu, ht]; simp⟩
        clear ht hsu
        go_wp2_with (first | (go_at_call 21; refine (has_calls s (i : Int) _ hs (by omega)).mono ?_; rintro e w3 ⟨rfl, m', rfl⟩; rw [hh.out, HT0.out]))
        go_roundw
        case rel => exact ⟨i + 1, by go_num, by omega, by rw [HU.out], _, rfl⟩
        case measure => simp [intOf]; omega
      | true =>
        have HT0 := Aside0.mk ht
        obtain ⟨h1, h2⟩ := upI_at s i hs ht
        have HU : Aside0 ((upI s (i + 1)).length = (upI s i).length + 1) := ⟨by rw [hsu, ht]; simp⟩
        obtain ⟨ad, ea, hx⟩ := Kd.at_int HR.out ((upI s i).length : Int) (by omega) (by omega)
        cases ea
        rw [h2] at hx
        simp only [Int.toNat_natCast] at hx
        clear ht hsu h2
        generalize hk : (upI s i).length = k at *
        have HK := Aside0.mk hk
        clear hk
        have g1 : ((i : Int) != (i : Int)) = false := by simp
        go_wp2_with (first | (go_at_call 21; refine (has_calls s (i : Int) _ hs (by omega)).mono ?_; rintro e w3 ⟨rfl, m', rfl⟩; rw [hh.out, HT0.out]))
        go_roundw
        case rel => exact ⟨i + 1, by go_num, by omega, by rw [HU.out]; go_num, _, rfl⟩
        case measure => simp [intOf]; omega
    · have HI : Aside0 ((upI s i).length = (lstI s).length) := ⟨by rw [upI_more s i hs (by omega)]⟩
      have HZ := Aside0.mk (lstI_length s)
      have e1 : (((upI s i).length : Int) == ((lstI s).length : Int)) = true := by rw [HI.out]; simp
      have e2 : (((upI s i).length : Int) == (sz s : Int)) = true := by rw [HI.out, HZ.out]; simp
      go_wp2_with (first | (go_at_call 19; (with_reducible refine (size_calls s _ hs).mono ?_); rintro e w1 ⟨rfl, m, rfl⟩))
      go_ret
      exact ⟨rfl, by repeat (first | exact HB2.out | apply below_alloc | apply pw_below_drewN | apply below_drew)⟩

end Go.Proofs.YtnfmnhbcjapmpaaDoor.Cnt
