/- The walks of CountBack and CountSets. -/
import Derived.Test.YtnfmnhbcjapmpaaDoorCntLaw2
namespace Go.Proofs.YtnfmnhbcjapmpaaDoor.Cnt
open Go.RowKit Go.Proofs.YtnfmnhbcjapmpaaDoorW.PrintWords

theorem ofGo_append (s : Nat) (l r : List Int) : ofGo s (l ++ r) = (ofGo s l).bind fun t => ofGo t r := by
  induction l generalizing s with
  | nil => rfl
  | cons x l ih =>
    simp only [List.cons_append, ofGo]
    split
    · rfl
    · exact ih _
theorem of_up (s : Nat) : ∀ n, n ≤ 16 → ofGo 0 (upI s n) = some (s % 2 ^ n)
  | 0, _ => by simp [upI, ofGo, Nat.mod_one]
  | n + 1, h => by
    rw [upI_succ, ofGo_append, of_up s n (by omega)]
    cases ht : s.testBit n with
    | false =>
      simp only [Option.bind_some, Bool.false_eq_true, if_false, ofGo]
      congr 1
      apply Nat.eq_of_testBit_eq
      intro i
      rw [Nat.testBit_mod_two_pow, Nat.testBit_mod_two_pow]
      by_cases e : i = n
      · subst e; simp [ht]
      · have : decide (i < n + 1) = decide (i < n) := by rw [decide_eq_decide]; omega
        rw [this]
    | true =>
      have hb : hasB (s % 2 ^ n) (n : Int) = false := by
        unfold hasB
        rw [Int.toNat_natCast, Nat.testBit_mod_two_pow]
        simp
      have hv : bitN (n : Int) = 2 ^ n := by
        unfold bitN
        rw [if_pos (by omega), Int.toNat_natCast]
      simp only [Option.bind_some, if_true, ofGo]
      rw [if_neg (by rw [hb]; simp; omega), hv]
      congr 1
      apply Nat.eq_of_testBit_eq
      intro i
      rw [Nat.testBit_or, Nat.testBit_mod_two_pow, Nat.testBit_mod_two_pow, Nat.testBit_two_pow]
      by_cases e : i = n
      · subst e; simp [ht]
      · have h1 : decide (i < n + 1) = decide (i < n) := by rw [decide_eq_decide]; omega
        have h2 : decide (n = i) = false := decide_eq_false (by omega)
        rw [h1, h2, Bool.or_false]
theorem of_lst (s : Nat) (hs : s < 65536) : ofGo 0 (lstI s) = some s := by
  rw [← upI_16, of_up s 16 (Nat.le_refl _), Nat.mod_eq_of_lt (by omega)]
theorem lstI_range (s : Nat) : ∀ x ∈ lstI s, 0 ≤ x ∧ x ≤ 255 := by
  intro x hx
  unfold lstI lst at hx
  obtain ⟨i, hi, rfl⟩ := List.mem_map.1 hx
  have : i < 16 := by simpa using (List.mem_filter.1 hi).1
  omega
theorem sz_pow : ∀ k, k < 16 → sz (2 ^ k) = 1 := by decide
theorem sz_bit (id : Int) (h : id < 16) : sz (bitN id) = 1 := by
  unfold bitN
  rw [if_pos h]
  rcases Int.le_total 0 id with h0 | h0
  · exact sz_pow _ (by omega)
  · rw [show id.toNat = 0 by omega]; exact sz_pow 0 (by omega)
theorem and_bit_nat (s : Nat) (id : Int) : s &&& bitN id = if hasB s id then bitN id else 0 := by
  have := and_bit s id
  split at this <;> simp_all <;> omega
theorem sz_with (s : Nat) (id : Int) (h16 : id < 16) (h : hasB s id = false) : sz (s ||| bitN id) = sz s + 1 := by
  have h1 := sz_union s (bitN id)
  rw [and_bit_nat, h, sz_bit id h16] at h1
  have : sz 0 = 0 := by decide
  simp only [Bool.false_eq_true, if_false] at h1
  omega
theorem sz_without (s : Nat) (id : Int) (h16 : id < 16) (h : hasB s id = true) : sz (s &&& (65535 - bitN id)) + 1 = sz s := by
  have h1 := sz_diff s (bitN id) (bitN_lt id)
  rw [and_bit_nat, h, if_pos rfl, sz_bit id h16] at h1
  exact h1
theorem or_andnot (s : Nat) (id : Int) (hs : s < 65536) (h : hasB s id = false) : (s ||| bitN id) &&& (65535 - bitN id) = s := by
  have hb := bitN_lt id
  apply Nat.eq_of_testBit_eq
  intro i
  rw [Nat.testBit_and, Nat.testBit_or, testBit_flip _ _ hb]
  have hn : (s.testBit i && (bitN id).testBit i) = false := by
    rw [← Nat.testBit_and, and_bit_nat, h]; simp
  rcases Nat.lt_or_ge i 16 with hi | hi
  · cases h1 : s.testBit i <;> cases h2 : (bitN id).testBit i <;> simp_all
  · have h1 : s.testBit i = false := Nat.testBit_lt_two_pow (Nat.lt_of_lt_of_le hs (Nat.pow_le_pow_right (n := 2) (by decide) hi))
    have h2 : (bitN id).testBit i = false := Nat.testBit_lt_two_pow (Nat.lt_of_lt_of_le hb (Nat.pow_le_pow_right (n := 2) (by decide) hi))
    simp [h1, h2]
theorem andnot_or (s : Nat) (id : Int) (hs : s < 65536) (h : hasB s id = true) : (s &&& (65535 - bitN id)) ||| bitN id = s := by
  obtain ⟨h1, h2⟩ := andnot_has s id hs h
  have hb := bitN_lt id
  have k1 : (s &&& (65535 - bitN id)) &&& bitN id = 0 := by
    apply Nat.eq_of_testBit_eq
    intro i
    rw [Nat.testBit_and, Nat.testBit_and, testBit_flip _ _ hb]
    cases (bitN id).testBit i <;> simp
  have := nat_or_add (s &&& (65535 - bitN id)) (bitN id) (Nat.lt_of_le_of_lt Nat.and_le_left hs) hb k1
  omega
theorem bitN_far (id : Int) (h : 15 < id) : bitN id = 0 := by unfold bitN; rw [if_neg (by omega)]

set_option maxRecDepth 100000 in
theorem back_calls (s : Nat) (id : Int) (w : World) (hs : s < 65536) (h0 : 0 ≤ id) (h1 : id ≤ 255) (hT : Tab w) : Calls Tryd.prog 9 #[.int .u16 (s : Int), .int .u8 id] w (Holds w) := by
  have HT := Aside0.mk hT
  clear hT
  have HOf := Aside0.mk (of_some (lstI s) s (of_lst s hs))
  have HLen := Aside0.mk (lstI_length s)
  have b1 : ((s : Int) != (s : Int)) = false := by simp
  have b2 : (((lstI s).length : Int) != (sz s : Int)) = false := by rw [HLen.out]; simp
  have zs := sz_le s
  by_cases h15 : 15 < id
  · have hf : hasB s id = false := by unfold hasB; simp; omega
    have HF := Aside0.mk hf
    have HBz := Aside0.mk (bitN_far id h15)
    clear hf
    have b3 : ((s : Int) == (s : Int)) = true := by simp
    go_enter Tryd.func9, Tryd.ntmps9
    go_wp2_with (first
      | (go_at_call 10; refine (alive_calls _ HT.out).mono ?_; rintro e w1 ⟨rfl, hb⟩; have HB := Aside0.mk hb; clear hb)
      | (go_at_call 20; refine (list_calls s _ hs ?hT).mono ?_; (case hT => exact Tab.below HT.out (by repeat (first | exact HB.out | apply below_alloc | apply pw_below_drewN | apply below_drew))); rintro e w2 ⟨v, rfl, ho, hb⟩; have HB2 := Aside0.mk (below_back hb (by repeat (first | exact HB.out | apply below_alloc | apply pw_below_drewN | apply below_drew))); clear HB; have HB := HB2; clear HB2 hb; obtain ⟨A, c, ev, hc, hr⟩ := Kd.R_reads ho; subst ev; have HR := Aside0.mk hr; clear ho hr hc)
      | (go_at_call 22; refine (of_calls _ _ (lstI s) _ HR.out (lstI_range s) (by have := HLen.out; omega)).mono ?_; rintro e w3 ⟨rfl, m, rfl⟩; rw [HOf.out])
      | (go_at_call 19; (with_reducible refine (size_calls s _ hs).mono ?_); rintro e w1 ⟨rfl, m, rfl⟩)
      | (go_at_call 21; refine (has_calls s id _ hs h0).mono ?_; rintro e w1 ⟨rfl, m, rfl⟩; rw [HF.out])
      | (go_at_call 25; refine (with_calls s id _ hs h0).mono ?_; rintro e w1 ⟨rfl, m, rfl⟩; rw [HBz.out, Nat.or_zero])
      | (go_at_call 27; refine (without_calls s id _ hs h0).mono ?_; rintro e w1 ⟨rfl, m, rfl⟩; rw [HBz.out, Nat.sub_zero, show s &&& 65535 = s from by rw [show (65535 : Nat) = 2 ^ 16 - 1 from rfl, Nat.and_two_pow_sub_one_eq_mod]; exact Nat.mod_eq_of_lt (by omega)]))
    go_ret
    exact ⟨rfl, by repeat (first | exact HB.out | apply below_alloc | apply pw_below_drewN | apply below_drew)⟩
  · have b3 : ((s : Int) == (s : Int)) = true := by simp
    cases hf : hasB s id with
    | true =>
      have hz := sz_without s id (by omega) hf
      have hor := andnot_or s id hs hf
      have hu : s &&& (65535 - bitN id) < 65536 := Nat.lt_of_le_of_lt Nat.and_le_left hs
      have HF := Aside0.mk hf
      clear hf
      generalize hue : s &&& (65535 - bitN id) = u at *
      have HU := Aside0.mk hue
      have HV := Aside0.mk hor
      have b4 : ((sz u : Int) == (sz s : Int) - 1) = true := by simp; omega
      clear hue hor hz
      go_enter Tryd.func9, Tryd.ntmps9
      go_wp2_with (first
      | (go_at_call 10; refine (alive_calls _ HT.out).mono ?_; rintro e w1 ⟨rfl, hb⟩; have HB := Aside0.mk hb; clear hb)
      | (go_at_call 20; refine (list_calls s _ hs ?hT).mono ?_; (case hT => exact Tab.below HT.out (by repeat (first | exact HB.out | apply below_alloc | apply pw_below_drewN | apply below_drew))); rintro e w2 ⟨v, rfl, ho, hb⟩; have HB2 := Aside0.mk (below_back hb (by repeat (first | exact HB.out | apply below_alloc | apply pw_below_drewN | apply below_drew))); clear HB; have HB := HB2; clear HB2 hb; obtain ⟨A, c, ev, hc, hr⟩ := Kd.R_reads ho; subst ev; have HR := Aside0.mk hr; clear ho hr hc)
      | (go_at_call 22; refine (of_calls _ _ (lstI s) _ HR.out (lstI_range s) (by have := HLen.out; omega)).mono ?_; rintro e w3 ⟨rfl, m, rfl⟩; rw [HOf.out])
      | (go_at_call 19; (with_reducible refine (size_calls s _ hs).mono ?_); rintro e w1 ⟨rfl, m, rfl⟩)
      | (go_at_call 19; (with_reducible refine (size_calls u _ hu).mono ?_); rintro e w1 ⟨rfl, m, rfl⟩)
      | (go_at_call 21; refine (has_calls s id _ hs h0).mono ?_; rintro e w1 ⟨rfl, m, rfl⟩; rw [HF.out])
      | (go_at_call 25; refine (with_calls u id _ hu h0).mono ?_; rintro e w1 ⟨rfl, m, rfl⟩; rw [HV.out])
      | (go_at_call 27; refine (without_calls s id _ hs h0).mono ?_; rintro e w1 ⟨rfl, m, rfl⟩; rw [HU.out]))
      go_ret
      exact ⟨rfl, by repeat (first | exact HB.out | apply below_alloc | apply pw_below_drewN | apply below_drew)⟩
    | false =>
      have hz := sz_with s id (by omega) hf
      have hor := or_andnot s id hs hf
      have hu : s ||| bitN id < 65536 := Nat.or_lt_two_pow (n := 16) hs (bitN_lt id)
      have HF := Aside0.mk hf
      clear hf
      generalize hue : s ||| bitN id = u at *
      have HU := Aside0.mk hue
      have HV := Aside0.mk hor
      have b4 : ((sz u : Int) == (sz s : Int) + 1) = true := by simp; omega
      clear hue hor hz
      go_enter Tryd.func9, Tryd.ntmps9
      go_wp2_with (first
      | (go_at_call 10; refine (alive_calls _ HT.out).mono ?_; rintro e w1 ⟨rfl, hb⟩; have HB := Aside0.mk hb; clear hb)
      | (go_at_call 20; refine (list_calls s _ hs ?hT).mono ?_; (case hT => exact Tab.below HT.out (by repeat (first | exact HB.out | apply below_alloc | apply pw_below_drewN | apply below_drew))); rintro e w2 ⟨v, rfl, ho, hb⟩; have HB2 := Aside0.mk (below_back hb (by repeat (first | exact HB.out | apply below_alloc | apply pw_below_drewN | apply below_drew))); clear HB; have HB := HB2; clear HB2 hb; obtain ⟨A, c, ev, hc, hr⟩ := Kd.R_reads ho; subst ev; have HR := Aside0.mk hr; clear ho hr hc)
      | (go_at_call 22; refine (of_calls _ _ (lstI s) _ HR.out (lstI_range s) (by have := HLen.out; omega)).mono ?_; rintro e w3 ⟨rfl, m, rfl⟩; rw [HOf.out])
      | (go_at_call 19; (with_reducible refine (size_calls s _ hs).mono ?_); rintro e w1 ⟨rfl, m, rfl⟩)
      | (go_at_call 19; (with_reducible refine (size_calls u _ hu).mono ?_); rintro e w1 ⟨rfl, m, rfl⟩)
      | (go_at_call 21; refine (has_calls s id _ hs h0).mono ?_; rintro e w1 ⟨rfl, m, rfl⟩; rw [HF.out])
      | (go_at_call 25; refine (with_calls s id _ hs h0).mono ?_; rintro e w1 ⟨rfl, m, rfl⟩; rw [HU.out])
      | (go_at_call 27; refine (without_calls u id _ hu h0).mono ?_; rintro e w1 ⟨rfl, m, rfl⟩; rw [HV.out]))
      go_ret
      exact ⟨rfl, by repeat (first | exact HB.out | apply below_alloc | apply pw_below_drewN | apply below_drew)⟩

/-- two lists alike are told the same -/
theorem same_calls (A A' : Option Addr) (c c' : Nat) (l : List Int) (w : World) (hr : Kd.C (Kd.int .u8) w A l.length l) (hr' : Kd.C (Kd.int .u8) w A' l.length l) (hm : l.length ≤ 9223372036854775807) :
    Calls Tryd.prog 30 #[.slice A l.length c, .slice A' l.length c'] w (Ret (.bool true) w) := by
  have HR := Aside0.mk hr
  have HR' := Aside0.mk hr'
  clear hr hr'
  have b1 : ((l.length : Int) != (l.length : Int)) = false := by simp
  go_enter Tryd.func30, Tryd.ntmps30
  go_wp2_with fail
  go_loopw [5, 13] (fun v5 v13 w' => ∃ (k : Nat), v13 = .int .i64 (k : Int) ∧ k ≤ l.length ∧ ∃ n, w' = w.drewN n) (fun _ v13 _ => l.length - (intOf v13).toNat)
  case atStart => exact ⟨0, rfl, by omega, 0, rfl⟩
  case round =>
    obtain ⟨k, rfl, hk, n, rfl⟩ := hrel
    by_cases hlt : k < l.length
    · obtain ⟨ad, ea, hx⟩ := Kd.at_int HR.out (k : Int) (by omega) (by omega)
      cases ea
      obtain ⟨ad', ea', hx'⟩ := Kd.at_int HR'.out (k : Int) (by omega) (by omega)
      cases ea'
      simp only [Int.toNat_natCast] at hx hx'
      generalize hy : rd l (k : Int) = y at *
      have b2 : (y != y) = false := by simp
      have g1 : (k : Int) < (l.length : Int) := by omega
      have g0 : 0 ≤ (k : Int) := by omega
      clear hy
      go_wp2_with fail
      go_quiet (fail)
      go_wp2_with fail
      go_roundw
      case rel => exact ⟨k + 1, by go_num, by omega, _, rfl⟩
      case measure => simp [intOf]; omega
    · have hge : l.length ≤ k := by omega
      go_wp2_with fail
      go_ret
      exact Ret.drawn _ _ _

set_option maxRecDepth 100000 in
theorem rof_calls (A : Option Addr) (c : Nat) (l : List Int) (w : World) (hr : Kd.C (Kd.int .u8) w A l.length l) (hl : ∀ x ∈ l, 0 ≤ x ∧ x ≤ 255) (hm : l.length ≤ 9223372036854775807) :
    Calls Tryd.prog 23 #[.slice A l.length c] w (Ret (ofVal (ofGo 0 l)) w) := by
  have HR := Aside0.mk hr
  have HL := Aside0.mk hl
  clear hr hl
  go_enter Tryd.func23, Tryd.ntmps23
  go_wp2_with fail
  go_loopw [4, 5] (fun v4 v5 w' => ∃ (s k : Nat), v4 = .int .u16 (s : Int) ∧ v5 = .int .i64 (k : Int) ∧ s < 65536 ∧ k ≤ l.length ∧ Aside0 (ofGo s (l.drop k) = ofGo 0 l) ∧ ∃ n, w' = w.drewN n) (fun _ v5 _ => l.length - (intOf v5).toNat)
  case atStart => exact ⟨0, 0, rfl, rfl, by omega, by omega, ⟨rfl⟩, 0, rfl⟩
  case round =>
    obtain ⟨s, k, rfl, rfl, hs, hk, HX, n, rfl⟩ := hrel
    by_cases hlt : k < l.length
    · obtain ⟨ad, ea, hx⟩ := Kd.at_int HR.out (k : Int) (by omega) (by omega)
      cases ea
      simp only [Int.toNat_natCast] at hx
      have hxr : 0 ≤ rd l k ∧ rd l k ≤ 255 := by
        have : rd l (k : Int) = l[k] := by simp [rd, hlt]
        rw [this]; exact HL.out _ (List.getElem_mem _)
      obtain ⟨x0, x1⟩ := hxr
      have HD := Aside0.mk (ofGo_drop s k l hlt)
      generalize hy : rd l (k : Int) = y at *
      have HY := Aside0.mk hy
      clear hy
      by_cases h16 : 15 < y
      · have d16 : decide (15 < y) = true := decide_eq_true h16
        go_wp2_with fail
        go_ret2
        exact ⟨by rw [← HX.out, HD.out, if_pos (by omega)]; rfl, _, rfl⟩
      · have d16 : decide (15 < y) = false := decide_eq_false h16
        cases hb : hasB s y with
        | true =>
          have HBt := Aside0.mk hb
          clear hb
          go_wp2_with (first | (go_at_call 24; refine (rhas_calls s y _ hs x0 x1).mono ?_; rintro e w1 ⟨rfl, m, rfl⟩; rw [HBt.out]))
          go_ret2
          exact ⟨by rw [← HX.out, HD.out, if_pos (by rw [HBt.out]; simp)]; rfl, _, rfl⟩
        | false =>
          have HBt := Aside0.mk hb
          clear hb
          go_wp2_with (first | (go_at_call 24; refine (rhas_calls s y _ hs x0 x1).mono ?_; rintro e w1 ⟨rfl, m, rfl⟩; rw [HBt.out]) | (go_at_call 26; refine (rwith_calls s y _ hs x0 x1).mono ?_; rintro e w1 ⟨rfl, m', rfl⟩))
          go_roundw
          case rel => exact ⟨s ||| bitN y, k + 1, rfl, by go_num, Nat.or_lt_two_pow (n := 16) hs (bitN_lt y), by omega, ⟨by rw [← HX.out, HD.out, if_neg (by rw [HBt.out]; simp; omega)]⟩, _, rfl⟩
          case measure => simp [intOf]; omega
    · have hk2 : Aside0 (k = l.length) := ⟨by omega⟩
      have hge : l.length ≤ k := by omega
      go_wp2_with fail
      go_ret2
      exact ⟨by rw [← HX.out, hk2.out, List.drop_length]; rfl, _, rfl⟩

end Go.Proofs.YtnfmnhbcjapmpaaDoor.Cnt
