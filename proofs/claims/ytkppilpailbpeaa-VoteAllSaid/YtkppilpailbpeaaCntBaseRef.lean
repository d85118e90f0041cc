/- What the functions of the document's answer for layer 5 come to: the same plain words. -/
import Derived.Test.YtkppilpailbpeaaCntBase
namespace Go.Proofs.Ytkppilpailbpeaa.Cnt
open Go.RowKit Go.Proofs.YtkppilpailbpeaaW.PrintWords

theorem ret_int {k : IntKind} {a b : Int} (h : a = b) : Ending.returned (.int k a) = .returned (.int k b) := by rw [h]
theorem ret_bool {a b : Bool} (h : a = b) : Ending.returned (.bool a) = .returned (.bool b) := by rw [h]

theorem rheld_calls (n : Int) (w : World) : Calls Try.prog 48 #[.int .i64 n] w (Ret (.int .i64 (held n)) w) := by
  go_enter Try.func48, Try.ntmps48
  go_wp2
  all_goals go_ret
  all_goals exact Ret.int (by unfold held; omega)

theorem rfaulty_calls (n : Int) (w : World) : Calls Try.prog 44 #[.int .i64 n] w (Ret (.int .i64 (faulty n)) w) := by
  have hr := held_range n
  go_enter Try.func44, Try.ntmps44
  go_wp2_with (go_at_call 48; refine (rheld_calls _ _).mono ?_; rintro e w1 ⟨rfl, m, rfl⟩)
  go_ret
  exact Ret.intN (by unfold faulty; omega)

theorem rechoes_calls (n : Int) (w : World) : Calls Try.prog 28 #[.int .i64 n] w (Ret (.int .i64 (echoes n)) w) := by
  have hr := held_range n
  have hf := faulty_range n
  go_enter Try.func28, Try.ntmps28
  go_wp2_with (first | (go_at_call 48; refine (rheld_calls _ _).mono ?_; rintro e w1 ⟨rfl, m, rfl⟩) | (go_at_call 44; refine (rfaulty_calls _ _).mono ?_; rintro e w1 ⟨rfl, m', rfl⟩))
  go_loopw [4] (fun v4 w' => ∃ (k : Int), v4 = .int .i64 k ∧ 0 ≤ k ∧ 2 * k ≤ held n + faulty n + 2 ∧ ∃ m, w' = w.drewN m) (fun v4 _ => (100 - intOf v4).toNat)
  case atStart => exact ⟨0, rfl, by omega, by omega, _, rfl⟩
  case round =>
    obtain ⟨k, rfl, h0, h1, m1, rfl⟩ := hrel
    by_cases h : 2 * k ≤ held n + faulty n
    · go_wp2
      go_roundw
      case rel => exact ⟨k + 1, rfl, by omega, by omega, _, rfl⟩
      case measure => simp [intOf]; omega
    · go_wp2
      go_ret
      exact Ret.intN (by unfold echoes; omega)

theorem rreadies_calls (n : Int) (w : World) : Calls Try.prog 29 #[.int .i64 n] w (Ret (.int .i64 (faulty n + 1)) w) := by
  have hf := faulty_range n
  go_enter Try.func29, Try.ntmps29
  go_wp2_with (go_at_call 44; refine (rfaulty_calls _ _).mono ?_; rintro e w1 ⟨rfl, m', rfl⟩)
  go_ret
  exact Ret.drawn _ _ _

theorem renough_calls (n : Int) (w : World) : Calls Try.prog 27 #[.int .i64 n] w (Ret (.int .i64 (2 * faulty n + 1)) w) := by
  have hf := faulty_range n
  go_enter Try.func27, Try.ntmps27
  go_wp2_with (go_at_call 44; refine (rfaulty_calls _ _).mono ?_; rintro e w1 ⟨rfl, m', rfl⟩)
  go_ret
  exact Ret.drawn _ _ _

theorem pow_lt16 (k : Nat) (h : k < 16) : 2 ^ k < 65536 := by
  have : 2 ^ k ≤ 2 ^ 15 := Nat.pow_le_pow_right (by decide) (by omega)
  omega
theorem value_calls (id : Int) (w : World) (h0 : 0 ≤ id) (h1 : id ≤ 255) : Calls Try.prog 55 #[.int .u8 id] w (Ret (.int .u16 (bitN id : Nat)) w) := by
  by_cases h : 15 < id
  · go_enter Try.func55, Try.ntmps55
    go_wp2
    go_ret
    exact Ret.int (by unfold bitN; rw [if_neg (by omega)]; rfl)
  · go_enter Try.func55, Try.ntmps55
    go_wp2
    go_loopw [3, 4] (fun v3 v4 w' => ∃ (k : Nat), v3 = .int .u16 ((2 ^ k : Nat) : Int) ∧ v4 = .int .i64 (k : Int) ∧ (k : Int) ≤ id ∧ ∃ m, w' = w.drewN m) (fun _ v4 _ => (id - intOf v4).toNat)
    case atStart => exact ⟨0, rfl, rfl, h0, 0, rfl⟩
    case round =>
      obtain ⟨k, rfl, rfl, hk, m, rfl⟩ := hrel
      by_cases hlt : (k : Int) < id
      · have hp := pow_lt16 (k + 1) (by omega)
        rw [Nat.pow_succ] at hp
        generalize hq : 2 ^ k = q at *
        have HQ := Aside0.mk hq
        clear hq
        go_wp2
        go_roundw
        case rel => exact ⟨k + 1, by rw [Nat.pow_succ, HQ.out]; go_num, by go_num, by omega, _, rfl⟩
        case measure => simp [intOf]; omega
      · have hk2 : Aside0 (id = (k : Int)) := ⟨by omega⟩
        generalize hq : 2 ^ k = q at *
        have HQ := Aside0.mk hq
        clear hq
        go_wp2
        go_ret
        exact Ret.intN (by unfold bitN; rw [if_pos (by omega), hk2.out, ← HQ.out]; rfl)

theorem has_div (s : Nat) (id : Int) (h : id < 16) : ((s : Int) / (bitN id : Nat) % 2 == 1) = hasB s id := by
  unfold bitN hasB
  rw [if_pos h, Nat.testBit_eq_decide_div_mod_eq]
  simp only [h, decide_true, Bool.true_and]
  rw [Bool.eq_iff_iff]
  simp only [beq_iff_eq, decide_eq_true_eq]
  omega
theorem rhas_calls (s : Nat) (id : Int) (w : World) (hs : s < 65536) (h0 : 0 ≤ id) (h1 : id ≤ 255) : Calls Try.prog 39 #[.int .u16 (s : Int), .int .u8 id] w (Ret (.bool (hasB s id)) w) := by
  by_cases h : id < 16
  · have hd := Aside0.mk (has_div s id h)
    have d : decide (id ≤ 15) = true := decide_eq_true (by omega)
    have hp : 1 ≤ bitN id := by unfold bitN; rw [if_pos h]; exact Nat.two_pow_pos _
    have hlt := bitN_lt id
    generalize hb : bitN id = b at *
    have HBt := Aside0.mk hb
    clear hb
    have f1 : 0 ≤ (s : Int) / (b : Int) := Int.ediv_nonneg (by omega) (by omega)
    have f2 : (s : Int) / (b : Int) ≤ 65535 := Int.le_trans (Int.ediv_le_self _ (by omega)) (by omega)
    go_enter Try.func39, Try.ntmps39
    go_wp2_with (go_at_call 55; refine (value_calls _ _ h0 h1).mono ?_; rintro e w1 ⟨rfl, m, rfl⟩; rw [HBt.out])
    go_ret
    exact Ret.boolN hd.out
  · have d : decide (id ≤ 15) = false := decide_eq_false (by omega)
    go_enter Try.func39, Try.ntmps39
    go_wp2_with fail
    go_ret
    exact Ret.bool (by unfold hasB; rw [decide_eq_false (by omega), Bool.false_and])

theorem nat_or_add (a b : Nat) (ha : a < 65536) (hb : b < 65536) (h : a &&& b = 0) : a ||| b = a + b := by
  have := BitVec.add_eq_or_of_and_eq_zero (w := 20) (BitVec.ofNat 20 a) (BitVec.ofNat 20 b) (by
    apply BitVec.eq_of_toNat_eq
    simp only [BitVec.toNat_and, BitVec.toNat_ofNat]
    rw [Nat.mod_eq_of_lt (by omega), Nat.mod_eq_of_lt (by omega), h])
  have := congrArg BitVec.toNat this
  simp only [BitVec.toNat_or, BitVec.toNat_add, BitVec.toNat_ofNat] at this
  rw [Nat.mod_eq_of_lt (show a < 2 ^ 20 by omega), Nat.mod_eq_of_lt (show b < 2 ^ 20 by omega)] at this
  omega
theorem hasB_bit {s : Nat} {id : Int} (h : hasB s id = true) : id < 16 ∧ s.testBit id.toNat = true := by
  unfold hasB at h
  simpa using h
theorem or_has (s : Nat) (id : Int) (h : hasB s id = true) : s ||| bitN id = s := by
  obtain ⟨h1, h2⟩ := hasB_bit h
  unfold bitN
  rw [if_pos h1]
  apply Nat.eq_of_testBit_eq
  intro i
  rw [Nat.testBit_or, Nat.testBit_two_pow]
  by_cases e : id.toNat = i
  · subst e; simp [h2]
  · simp [e]
theorem or_add (s : Nat) (id : Int) (hs : s < 65536) (h0 : 0 ≤ id) (h : hasB s id = false) : s ||| bitN id = s + bitN id := by
  unfold hasB bitN at *
  split
  · rename_i hi
    simp only [hi, decide_true, Bool.true_and] at h
    have h2 : s &&& 2 ^ id.toNat = 0 := by
      rw [nat_bit]
      rw [Nat.testBit_eq_decide_div_mod_eq] at h
      simp only [decide_eq_false_iff_not] at h
      have : s / 2 ^ id.toNat % 2 = 0 := by omega
      rw [this]; simp
    exact nat_or_add _ _ hs (pow_lt16 _ (by omega)) h2
  · simp

theorem rwith_calls (s : Nat) (id : Int) (w : World) (hs : s < 65536) (h0 : 0 ≤ id) (h1 : id ≤ 255) : Calls Try.prog 62 #[.int .u16 (s : Int), .int .u8 id] w (Ret (.int .u16 ((s ||| bitN id : Nat) : Int)) w) := by
  cases hb : hasB s id with
  | true =>
    have HBt := Aside0.mk hb
    have HE := Aside0.mk (or_has s id hb)
    clear hb
    go_enter Try.func62, Try.ntmps62
    go_wp2_with (go_at_call 39; refine (rhas_calls _ _ _ hs h0 h1).mono ?_; rintro e w1 ⟨rfl, m, rfl⟩; rw [HBt.out])
    go_ret
    exact Ret.intN (by rw [HE.out])
  | false =>
    have HBt := Aside0.mk hb
    have HE := Aside0.mk (or_add s id hs h0 hb)
    have hlt : s + bitN id < 65536 := by rw [← HE.out]; exact Nat.or_lt_two_pow (n := 16) hs (bitN_lt id)
    clear hb
    go_enter Try.func62, Try.ntmps62
    go_wp2_with (first | (go_at_call 39; refine (rhas_calls _ _ _ hs h0 h1).mono ?_; rintro e w1 ⟨rfl, m, rfl⟩; rw [HBt.out]) | (go_at_call 55; refine (value_calls _ _ h0 h1).mono ?_; rintro e w1 ⟨rfl, m', rfl⟩))
    go_ret
    exact Ret.intN (by rw [HE.out]; omega)

theorem sz_le (s : Nat) : sz s ≤ 16 := by unfold sz; exact Nat.le_trans List.countP_le_length (by simp)
/-- the members below n -/
def upI (s n : Nat) : List Int := ((List.range n).filter s.testBit).map fun (i : Nat) => (i : Int)
theorem upI_succ (s n : Nat) : upI s (n + 1) = upI s n ++ (if s.testBit n then [(n : Int)] else []) := by
  unfold upI
  rw [List.range_succ, List.filter_append, List.map_append]
  cases h : s.testBit n <;> simp [h]
theorem upI_le (s n : Nat) : (upI s n).length ≤ n := by
  unfold upI
  rw [List.length_map]
  exact Nat.le_trans (List.length_filter_le _ _) (by simp)

set_option maxRecDepth 100000 in
theorem rlist_calls (s : Nat) (w : World) (hs : s < 65536) :
    Calls Try.prog 47 #[.int .u16 (s : Int)] w (Made (Kd.int .u8) 5 (lstI s) w) := by
  have HB := Aside0.mk (Below.refl w.heap.size w)
  go_enter Try.func47, Try.ntmps47
  go_wp2_with fail
  go_loopw [3, 4] (fun v3 v4 w' => ∃ (n : Nat), v4 = .int .i64 (n : Int) ∧ n ≤ 16 ∧ Aside0 (Kd.R (Kd.int .u8) 5 w' w.heap.size (fun _ => True) v3 (upI s n)) ∧ Aside0 (Below w.heap.size w w')) (fun _ v4 _ => (16 - intOf v4).toNat)
  case atStart => exact ⟨0, rfl, by omega, ⟨Kd.R_nil _ _ _ _ _⟩, HB⟩
  case round =>
    clear HB
    obtain ⟨n, rfl, hn, HO, HB⟩ := hrel
    by_cases hlt : n < 16
    · have hu := upI_succ s n
      have hb : hasB s (n : Int) = s.testBit n := by unfold hasB; simp; omega
      cases ht : s.testBit n with
      | true =>
        rw [ht] at hu hb
        have HU := Aside0.mk hu
        have HBt := Aside0.mk hb
        clear hu hb ht
        go_wp2_with (first | (go_at_call 39; refine (rhas_calls s (n : Int) _ hs (by omega) (by omega)).mono ?_; rintro e w1 ⟨rfl, m, rfl⟩; rw [HBt.out]) | (at_builtin; refine Kd.R_append (Kd.int .u8) (w0 := w) w.heap.size rfl (.tmp 13) (.tmp 16) 92 5 (.int .u8 0) 1 rfl Try.underlying92 info_u8 rfl (by decide) (by omega) u3 (upI s n) (n : Int) [.int .u8 (n : Int)] (fun _ => True) (fun _ => False) rfl rfl ?aP (fun _ hk => hk.elim) ?aF ?aO ?aB ?aS ?aL ?_; (case aP => exact rfl); (case aF => exact fun _ _ => trivial); (case aO => exact Kd.R_drewN HO.out _); (case aB => exact pw_below_drewN HB.out _); (case aS => exact HB.out.size); (case aL => have := upI_le s n; omega); intro v1 w1 ho hb hg hat; have HO1 := Aside0.mk ho; have HB1 := Aside0.mk hb; clear ho hb hg hat))
        go_roundw
        case rel => exact ⟨n + 1, by go_num, by omega, ⟨by rw [HU.out, if_pos trivial]; exact HO1.out⟩, HB1⟩
        case measure => simp [intOf]; omega
      | false =>
        rw [ht] at hu hb
        have HU := Aside0.mk hu
        have HBt := Aside0.mk hb
        clear hu hb ht
        go_wp2_with (first | (go_at_call 39; refine (rhas_calls s (n : Int) _ hs (by omega) (by omega)).mono ?_; rintro e w1 ⟨rfl, m, rfl⟩; rw [HBt.out]))
        go_roundw
        case rel => exact ⟨n + 1, by go_num, by omega, ⟨by rw [HU.out, if_neg (by decide), List.append_nil]; exact Kd.R_drewN HO.out _⟩, ⟨pw_below_drewN HB.out _⟩⟩
        case measure => simp [intOf]; omega
    · obtain rfl : n = 16 := by omega
      go_wp2
      go_ret
      exact ⟨_, rfl, HO.out, HB.out⟩

theorem rsize_calls (s : Nat) (w : World) (hs : s < 65536) :
    Calls Try.prog 26 #[.int .u16 (s : Int)] w fun e w' => e = .returned (.int .i64 (sz s : Nat)) ∧ Below w.heap.size w w' := by
  have HL := Aside0.mk (lstI_length s)
  go_enter Try.func26, Try.ntmps26
  go_wp2_with (go_at_call 47; refine (rlist_calls s _ hs).mono ?_; rintro e w1 ⟨v, rfl, ho, hb⟩; obtain ⟨A, c, ev⟩ := Kd.R_slice ho; subst ev; have HB := Aside0.mk hb; clear ho hb)
  go_ret
  exact ⟨ret_int (by rw [HL.out]), HB.out⟩

end Go.Proofs.Ytkppilpailbpeaa.Cnt
