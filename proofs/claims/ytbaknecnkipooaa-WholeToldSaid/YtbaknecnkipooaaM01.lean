/- Plain laws on sets of sixteen bits: how many are set, which, the lowest of them. No program in sight. What the functions of package count come to: each reads nothing but its arguments, and hands back what the plain words say. -/
import Derived.Test.YtbaknecnkipooaaProg
import Derived.WalkKit
import Derived.WalkLawsBesides
import Derived.Deep.LoopGhost
import Derived.Deep.QuietTactic
import Derived.BigQuiet
import Derived.Deep.DeepMust
import Derived.Laws.BitsLemmas
import Derived.Laws.BitsAllLaws
import Derived.Laws.ShiftsVarLaws
import Derived.Laws.Bits64
import Derived.Lib.Tables
import Derived.Test.YtbaknecnkipooaaWWords
namespace Go.Proofs.Ytbaknecnkipooaa.Cnt
structure Aside (p : Prop) : Prop where mk :: (out : p)
def sz (s : Nat) : Nat := (List.range 16).countP s.testBit
def pop8 (a : Nat) : Nat := (List.range 8).countP a.testBit
theorem sz_halves (s : Nat) : pop8 (s / 256) + pop8 (s % 256) = sz s := by
  have h1 : sz s = (List.range 8).countP s.testBit + (List.range 8).countP (fun i => s.testBit (8 + i)) := by
    unfold sz
    rw [show (16 : Nat) = 8 + 8 from rfl, List.range_add, List.countP_append, List.countP_map]
    rfl
  rw [h1, Nat.add_comm]
  unfold pop8
  congr 1
  · apply List.countP_congr
    intro i hi
    have hi : i < 8 := by simpa using hi
    rw [show (256 : Nat) = 2 ^ 8 from rfl, Nat.testBit_mod_two_pow]
    simp [hi]
  · apply List.countP_congr
    intro i _
    rw [show (256 : Nat) = 2 ^ 8 from rfl, Nat.testBit_div_two_pow, Nat.add_comm]
end Go.Proofs.Ytbaknecnkipooaa.Cnt
namespace Go.Proofs.Ytbaknecnkipooaa.Cnt
open Go.RowKit Go.Proofs.YtbaknecnkipooaaW.PrintWords
def Ret (v : Value) (w : World) (e : Ending) (w' : World) : Prop := e = .returned v ∧ ∃ m, w' = w.drewN m
theorem Ret.same (v : Value) (w : World) : Ret v w (.returned v) w := ⟨rfl, 0, rfl⟩
theorem Ret.drawn (v : Value) (w : World) (m : Nat) : Ret v w (.returned v) (w.drewN m) := ⟨rfl, m, rfl⟩
def held (n : Int) : Int := max 1 (min n 16)
def faulty (n : Int) : Int := (held n - 1) / 3
def echoes (n : Int) : Int := (held n + faulty n) / 2 + 1
theorem held_range (n : Int) : 1 ≤ held n ∧ held n ≤ 16 := by unfold held; omega
theorem faulty_range (n : Int) : 0 ≤ faulty n ∧ faulty n ≤ 5 := by have := held_range n; unfold faulty; omega
theorem Ret.int {k : IntKind} {a b : Int} {w : World} (h : a = b) : Ret (.int k b) w (.returned (.int k a)) w := h ▸ Ret.same _ _
theorem Ret.intN {k : IntKind} {a b : Int} {w : World} {m : Nat} (h : a = b) : Ret (.int k b) w (.returned (.int k a)) (w.drewN m) := h ▸ Ret.drawn _ _ _
theorem Ret.boolN {a b : Bool} {w : World} {m : Nat} (h : a = b) : Ret (.bool b) w (.returned (.bool a)) (w.drewN m) := h ▸ Ret.drawn _ _ _
theorem held_calls (n : Int) (w : World) : Calls Try.prog 45 #[.int .i64 n] w (Ret (.int .i64 (held n)) w) := by
  go_enter Try.func45, Try.ntmps45
  go_wp2
  all_goals go_ret
  all_goals exact Ret.int (by unfold held; omega)
theorem faulty_calls (n : Int) (w : World) : Calls Try.prog 13 #[.int .i64 n] w (Ret (.int .i64 (faulty n)) w) := by
  have hr := held_range n
  go_enter Try.func13, Try.ntmps13
  go_wp2_with (go_at_call 45; refine (held_calls _ _).mono ?_; rintro e w1 ⟨rfl, m, rfl⟩)
  go_ret
  exact Ret.intN (by unfold faulty; omega)
theorem echoes_calls (n : Int) (w : World) : Calls Try.prog 40 #[.int .i64 n] w (Ret (.int .i64 (echoes n)) w) := by
  have hr := held_range n
  have hf := faulty_range n
  go_enter Try.func40, Try.ntmps40
  go_wp2_with (first | (go_at_call 45; refine (held_calls _ _).mono ?_; rintro e w1 ⟨rfl, m, rfl⟩) | (go_at_call 13; refine (faulty_calls _ _).mono ?_; rintro e w1 ⟨rfl, m', rfl⟩))
  go_ret
  exact Ret.intN (by unfold echoes; omega)
theorem readies_calls (n : Int) (w : World) : Calls Try.prog 41 #[.int .i64 n] w (Ret (.int .i64 (faulty n + 1)) w) := by
  have hf := faulty_range n
  go_enter Try.func41, Try.ntmps41
  go_wp2_with (go_at_call 13; refine (faulty_calls _ _).mono ?_; rintro e w1 ⟨rfl, m', rfl⟩)
  go_ret
  exact Ret.drawn _ _ _
theorem enough_calls (n : Int) (w : World) : Calls Try.prog 44 #[.int .i64 n] w (Ret (.int .i64 (2 * faulty n + 1)) w) := by
  have hf := faulty_range n
  go_enter Try.func44, Try.ntmps44
  go_wp2_with (go_at_call 13; refine (faulty_calls _ _).mono ?_; rintro e w1 ⟨rfl, m', rfl⟩)
  go_ret
  exact Ret.drawn _ _ _
def bitN (id : Int) : Nat := if id < 16 then 2 ^ id.toNat else 0
theorem bitN_lt (id : Int) : bitN id < 65536 := by
  unfold bitN
  split
  · have h : 2 ^ id.toNat ≤ 2 ^ 15 := Nat.pow_le_pow_right (by decide) (by omega)
    omega
  · omega
theorem bit_wrap (id : Int) (h0 : 0 ≤ id) : IntKind.u16.wrap (IntKind.u64.wrap (2 ^ min id.toNat 64)) = ((bitN id : Nat) : Int) := by
  rw [IntKind.wrap_u16, IntKind.wrap_u64]
  obtain ⟨n, rfl⟩ := Int.eq_ofNat_of_zero_le h0
  simp only [Int.toNat_natCast]
  have e : ((2 : Int) ^ min n 64) = ((2 ^ min n 64 : Nat) : Int) := by simp
  rw [e, Int.emod_emod_of_dvd _ (by decide)]
  unfold bitN
  by_cases h : n < 16
  · rw [if_pos (by omega), show min n 64 = n by omega]
    have h2 : 2 ^ n ≤ 2 ^ 15 := Nat.pow_le_pow_right (by decide) (by omega)
    simp only [Int.toNat_natCast]
    generalize (2 : Nat) ^ n = q at *
    omega
  · rw [if_neg (by omega)]
    have h2 : (2 : Nat) ^ min n 64 = 2 ^ (min n 64 - 16) * 65536 := by
      rw [show (65536 : Nat) = 2 ^ 16 from rfl, ← Nat.pow_add]; congr 1; omega
    rw [h2]
    omega
theorem bit_calls (id : Int) (w : World) (h0 : 0 ≤ id) : Calls Try.prog 64 #[.int .u8 id] w (Ret (.int .u16 (bitN id : Nat)) w) := by
  have hb := Aside.mk (bit_wrap id h0)
  go_enter Try.func64, Try.ntmps64
  go_wp2
  go_ret
  exact Ret.int hb.out
def hasB (s : Nat) (id : Int) : Bool := decide (id < 16) && s.testBit id.toNat
theorem and_bit (s : Nat) (id : Int) : ((s &&& bitN id : Nat) : Int) = if hasB s id then (bitN id : Int) else 0 := by
  unfold hasB bitN
  by_cases h : id < 16
  · simp only [h, if_true, decide_true, Bool.true_and]
    rw [nat_bit, Nat.testBit_eq_decide_div_mod_eq]
    rcases Nat.mod_two_eq_zero_or_one (s / 2 ^ id.toNat) with e | e <;> simp [e]
  · simp [h]
theorem bitN_pos (s : Nat) (id : Int) (h : hasB s id = true) : 0 < bitN id := by
  unfold hasB at h
  unfold bitN
  have : id < 16 := by
    simp at h; exact h.1
  rw [if_pos this]
  exact Nat.two_pow_pos _
theorem has_ne (s : Nat) (id : Int) (hs : s < 65536) : (bits .and .u16 (s : Int) (bitN id : Nat) != 0) = hasB s id := by
  rw [u16_and_nat s (bitN id) hs (bitN_lt id), and_bit]
  cases h : hasB s id
  · rfl
  · have := bitN_pos s id h
    simp; omega
theorem has_calls (s : Nat) (id : Int) (w : World) (hs : s < 65536) (h0 : 0 ≤ id) : Calls Try.prog 39 #[.int .u16 (s : Int), .int .u8 id] w (Ret (.bool (hasB s id)) w) := by
  have hb := Aside.mk (has_ne s id hs)
  go_enter Try.func39, Try.ntmps39
  go_wp2_with (go_at_call 64; refine (bit_calls _ _ h0).mono ?_; rintro e w1 ⟨rfl, m, rfl⟩)
  go_ret
  exact Ret.boolN hb.out
theorem with_calls (s : Nat) (id : Int) (w : World) (hs : s < 65536) (h0 : 0 ≤ id) : Calls Try.prog 66 #[.int .u16 (s : Int), .int .u8 id] w (Ret (.int .u16 ((s ||| bitN id : Nat) : Int)) w) := by
  have hb := Aside.mk (u16_or_nat s (bitN id) hs (bitN_lt id))
  go_enter Try.func66, Try.ntmps66
  go_wp2_with (go_at_call 64; refine (bit_calls _ _ h0).mono ?_; rintro e w1 ⟨rfl, m, rfl⟩)
  go_ret
  exact Ret.intN hb.out
theorem fold_pop : (⟨(([0, 1, 1, 2, 1, 2, 2, 3, 1, 2, 2, 3, 2, 3, 3, 4, 1, 2, 2, 3, 2, 3, 3, 4, 2, 3, 3, 4, 3, 4, 4, 5, 1, 2, 2, 3, 2, 3, 3, 4, 2, 3, 3, 4, 3, 4, 4, 5, 2, 3, 3, 4, 3, 4, 4, 5, 3, 4, 4, 5, 4, 5, 5, 6] : List UInt8).append [1, 2, 2, 3, 2, 3, 3, 4, 2, 3, 3, 4, 3, 4, 4, 5, 2, 3, 3, 4, 3, 4, 4, 5, 3, 4, 4, 5, 4, 5, 5, 6, 2, 3, 3, 4, 3, 4, 4, 5, 3, 4, 4, 5, 4, 5, 5, 6, 3, 4, 4, 5, 4, 5, 5, 6, 4, 5, 5, 6, 5, 6, 6, 7] |>.append (([1, 2, 2, 3, 2, 3, 3, 4, 2, 3, 3, 4, 3, 4, 4, 5, 2, 3, 3, 4, 3, 4, 4, 5, 3, 4, 4, 5, 4, 5, 5, 6, 2, 3, 3, 4, 3, 4, 4, 5, 3, 4, 4, 5, 4, 5, 5, 6, 3, 4, 4, 5, 4, 5, 5, 6, 4, 5, 5, 6, 5, 6, 6, 7] : List UInt8).append [2, 3, 3, 4, 3, 4, 4, 5, 3, 4, 4, 5, 4, 5, 5, 6, 3, 4, 4, 5, 4, 5, 5, 6, 4, 5, 5, 6, 5, 6, 6, 7, 3, 4, 4, 5, 4, 5, 5, 6, 4, 5, 5, 6, 5, 6, 6, 7, 4, 5, 5, 6, 5, 6, 6, 7, 5, 6, 6, 7, 6, 7, 7, 8])).toArray⟩ : ByteArray) = Lib.pop8tab := by decide +kernel
theorem pop8_tab : ∀ n : Fin 256, Lib.pop8 (n.val : Int) = (pop8 n.val : Int) := by decide +kernel
theorem pop8_int (n : Nat) (h : n < 256) : Lib.pop8 (n : Int) = (pop8 n : Int) := pop8_tab ⟨n, h⟩
theorem pop8_le (n : Nat) : pop8 n ≤ 8 := by unfold pop8; exact Nat.le_trans List.countP_le_length (by simp)
theorem halves_int (s : Nat) (hs : s < 65536) : IntKind.u8.wrap (Lib.pop8 ((s : Int) / 256) + Lib.pop8 (bits .and .u16 (s : Int) 255)) = ((sz s : Nat) : Int) := by
  have e : bits .and .u16 (s : Int) 255 = ((s % 256 : Nat) : Int) := by
    have := u16_and_nat s 255 hs (by omega)
    rw [nat_mask8] at this
    exact this
  rw [e, IntKind.wrap_u8, ← sz_halves s]
  have h1 := pop8_int (s / 256) (by omega)
  have h2 := pop8_int (s % 256) (by omega)
  have h3 := pop8_le (s / 256)
  have h4 := pop8_le (s % 256)
  rw [show ((s / 256 : Nat) : Int) = (s : Int) / 256 from rfl] at h1
  rw [h1, h2]
  omega
set_option maxRecDepth 100000 in
theorem ones_calls (s : Nat) (w : World) (hs : s < 65536) : Calls Try.prog 63 #[.int .u16 (s : Int)] w (Ret (.int .i64 (sz s : Nat)) w) := by
  have hM := Aside.mk (halves_int s hs)
  have hm : bits .and .u16 (s : Int) 255 = ((s % 256 : Nat) : Int) := by
    have := u16_and_nat s 255 hs (by omega)
    rw [nat_mask8] at this
    exact this
  have g1 : 0 ≤ (s : Int) / 256 := by omega
  have g2 : (s : Int) / 256 ≤ 255 := by omega
  have h1 : 0 ≤ bits .and .u16 (s : Int) 255 := by rw [hm]; omega
  have h2 : bits .and .u16 (s : Int) 255 ≤ 255 := by rw [hm]; omega
  clear hm
  go_enter Try.func63, Try.ntmps63
  go_wp2
  simp only [fold_pop]
  go_quiet (fail)
  go_wp2
  go_ret
  exact Ret.intN (by rw [← hM.out, IntKind.wrap_u8])
theorem size_calls (s : Nat) (w : World) (hs : s < 65536) : Calls Try.prog 38 #[.int .u16 (s : Int)] w (Ret (.int .i64 (sz s : Nat)) w) := by
  go_enter Try.func38, Try.ntmps38
  go_wp2_with (go_at_call 63; refine (ones_calls _ _ hs).mono ?_; rintro e w1 ⟨rfl, m, rfl⟩)
  go_ret
  exact Ret.drawn _ _ _
end Go.Proofs.Ytbaknecnkipooaa.Cnt
