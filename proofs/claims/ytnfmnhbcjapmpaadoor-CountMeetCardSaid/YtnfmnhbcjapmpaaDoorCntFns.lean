/- What the functions of package count come to: each reads nothing but its arguments, and hands back what the plain words say. -/
import Derived.Test.YtnfmnhbcjapmpaaDoorProg
import Derived.Test.YtnfmnhbcjapmpaaDoorCntPlain
import Derived.WalkKit
import Derived.WalkLawsBesides
import Derived.Deep.LoopGhost
import Derived.Deep.QuietTactic
import Derived.BigQuiet
import Derived.Deep.DeepMust
import Derived.Laws.BitsLemmas
import Derived.Laws.BitsAllLaws
import Derived.Laws.ShiftsVarLaws
import Derived.Laws.Bits64
import Derived.Lib.Tables
import Derived.Test.YtnfmnhbcjapmpaaDoorWWords

namespace Go.Proofs.YtnfmnhbcjapmpaaDoor.Cnt
open Go.RowKit Go.Proofs.YtnfmnhbcjapmpaaDoorW.PrintWords

/-- Hands back v; the world is as it was, but for draws. -/
def Ret (v : Value) (w : World) (e : Ending) (w' : World) : Prop := e = .returned v ∧ ∃ m, w' = w.drewN m
theorem Ret.same (v : Value) (w : World) : Ret v w (.returned v) w := ⟨rfl, 0, rfl⟩
theorem Ret.drawn (v : Value) (w : World) (m : Nat) : Ret v w (.returned v) (w.drewN m) := ⟨rfl, m, rfl⟩

def held (n : Int) : Int := max 1 (min n 16)
def faulty (n : Int) : Int := (held n - 1) / 3
def echoes (n : Int) : Int := (held n + faulty n) / 2 + 1
theorem held_range (n : Int) : 1 ≤ held n ∧ held n ≤ 16 := by unfold held; omega
theorem faulty_range (n : Int) : 0 ≤ faulty n ∧ faulty n ≤ 5 := by have := held_range n; unfold faulty; omega

theorem Ret.int {k : IntKind} {a b : Int} {w : World} (h : a = b) : Ret (.int k b) w (.returned (.int k a)) w := h ▸ Ret.same _ _
theorem Ret.intN {k : IntKind} {a b : Int} {w : World} {m : Nat} (h : a = b) : Ret (.int k b) w (.returned (.int k a)) (w.drewN m) := h ▸ Ret.drawn _ _ _
theorem Ret.bool {a b : Bool} {w : World} (h : a = b) : Ret (.bool b) w (.returned (.bool a)) w := h ▸ Ret.same _ _
theorem Ret.boolN {a b : Bool} {w : World} {m : Nat} (h : a = b) : Ret (.bool b) w (.returned (.bool a)) (w.drewN m) := h ▸ Ret.drawn _ _ _
theorem Calls.ret_at {P : Program} {f : FuncId} {args : Array Value} {w : World} {v v' : Value} (h : Calls P f args w (Ret v w)) (e : v = v') : Calls P f args w (Ret v' w) := e ▸ h

theorem held_calls (n : Int) (w : World) : Calls Tryd.prog 32 #[.int .i64 n] w (Ret (.int .i64 (held n)) w) := by
  go_enter Tryd.func32, Tryd.ntmps32
  go_wp2
  all_goals go_ret
  all_goals exact Ret.int (by unfold held; omega)

theorem faulty_calls (n : Int) (w : World) : Calls Tryd.prog 11 #[.int .i64 n] w (Ret (.int .i64 (faulty n)) w) := by
  have hr := held_range n
  go_enter Tryd.func11, Tryd.ntmps11
  go_wp2_with (go_at_call 32; refine (held_calls _ _).mono ?_; rintro e w1 ⟨rfl, m, rfl⟩)
  go_ret
  exact Ret.intN (by unfold faulty; omega)

theorem echoes_calls (n : Int) (w : World) : Calls Tryd.prog 13 #[.int .i64 n] w (Ret (.int .i64 (echoes n)) w) := by
  have hr := held_range n
  have hf := faulty_range n
  go_enter Tryd.func13, Tryd.ntmps13
  go_wp2_with (first | (go_at_call 32; refine (held_calls _ _).mono ?_; rintro e w1 ⟨rfl, m, rfl⟩) | (go_at_call 11; refine (faulty_calls _ _).mono ?_; rintro e w1 ⟨rfl, m', rfl⟩))
  go_ret
  exact Ret.intN (by unfold echoes; omega)

theorem readies_calls (n : Int) (w : World) : Calls Tryd.prog 15 #[.int .i64 n] w (Ret (.int .i64 (faulty n + 1)) w) := by
  have hf := faulty_range n
  go_enter Tryd.func15, Tryd.ntmps15
  go_wp2_with (go_at_call 11; refine (faulty_calls _ _).mono ?_; rintro e w1 ⟨rfl, m', rfl⟩)
  go_ret
  exact Ret.drawn _ _ _

theorem enough_calls (n : Int) (w : World) : Calls Tryd.prog 17 #[.int .i64 n] w (Ret (.int .i64 (2 * faulty n + 1)) w) := by
  have hf := faulty_range n
  go_enter Tryd.func17, Tryd.ntmps17
  go_wp2_with (go_at_call 11; refine (faulty_calls _ _).mono ?_; rintro e w1 ⟨rfl, m', rfl⟩)
  go_ret
  exact Ret.drawn _ _ _

/-- a member's bit -/
def bitN (id : Int) : Nat := if id < 16 then 2 ^ id.toNat else 0
theorem bitN_lt (id : Int) : bitN id < 65536 := by
  unfold bitN
  split
  · have h : 2 ^ id.toNat ≤ 2 ^ 15 := Nat.pow_le_pow_right (by decide) (by omega)
    omega
  · omega

theorem bit_wrap (id : Int) (h0 : 0 ≤ id) : IntKind.u16.wrap (IntKind.u64.wrap (2 ^ min id.toNat 64)) = ((bitN id : Nat) : Int) := by
  rw [IntKind.wrap_u16, IntKind.wrap_u64]
  obtain ⟨n, rfl⟩ := Int.eq_ofNat_of_zero_le h0
  simp only [Int.toNat_natCast]
  have e : ((2 : Int) ^ min n 64) = ((2 ^ min n 64 : Nat) : Int) := by simp
  rw [e, Int.emod_emod_of_dvd _ (by decide)]
  unfold bitN
  by_cases h : n < 16
  · rw [if_pos (by omega), show min n 64 = n by omega]
    have h2 : 2 ^ n ≤ 2 ^ 15 := Nat.pow_le_pow_right (by decide) (by omega)
    simp only [Int.toNat_natCast]
    generalize (2 : Nat) ^ n = q at *
    omega
  · rw [if_neg (by omega)]
    have h2 : (2 : Nat) ^ min n 64 = 2 ^ (min n 64 - 16) * 65536 := by
      rw [show (65536 : Nat) = 2 ^ 16 from rfl, ← Nat.pow_add]; congr 1; omega
    rw [h2]
    omega

theorem bit_calls (id : Int) (w : World) (h0 : 0 ≤ id) : Calls Tryd.prog 36 #[.int .u8 id] w (Ret (.int .u16 (bitN id : Nat)) w) := by
  have hb := Aside.mk (bit_wrap id h0)
  go_enter Tryd.func36, Tryd.ntmps36
  go_wp2
  go_ret
  exact Ret.int hb.out

/-- is a member in a set? -/
def hasB (s : Nat) (id : Int) : Bool := decide (id < 16) && s.testBit id.toNat
theorem and_bit (s : Nat) (id : Int) : ((s &&& bitN id : Nat) : Int) = if hasB s id then (bitN id : Int) else 0 := by
  unfold hasB bitN
  by_cases h : id < 16
  · simp only [h, if_true, decide_true, Bool.true_and]
    rw [nat_bit, Nat.testBit_eq_decide_div_mod_eq]
    rcases Nat.mod_two_eq_zero_or_one (s / 2 ^ id.toNat) with e | e <;> simp [e]
  · simp [h]
theorem bitN_pos (s : Nat) (id : Int) (h : hasB s id = true) : 0 < bitN id := by
  unfold hasB at h
  unfold bitN
  have : id < 16 := by
    simp at h; exact h.1
  rw [if_pos this]
  exact Nat.two_pow_pos _
theorem has_ne (s : Nat) (id : Int) (hs : s < 65536) : (bits .and .u16 (s : Int) (bitN id : Nat) != 0) = hasB s id := by
  rw [u16_and_nat s (bitN id) hs (bitN_lt id), and_bit]
  cases h : hasB s id
  · rfl
  · have := bitN_pos s id h
    simp; omega

theorem has_calls (s : Nat) (id : Int) (w : World) (hs : s < 65536) (h0 : 0 ≤ id) : Calls Tryd.prog 21 #[.int .u16 (s : Int), .int .u8 id] w (Ret (.bool (hasB s id)) w) := by
  have hb := Aside.mk (has_ne s id hs)
  go_enter Tryd.func21, Tryd.ntmps21
  go_wp2_with (go_at_call 36; refine (bit_calls _ _ h0).mono ?_; rintro e w1 ⟨rfl, m, rfl⟩)
  go_ret
  exact Ret.boolN hb.out

theorem with_calls (s : Nat) (id : Int) (w : World) (hs : s < 65536) (h0 : 0 ≤ id) : Calls Tryd.prog 25 #[.int .u16 (s : Int), .int .u8 id] w (Ret (.int .u16 ((s ||| bitN id : Nat) : Int)) w) := by
  have hb := Aside.mk (u16_or_nat s (bitN id) hs (bitN_lt id))
  go_enter Tryd.func25, Tryd.ntmps25
  go_wp2_with (go_at_call 36; refine (bit_calls _ _ h0).mono ?_; rintro e w1 ⟨rfl, m, rfl⟩)
  go_ret
  exact Ret.intN hb.out

theorem without_calls (s : Nat) (id : Int) (w : World) (hs : s < 65536) (h0 : 0 ≤ id) : Calls Tryd.prog 27 #[.int .u16 (s : Int), .int .u8 id] w (Ret (.int .u16 ((s &&& (65535 - bitN id) : Nat) : Int)) w) := by
  have hb := Aside.mk (u16_andNot_nat s (bitN id) hs (bitN_lt id))
  go_enter Tryd.func27, Tryd.ntmps27
  go_wp2_with (go_at_call 36; refine (bit_calls _ _ h0).mono ?_; rintro e w1 ⟨rfl, m, rfl⟩)
  go_ret
  exact Ret.intN hb.out

/-- math/bits' table as the program's text holds it -/
theorem fold_pop : (⟨(([0, 1, 1, 2, 1, 2, 2, 3, 1, 2, 2, 3, 2, 3, 3, 4, 1, 2, 2, 3, 2, 3, 3, 4, 2, 3, 3, 4, 3, 4, 4, 5, 1, 2, 2, 3, 2, 3, 3, 4, 2, 3, 3, 4, 3, 4, 4, 5, 2, 3, 3, 4, 3, 4, 4, 5, 3, 4, 4, 5, 4, 5, 5, 6] : List UInt8).append [1, 2, 2, 3, 2, 3, 3, 4, 2, 3, 3, 4, 3, 4, 4, 5, 2, 3, 3, 4, 3, 4, 4, 5, 3, 4, 4, 5, 4, 5, 5, 6, 2, 3, 3, 4, 3, 4, 4, 5, 3, 4, 4, 5, 4, 5, 5, 6, 3, 4, 4, 5, 4, 5, 5, 6, 4, 5, 5, 6, 5, 6, 6, 7] |>.append (([1, 2, 2, 3, 2, 3, 3, 4, 2, 3, 3, 4, 3, 4, 4, 5, 2, 3, 3, 4, 3, 4, 4, 5, 3, 4, 4, 5, 4, 5, 5, 6, 2, 3, 3, 4, 3, 4, 4, 5, 3, 4, 4, 5, 4, 5, 5, 6, 3, 4, 4, 5, 4, 5, 5, 6, 4, 5, 5, 6, 5, 6, 6, 7] : List UInt8).append [2, 3, 3, 4, 3, 4, 4, 5, 3, 4, 4, 5, 4, 5, 5, 6, 3, 4, 4, 5, 4, 5, 5, 6, 4, 5, 5, 6, 5, 6, 6, 7, 3, 4, 4, 5, 4, 5, 5, 6, 4, 5, 5, 6, 5, 6, 6, 7, 4, 5, 5, 6, 5, 6, 6, 7, 5, 6, 6, 7, 6, 7, 7, 8])).toArray⟩ : ByteArray) = Lib.pop8tab := by decide +kernel
theorem pop8_tab : ∀ n : Fin 256, Lib.pop8 (n.val : Int) = (pop8 n.val : Int) := by decide +kernel
theorem pop8_int (n : Nat) (h : n < 256) : Lib.pop8 (n : Int) = (pop8 n : Int) := pop8_tab ⟨n, h⟩
theorem pop8_le (n : Nat) : pop8 n ≤ 8 := by unfold pop8; exact Nat.le_trans List.countP_le_length (by simp)
theorem halves_int (s : Nat) (hs : s < 65536) : IntKind.u8.wrap (Lib.pop8 ((s : Int) / 256) + Lib.pop8 (bits .and .u16 (s : Int) 255)) = ((sz s : Nat) : Int) := by
  have e : bits .and .u16 (s : Int) 255 = ((s % 256 : Nat) : Int) := by
    have := u16_and_nat s 255 hs (by omega)
    rw [nat_mask8] at this
    exact this
  rw [e, IntKind.wrap_u8, ← sz_halves s]
  have h1 := pop8_int (s / 256) (by omega)
  have h2 := pop8_int (s % 256) (by omega)
  have h3 := pop8_le (s / 256)
  have h4 := pop8_le (s % 256)
  rw [show ((s / 256 : Nat) : Int) = (s : Int) / 256 from rfl] at h1
  rw [h1, h2]
  omega

set_option maxRecDepth 100000 in
theorem ones_calls (s : Nat) (w : World) (hs : s < 65536) : Calls Tryd.prog 34 #[.int .u16 (s : Int)] w (Ret (.int .i64 (sz s : Nat)) w) := by
  have hM := Aside.mk (halves_int s hs)
  have hm : bits .and .u16 (s : Int) 255 = ((s % 256 : Nat) : Int) := by
    have := u16_and_nat s 255 hs (by omega)
    rw [nat_mask8] at this
    exact this
  have g1 : 0 ≤ (s : Int) / 256 := by omega
  have g2 : (s : Int) / 256 ≤ 255 := by omega
  have h1 : 0 ≤ bits .and .u16 (s : Int) 255 := by rw [hm]; omega
  have h2 : bits .and .u16 (s : Int) 255 ≤ 255 := by rw [hm]; omega
  clear hm
  go_enter Tryd.func34, Tryd.ntmps34
  go_wp2
  simp only [fold_pop]
  go_quiet (fail)
  go_wp2
  go_ret
  exact Ret.intN (by rw [← hM.out, IntKind.wrap_u8])

theorem size_calls (s : Nat) (w : World) (hs : s < 65536) : Calls Tryd.prog 19 #[.int .u16 (s : Int)] w (Ret (.int .i64 (sz s : Nat)) w) := by
  go_enter Tryd.func19, Tryd.ntmps19
  go_wp2_with (go_at_call 34; refine (ones_calls _ _ hs).mono ?_; rintro e w1 ⟨rfl, m, rfl⟩)
  go_ret
  exact Ret.drawn _ _ _

/-- the variable that math/bits reads holds its table -/
def Tab (w : World) : Prop := ∀ j, j < 32 → w.cell? ⟨0, j, none⟩ = some (.int .u8 (tabOf.getD j 0))
theorem Tab.below {w w' : World} (h : Tab w) (hb : Below w.heap.size w w') : Tab w' := fun j hj => pw_cell_below hb (h j hj)

theorem tz_place (s t : Nat) (hs : s < 65536) (h0 : s ≠ 0) (hl : Low s t) :
    (bits .and .u16 (s : Int) (IntKind.u16.wrap (-(s : Int))) % 4294967296 * 125613361 % 4294967296 / 134217728).toNat = 2 ^ t * 125613361 % 4294967296 / 134217728 := by
  have e : IntKind.u16.wrap (-(s : Int)) = ((65536 - s : Nat) : Int) := by rw [IntKind.wrap_u16]; omega
  rw [e, u16_and_nat s _ hs (by omega), hl.iso]
  have h2 : 2 ^ t ≤ 2 ^ 15 := Nat.pow_le_pow_right (by decide) (by have := hl.lt; omega)
  generalize (2 : Nat) ^ t = q at *
  have e1 : (q : Int) % 4294967296 = q := by omega
  have e2 : ((q * 125613361 % 4294967296 / 134217728 : Nat) : Int) = (q : Int) * 125613361 % 4294967296 / 134217728 := by simp
  rw [e1, ← e2, Int.toNat_natCast]

set_option maxRecDepth 100000 in
theorem tz_calls (s t : Nat) (w : World) (hs : s < 65536) (h0 : s ≠ 0) (hT : Tab w) (hl : Low s t) : Calls Tryd.prog 35 #[.int .u16 (s : Int)] w (Ret (.int .i64 (t : Int)) w) := by
  have ht := hl.lt
  have hc : w.cell? ⟨0, (bits .and .u16 (s : Int) (IntKind.u16.wrap (-(s : Int))) % 4294967296 * 125613361 % 4294967296 / 134217728).toNat, none⟩ = some (.int .u8 (t : Int)) := by
    obtain ⟨h1, h2⟩ := tab_at t hl.lt
    rw [tz_place s t hs h0 hl, hT _ h1, h2]
  have hz : ((s : Int) == 0) = false := by simp; omega
  clear hT hl
  go_enter Tryd.func35, Tryd.ntmps35
  go_wp2
  go_ret
  exact Ret.same _ _

/-- Hands back a row of its own that holds xs; what was there is as it was. -/
def Made {α : Type} (d : Kd α) (e : Nat) (xs : List α) (w : World) (en : Ending) (w' : World) : Prop :=
  ∃ v, en = .returned v ∧ d.R e w' w.heap.size (fun _ => True) v xs ∧ Below w.heap.size w w'
/-- the members, as Go has them -/
def lstI (s : Nat) : List Int := (lst s).map fun (i : Nat) => (i : Int)
theorem lstI_length (s : Nat) : (lstI s).length = sz s := by unfold lstI; rw [List.length_map, lst_length]
theorem lst_le (s : Nat) : (lst s).length ≤ 16 := Nat.le_trans (List.length_filter_le _ _) (by simp)
theorem lstI_low {s t : Nat} (h : Low s t) : lstI s = (t : Int) :: lstI (s &&& (s - 1)) := by unfold lstI; rw [lst_low h]; rfl
theorem and_pred (m : Nat) (hm : m < 65536) (h0 : m ≠ 0) : bits .and .u16 (m : Int) ((m : Int) - 1) = ((m &&& (m - 1) : Nat) : Int) := by
  rw [← u16_and_nat m (m - 1) hm (by omega)]
  congr 1; omega
theorem info_u8 : (Tryd.prog.info? 5).map (fun i => (i.zero, i.size, i.bytes)) = some (some (.int .u8 0), 1, 1) := by kernel_rfl

set_option maxRecDepth 100000 in
/-- the walk through a set, member by member -/
theorem list_calls (s : Nat) (w : World) (hs : s < 65536) (hT : Tab w) :
    Calls Tryd.prog 20 #[.int .u16 (s : Int)] w (Made (Kd.int .u8) 5 (lstI s) w) := by
  have HT := Aside0.mk hT
  clear hT
  have HB := Aside0.mk (Below.refl w.heap.size w)
  go_enter Tryd.func20, Tryd.ntmps20
  go_wp2_with fail
  go_loopw [0, 3] (fun v0 v3 w' => ∃ (m : Nat) (xs : List Int), v0 = .int .u16 (m : Int) ∧ m < 65536 ∧ Aside0 (xs ++ lstI m = lstI s) ∧ Aside0 (Kd.R (Kd.int .u8) 5 w' w.heap.size (fun _ => True) v3 xs) ∧ Aside0 (Below w.heap.size w w')) (fun v0 _ _ => (intOf v0).toNat)
  case atStart => exact ⟨s, [], rfl, hs, ⟨rfl⟩, ⟨Kd.R_nil _ _ _ _ _⟩, HB⟩
  case round =>
    clear HB
    obtain ⟨m, xs, rfl, hm, HX, HO, HB⟩ := hrel
    by_cases h0 : m = 0
    · have hz : ((m : Int) != 0) = false := by simp; omega
      go_wp2
      go_ret
      exact ⟨_, rfl, by
        have := HX.out
        subst h0
        rw [show lstI 0 = [] from rfl, List.append_nil] at this
        rw [← this]; exact HO.out, HB.out⟩
    · have hz : ((m : Int) != 0) = true := by simp; omega
      have h1 : 1 ≤ (m : Int) := by omega
      obtain ⟨t, hl⟩ := low m h0 hm
      have ht := hl.lt
      have HL := Aside0.mk hl
      have HA := Aside0.mk (and_pred m hm h0)
      have HTr := Aside0.mk (Tab.below HT.out HB.out)
      clear hl
      go_wp2_with (first | (go_at_call 35; refine (tz_calls m t _ hm h0 HTr.out HL.out).mono ?_; rintro e w1 ⟨rfl, n, rfl⟩) | (at_builtin; refine Kd.R_append (Kd.int .u8) (w0 := w) w.heap.size rfl (.tmp 10) (.tmp 14) 31 5 (.int .u8 0) 1 rfl Tryd.underlying31 info_u8 rfl (by decide) (by omega) u3 xs (t : Int) [.int .u8 (t : Int)] (fun _ => True) (fun _ => False) rfl rfl ?aP (fun _ hk => hk.elim) ?aF ?aO ?aB ?aS ?aL ?_; (case aP => exact rfl); (case aF => exact fun _ _ => trivial); (case aO => exact Kd.R_drewN HO.out _); (case aB => exact pw_below_drewN HB.out _); (case aS => exact HB.out.size); (case aL => have := HX.out; have := congrArg List.length this; have := lst_le s; simp [lstI] at *; omega); intro v1 w1 ho hb hg hat; have HO1 := Aside0.mk ho; have HB1 := Aside0.mk hb; clear ho hb hg hat))
      go_roundw
      case rel =>
        refine ⟨m &&& (m - 1), xs ++ [(t : Int)], by rw [HA.out], Nat.lt_of_le_of_lt Nat.and_le_left hm, ⟨?_⟩, HO1, HB1⟩
        rw [List.append_assoc, ← HX.out, lstI_low HL.out]; rfl
      case measure =>
        rw [HA.out]
        have := low_less h0
        simp only [intOf]
        omega

/-- the set of members, taken one by one; none: one is above 15, or there twice -/
def ofGo (s : Nat) : List Int → Option Nat
  | [] => some s
  | x :: l => if 16 ≤ x ∨ hasB s x = true then none else ofGo (s ||| bitN x) l
def ofVal (r : Option Nat) : Value := .tuple #[.int .u16 ((r.getD 0 : Nat) : Int), .bool r.isSome]
theorem ofGo_drop (s k : Nat) (l : List Int) (hk : k < l.length) : ofGo s (l.drop k) = if 16 ≤ rd l k ∨ hasB s (rd l k) = true then none else ofGo (s ||| bitN (rd l k)) (l.drop (k + 1)) := by
  rw [List.drop_eq_getElem_cons hk]
  have : rd l (k : Int) = l[k] := by simp [rd, hk]
  rw [this]
  rfl

set_option maxRecDepth 100000 in
theorem of_calls (A : Option Addr) (c : Nat) (l : List Int) (w : World) (hr : Kd.C (Kd.int .u8) w A l.length l) (hl : ∀ x ∈ l, 0 ≤ x ∧ x ≤ 255) (hm : l.length ≤ 9223372036854775807) :
    Calls Tryd.prog 22 #[.slice A l.length c] w (Ret (ofVal (ofGo 0 l)) w) := by
  have HR := Aside0.mk hr
  have HL := Aside0.mk hl
  clear hr hl
  go_enter Tryd.func22, Tryd.ntmps22
  go_wp2_with fail
  go_loopw [4, 6, 9] (fun v4 v6 v9 w' => ∃ (s k : Nat), v4 = .int .u16 (s : Int) ∧ v9 = .int .i64 (k : Int) ∧ s < 65536 ∧ k ≤ l.length ∧ Aside0 (ofGo s (l.drop k) = ofGo 0 l) ∧ ∃ n, w' = w.drewN n) (fun _ _ v9 _ => l.length - (intOf v9).toNat)
  case atStart => exact ⟨0, 0, rfl, rfl, by omega, by omega, ⟨rfl⟩, 0, rfl⟩
  case round =>
    obtain ⟨s, k, rfl, rfl, hs, hk, HX, n, rfl⟩ := hrel
    by_cases hlt : k < l.length
    · obtain ⟨ad, ea, hx⟩ := Kd.at_int HR.out (k : Int) (by omega) (by omega)
      cases ea
      simp only [Int.toNat_natCast] at hx
      have hxr : 0 ≤ rd l k ∧ rd l k ≤ 255 := by
        have : rd l (k : Int) = l[k] := by simp [rd, hlt]
        rw [this]; exact HL.out _ (List.getElem_mem _)
      obtain ⟨x0, x1⟩ := hxr
      have HD := Aside0.mk (ofGo_drop s k l hlt)
      generalize hy : rd l (k : Int) = y at *
      have HY := Aside0.mk hy
      clear hy
      by_cases h16 : 16 ≤ y
      · have d16 : decide (16 ≤ y) = true := decide_eq_true h16
        go_wp2_with fail
        go_ret2
        exact ⟨by rw [← HX.out, HD.out]; simp [h16, ofVal], _, rfl⟩
      · have d16 : decide (16 ≤ y) = false := decide_eq_false h16
        cases hb : hasB s y with
        | true =>
          have HBt := Aside0.mk hb
          clear hb
          go_wp2_with (first | (go_at_call 21; refine (has_calls s y _ hs x0).mono ?_; rintro e w1 ⟨rfl, m, rfl⟩; rw [HBt.out]))
          go_ret2
          exact ⟨by rw [← HX.out, HD.out]; simp [HBt.out, ofVal], _, rfl⟩
        | false =>
          have HBt := Aside0.mk hb
          clear hb
          go_wp2_with (first | (go_at_call 21; refine (has_calls s y _ hs x0).mono ?_; rintro e w1 ⟨rfl, m, rfl⟩; rw [HBt.out]) | (go_at_call 25; refine (with_calls s y _ hs x0).mono ?_; rintro e w1 ⟨rfl, m', rfl⟩))
          go_roundw
          case rel => exact ⟨s ||| bitN y, k + 1, rfl, by go_num, Nat.or_lt_two_pow (n := 16) hs (bitN_lt y), by omega, ⟨by rw [← HX.out, HD.out, if_neg (by rw [HBt.out]; simp; omega)]⟩, _, rfl⟩
          case measure => simp [intOf]; omega
    · have hk2 : Aside0 (k = l.length) := ⟨by omega⟩
      have hge : l.length ≤ k := by omega
      go_wp2_with fail
      go_ret2
      exact ⟨by rw [← HX.out, hk2.out, List.drop_length]; rfl, _, rfl⟩

/-- some set, and its members -/
theorem of_some (l : List Int) (s : Nat) (h : ofGo 0 l = some s) : ofVal (ofGo 0 l) = .tuple #[.int .u16 (s : Int), .bool true] := by rw [h]; rfl
theorem of_none (l : List Int) (h : ofGo 0 l = none) : ofVal (ofGo 0 l) = .tuple #[.int .u16 0, .bool false] := by rw [h]; rfl

end Go.Proofs.YtnfmnhbcjapmpaaDoor.Cnt
