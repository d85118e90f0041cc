/- pack: low bytes, numbers. math/bits.Len64 of what is small. pack: numbers; what a field may be. -/
import Derived.Test.YtbaknecnkipooaaM10
import Derived.Test.YtbaknecnkipooaaProg
import Derived.Lib.Tables
import Derived.Test.YtbaknecnkipooaaM12
namespace Go.Proofs.Ytbaknecnkipooaa.Tld
open Go Go.RowKit Go.Proofs.YtbaknecnkipooaaW.PrintWords Go.Proofs.Ytbaknecnkipooaa.Sep Go.Proofs.Ytbaknecnkipooaa.Obj
set_option linter.unusedVariables false
set_option linter.unusedSimpArgs false
theorem infoB : (Try.prog.info? 5).map (fun i => (i.zero, i.size, i.bytes)) = some (some (.int .u8 0), 1, 1) := by kernel_rfl
def lowB : Nat → Nat → List Int
  | _, 0 => []
  | n, k + 1 => ((n : Int) % 256) :: lowB (n / 256) k
theorem lowB_len : ∀ k n, (lowB n k).length = k
  | 0, _ => rfl
  | k + 1, n => by simp [lowB, lowB_len k]
set_option maxHeartbeats 1000000 in
set_option maxRecDepth 100000 in
theorem low_calls (S : Nat → Prop) (w : World) (A : Option Addr) (c m : Nat) (bs : List Int) (n size : Nat) (h : OwnS S [Sep.row (Kd.int .u8) 5 (.slice A m c) bs] w w) (hm : m ≤ 100000) (hn : n < 18446744073709551616) (hs : size ≤ 8) :
    Calls Try.prog 48 #[.slice A m c, .int .u64 (n : Int), .int .i64 (size : Int)] w (fun e w' => ∃ A' c', e = .returned (.slice A' (m + size) c') ∧ OwnS S [Sep.row (Kd.int .u8) 5 (.slice A' (m + size) c') (bs ++ lowB n size)] w w') := by
  have HH : Aside0 (OwnS S [Sep.row (Kd.int .u8) 5 (.slice A m c) bs] w w) := ⟨h⟩
  have HM : Aside0 (bs.length = m) := ⟨(OwnS.len h 0 rfl).1.symm⟩
  clear h
  go_enter Try.func48, Try.ntmps48
  go_wp2_with fail
  go_loopw [0, 1, 8] (fun v0 v1 v8 W => ∃ (j x m2 : Nat) (A2 : Option Addr) (c2 : Nat) (b2 : List Int), v0 = .slice A2 m2 c2 ∧ v1 = .int .u64 (x : Int) ∧ v8 = .int .i64 (j : Int) ∧ j ≤ size ∧ x < 18446744073709551616 ∧ Aside0 (m2 = m + j) ∧ Aside0 (b2.length = m2) ∧ Aside0 (b2 ++ lowB x (size - j) = bs ++ lowB n size) ∧ Aside0 (OwnS S [Sep.row (Kd.int .u8) 5 (.slice A2 m2 c2) b2] w W)) (fun _ _ v8 _ => size - (intOf v8).toNat)
  case atStart => exact ⟨0, n, m, A, c, bs, rfl, rfl, rfl, Nat.zero_le _, hn, ⟨rfl⟩, HM, ⟨rfl⟩, HH⟩
  case round =>
    clear HH
    obtain ⟨j, x, m2, A2, c2, b2, rfl, rfl, rfl, hj, hx, HM2, HL2, HB2, HH⟩ := hrel
    have hm2 : m2 ≤ 100008 := by have := HM2.out; omega
    by_cases hlt : j < size
    · have q1 : (j : Int) < (size : Int) := by omega
      have hw : IntKind.u8.wrap (x : Int) = (x : Int) % 256 := by rw [IntKind.wrap_u8]
      go_wp2_with (first
      | (at_builtin; refine evS_appendR (Kd.int .u8) (oh HH) 0 rfl (.tmp 10) (.tmp 13) 23 5 (.int .u8 0) 1 rfl Try.underlying23 infoB rfl (by first | decide | exact Nat.succ_pos _) (by decide) (.slice A2 m2 c2) b2 ((x : Int) % 256) [.int .u8 ((x : Int) % 256)] rfl rfl ?_ ?_ ?_ ?_; (focus first | rfl | (simp [Act.eval]; done)); (focus exact fun _ => rfl); (focus have := HL2.out; omega); intro A9 c9 w11 hh; replace HH : Aside0 (OwnS S [Sep.row (Kd.int .u8) 5 (.slice A9 (b2.length + 1) c9) (b2 ++ [((x : Int) % 256)])] w w11) := ⟨hh⟩; clear hh)
      | fail
      | fail)
      go_roundw
      case rel =>
        have h9 := HB2.out
        rw [show size - j = (size - (j + 1)) + 1 by omega, lowB, List.append_cons] at h9
        exact ⟨j + 1, x / 256, b2.length + 1, A9, c9, _, rfl, by go_num, by go_num, by omega, by omega, ⟨by have := HM2.out; have := HL2.out; omega⟩, ⟨by rw [List.length_append]; rfl⟩, ⟨h9⟩, HH⟩
      case measure => simp [intOf]; omega
    · have q1 : ¬ ((j : Int) < (size : Int)) := by omega
      have hje : j = size := by omega
      go_wp2_with (first
      | (at_builtin; refine evS_appendR (Kd.int .u8) (oh HH) 0 rfl (.tmp 10) (.tmp 13) 23 5 (.int .u8 0) 1 rfl Try.underlying23 infoB rfl (by first | decide | exact Nat.succ_pos _) (by decide) (.slice A2 m2 c2) b2 ((x : Int) % 256) [.int .u8 ((x : Int) % 256)] rfl rfl ?_ ?_ ?_ ?_; (focus first | rfl | (simp [Act.eval]; done)); (focus exact fun _ => rfl); (focus have := HL2.out; omega); intro A9 c9 w11 hh; replace HH : Aside0 (OwnS S [Sep.row (Kd.int .u8) 5 (.slice A9 (b2.length + 1) c9) (b2 ++ [((x : Int) % 256)])] w w11) := ⟨hh⟩; clear hh)
      | fail
      | fail)
      go_ret
      subst hje
      have h9 := HB2.out
      rw [Nat.sub_self, lowB, List.append_nil] at h9
      have h8 := HH.out
      rw [h9, HM2.out] at h8
      exact ⟨A2, c2, by rw [← HM2.out]; rfl, h8⟩
end Go.Proofs.Ytbaknecnkipooaa.Tld
namespace Go.Proofs.Ytbaknecnkipooaa.Tld
open Go Go.RowKit Go.Proofs.YtbaknecnkipooaaW.PrintWords Go.Proofs.Ytbaknecnkipooaa.Sep Go.Proofs.Ytbaknecnkipooaa.Obj
set_option linter.unusedVariables false
set_option linter.unusedSimpArgs false
theorem fold_len : (⟨(([0, 1, 2, 2, 3, 3, 3, 3, 4, 4, 4, 4, 4, 4, 4, 4, 5, 5, 5, 5, 5, 5, 5, 5, 5, 5, 5, 5, 5, 5, 5, 5, 6, 6, 6, 6, 6, 6, 6, 6, 6, 6, 6, 6, 6, 6, 6, 6, 6, 6, 6, 6, 6, 6, 6, 6, 6, 6, 6, 6, 6, 6, 6, 6] : List UInt8).append [7, 7, 7, 7, 7, 7, 7, 7, 7, 7, 7, 7, 7, 7, 7, 7, 7, 7, 7, 7, 7, 7, 7, 7, 7, 7, 7, 7, 7, 7, 7, 7, 7, 7, 7, 7, 7, 7, 7, 7, 7, 7, 7, 7, 7, 7, 7, 7, 7, 7, 7, 7, 7, 7, 7, 7, 7, 7, 7, 7, 7, 7, 7, 7] |>.append (([8, 8, 8, 8, 8, 8, 8, 8, 8, 8, 8, 8, 8, 8, 8, 8, 8, 8, 8, 8, 8, 8, 8, 8, 8, 8, 8, 8, 8, 8, 8, 8, 8, 8, 8, 8, 8, 8, 8, 8, 8, 8, 8, 8, 8, 8, 8, 8, 8, 8, 8, 8, 8, 8, 8, 8, 8, 8, 8, 8, 8, 8, 8, 8]).append [8, 8, 8, 8, 8, 8, 8, 8, 8, 8, 8, 8, 8, 8, 8, 8, 8, 8, 8, 8, 8, 8, 8, 8, 8, 8, 8, 8, 8, 8, 8, 8, 8, 8, 8, 8, 8, 8, 8, 8, 8, 8, 8, 8, 8, 8, 8, 8, 8, 8, 8, 8, 8, 8, 8, 8, 8, 8, 8, 8, 8, 8, 8, 8])).toArray⟩ : ByteArray) = Lib.len8tab := by kernel_rfl
theorem len8_tab : ∀ n : Fin 256, 0 ≤ Lib.len8 (n.val : Int) ∧ Lib.len8 (n.val : Int) ≤ 8 ∧ (n.val ≠ 0 → 1 ≤ Lib.len8 (n.val : Int)) ∧ (n.val = 0 → Lib.len8 (n.val : Int) = 0) := by decide +kernel
theorem ev_len8 {P : Program} {ops : Array Oper} {rest : List Oper} {o : Oper} {a : Act} {Q : Exit → Act → World → Prop} {W : World} (hgd : o.guard = none) {t : TypeId} {x i : Operand} (ho : o.op = .index t x i) (hx : a.eval x = .string Lib.len8tab) {v : Int} (hi : a.eval i = .int .u8 v) (ht : P.underlying t = some .string) (h0 : 0 ≤ v) (h1 : v ≤ 255) (L : Int) (hL : Lib.len8 v = L)
    (h : wpList P ops Q rest (a.put o.dst (.int .u8 L)) W) : wpList P ops Q (o :: rest) a W := by
  have hr := Lib.run_index_len8tab (P := P) W t .u8 v ht h0 h1
  refine Kd.event_run hgd (v := .int .u8 L) (w1 := W) ?_ h
  rw [hL] at hr
  simp only [execOp, ho, hx, hi, Sem.run_bind, Sem.run_pure, Result.andThen_ok, hr]
theorem len8_x (x : Int) (h0 : 0 ≤ x) (h1 : x < 256) : ∃ L : Int, Lib.len8 x = L ∧ 0 ≤ L ∧ L ≤ 8 ∧ (x ≠ 0 → 1 ≤ L) ∧ (x = 0 → L = 0) := by
  obtain ⟨n, rfl⟩ := Int.eq_ofNat_of_zero_le h0
  obtain ⟨t0, t1, t2, t3⟩ := len8_tab ⟨n, by omega⟩
  simp only at t0 t1 t2 t3
  exact ⟨_, rfl, t0, t1, fun h => t2 (by omega), fun h => t3 (by omega)⟩
def sizeI (x : Int) : Int := if x = 0 then 0 else if x < 256 then 1 else 2
theorem size_of {x L : Int} (h : x < 256) (t0 : 0 ≤ L) (t1 : L ≤ 8) (t2 : x ≠ 0 → 1 ≤ L) (t3 : x = 0 → L = 0) : (L + 7) / 8 = sizeI x := by
  unfold sizeI
  by_cases e : x = 0
  · rw [if_pos e, t3 e]; rfl
  · have := t2 e
    rw [if_neg e, if_pos h]
    omega
set_option maxHeartbeats 1000000 in
set_option maxRecDepth 100000 in
theorem len_calls (w : World) (x : Int) (h0 : 0 ≤ x) (h1 : x < 65536) : Calls Try.prog 69 #[.int .u64 x] w (fun e w' => ∃ L : Int, e = .returned (.int .i64 L) ∧ w' = w ∧ 0 ≤ L ∧ L ≤ 64 ∧ (L + 7) / 8 = sizeI x) := by
  have q1 : x < 4294967296 := by omega
  go_enter Try.func69, Try.ntmps69
  simp only [fold_len]
  by_cases h : x < 256
  · obtain ⟨L, hL, t0, t1, t2, t3⟩ := len8_x x h0 h
    have g2 : x ≤ 255 := by omega
    have hw : IntKind.u8.wrap x = x := by rw [IntKind.wrap_u8]; omega
    have hv : IntKind.i64.wrap L = L := by rw [IntKind.wrap_i64]; omega
    have HR : Aside0 ((L + 7) / 8 = sizeI x) := ⟨size_of h t0 t1 t2 t3⟩
    clear t2 t3
    go_wp2_with (first | ((with_reducible refine gate_dst (N := 22) rfl ?_); refine ev_len8 rfl rfl rfl rfl Try.underlying9 h0 g2 L hL ?_) | fail)
    go_ret
    exact ⟨L, rfl, rfl, t0, by omega, HR.out⟩
  · obtain ⟨y, hy⟩ : ∃ y, x / 256 = y := ⟨_, rfl⟩
    have y0 : 0 ≤ y := by omega
    have y1 : y < 256 := by omega
    have y2 : y ≠ 0 := by omega
    obtain ⟨L, hL, t0, t1, t2, t3⟩ := len8_x y y0 y1
    have g2 : y ≤ 255 := by omega
    have hw : IntKind.u8.wrap y = y := by rw [IntKind.wrap_u8]; omega
    have hv : IntKind.i64.wrap L = L := by rw [IntKind.wrap_i64]; omega
    have t4 := t2 y2
    have HR : Aside0 ((8 + L + 7) / 8 = sizeI x) := ⟨by unfold sizeI; rw [if_neg (by omega), if_neg h]; omega⟩
    clear t2 t3
    go_wp2_with (first | ((with_reducible refine gate_dst (N := 22) rfl ?_); refine ev_len8 rfl rfl rfl rfl Try.underlying9 y0 g2 L hL ?_) | fail)
    go_ret
    exact ⟨8 + L, rfl, rfl, by omega, by omega, HR.out⟩
end Go.Proofs.Ytbaknecnkipooaa.Tld
namespace Go.Proofs.Ytbaknecnkipooaa.Tld
open Go Go.RowKit Go.Proofs.YtbaknecnkipooaaW.PrintWords Go.Proofs.Ytbaknecnkipooaa.Sep Go.Proofs.Ytbaknecnkipooaa.Obj
set_option linter.unusedVariables false
set_option linter.unusedSimpArgs false
def sizeB (n : Nat) : Nat := (sizeI (n : Int)).toNat
def numB (n : Nat) : List Int := (sizeB n : Int) :: lowB n (sizeB n)
theorem sizeI_two (x : Int) : 0 ≤ sizeI x ∧ sizeI x ≤ 2 := by unfold sizeI; split; · omega
                                                              · split <;> omega
set_option maxHeartbeats 1000000 in
set_option maxRecDepth 100000 in
theorem number_calls (S : Nat → Prop) (w : World) (A : Option Addr) (c m : Nat) (bs : List Int) (n : Nat) (h : OwnS S [Sep.row (Kd.int .u8) 5 (.slice A m c) bs] w w) (hm : m ≤ 90000) (hn : n < 65536) :
    Calls Try.prog 47 #[.slice A m c, .int .u64 (n : Int)] w (fun e w' => ∃ A' c' m', m' = (bs ++ numB n).length ∧ e = .returned (.slice A' m' c') ∧ OwnS S [Sep.row (Kd.int .u8) 5 (.slice A' m' c') (bs ++ numB n)] w w') := by
  have HH : Aside0 (OwnS S [Sep.row (Kd.int .u8) 5 (.slice A m c) bs] w w) := ⟨h⟩
  have HM : Aside0 (bs.length = m) := ⟨(OwnS.len h 0 rfl).1.symm⟩
  have hn0 : 0 ≤ (n : Int) := by omega
  have hn1 : (n : Int) < 65536 := by omega
  have hn2 : n < 18446744073709551616 := by omega
  obtain ⟨z, hz⟩ : ∃ z, sizeB n = z := ⟨_, rfl⟩
  have hz2 := sizeI_two (n : Int)
  have HZ : Aside0 (sizeI (n : Int) = (z : Int)) := ⟨by unfold sizeB at hz; omega⟩
  have hz3 : z ≤ 2 := by unfold sizeB at hz; omega
  have HZB := Aside0.mk hz
  have hw1 : IntKind.u8.wrap (z : Int) = (z : Int) := by rw [IntKind.wrap_u8]; omega
  have hw2 : IntKind.i64.wrap (z : Int) = (z : Int) := by rw [IntKind.wrap_i64]; omega
  have HN2 := Aside0.mk hn2
  have HN0 := Aside0.mk hn0
  have HN1 := Aside0.mk hn1
  clear h hz hz2 hn hn0 hn1 hn2
  go_enter Try.func47, Try.ntmps47
  go_wp2_with (first
  | (go_at_call 69; refine (len_calls _ (n : Int) HN0.out HN1.out).mono ?_; rintro e w1 ⟨L, rfl, hww, hL0, hL1, hL2⟩; have hwx := hww.symm; clear hww; subst hwx; have hdv : Int.tdiv (L + 7) 8 = (z : Int) := (by rw [Int.tdiv_eq_ediv_of_nonneg (by omega), hL2, HZ.out]); have hv1 : IntKind.i64.wrap (L + 7) = L + 7 := (by rw [IntKind.wrap_i64]; omega))
  | (at_builtin; refine evS_appendR (Kd.int .u8) (oh HH) 0 rfl (.tmp 10) (.tmp 13) 23 5 (.int .u8 0) 1 rfl Try.underlying23 infoB rfl (by first | decide | exact Nat.succ_pos _) (by decide) (.slice A m c) bs (z : Int) [.int .u8 (z : Int)] rfl rfl ?_ ?_ ?_ ?_; (focus first | rfl | (simp [Act.eval]; done)); (focus exact fun _ => rfl); (focus have := HM.out; omega); intro A9 c9 w1 hh; replace HH : Aside0 (OwnS S [Sep.row (Kd.int .u8) 5 (.slice A9 (bs.length + 1) c9) (bs ++ [(z : Int)])] w w1) := ⟨hh⟩; clear hh)
  | (go_at_call 48; refine ownS_call (oh HH) ?_; intro ht; obtain ⟨S3, h3, hput⟩ := ownS_part (As := [Sep.row (Kd.int .u8) 5 (.slice A9 (bs.length + 1) c9) (bs ++ [(z : Int)])]) (Cs := []) ht; refine (low_calls S3 _ A9 c9 (bs.length + 1) (bs ++ [(z : Int)]) n z h3 (by have := HM.out; omega) HN2.out (by omega)).mono ?_; rintro e w2 ⟨A7, c7, rfl, ho⟩; replace HH : Aside0 (OwnS S [Sep.row (Kd.int .u8) 5 (.slice A7 (bs.length + 1 + z) c7) (bs ++ [(z : Int)] ++ lowB n z)] w w2) := ⟨hput _ _ ho⟩; clear ht h3 hput ho)
  | fail
  | fail)
  go_ret
  have h9 := HH.out
  have e : bs ++ [(z : Int)] ++ lowB n z = bs ++ numB n := by unfold numB; rw [HZB.out, List.append_assoc]; rfl
  have e2 : (bs ++ numB n).length = bs.length + 1 + z := by rw [← e, List.length_append, List.length_append, lowB_len]; rfl
  rw [e] at h9
  exact ⟨A7, c7, _, e2.symm, rfl, h9⟩
theorem frm_below {w w' : World} (h : Frm (fun _ => False) w w') : Below w.heap.size w w' := ⟨h.os, h.tape, h.output, h.size, fun k hk => h.block k hk (fun e => e)⟩
theorem bits_run (w : World) : (callFunc 67 #[.float .f64 0]).run Try.prog w = .ok (.value (.int .u64 0)) w := by
  rw [run_callFunc_extern (e := Extern.MathFloatBits.float64bits) Try.func67 (by kernel_rfl) (by kernel_rfl) (by kernel_rfl) (by kernel_rfl)]
  rfl
set_option maxHeartbeats 1000000 in
set_option maxRecDepth 100000 in
theorem mayNum_calls (w : World) (n : Int) : Calls Try.prog 46 #[.agg #[.int .i64 1, .int .u64 n, .string ⟨#[]⟩, .float .f64 0]] w (fun e w' => e = .returned (.bool true) ∧ Below w.heap.size w w') := by
  have HH : Aside0 (OwnS (fun _ => False) [] w w) := ⟨OwnS.of_own (Own.start w)⟩
  have hbits := bits_run
  go_enter Try.func46, Try.ntmps46
  go_wp2_with (first
    | ((with_reducible refine gate_dst (N := 1) rfl ?_); refine evS_box (oh HH) rfl (cs := #[.int .i64 1, .int .u64 n, .string ⟨#[]⟩, .float .f64 0]) (T := 72) ?_ ?_; (focus first | (go_simp; done) | (go_simp; rfl)); intro g1 w1 he hh; clear he; replace HH : Aside0 (OwnS (fun _ => False) [Sep.blk g1 #[.int .i64 1, .int .u64 n, .string ⟨#[]⟩, .float .f64 0] 72] w w1) := ⟨hh⟩; clear hh)
    | ((with_reducible refine gate_ (.load 70 (.tmp 4)) rfl ?_); refine ev_cell (blk_cell (OwnS.blk (oh HH) 0 rfl) 3) rfl rfl (by rfl) Try.underlying70 rfl ?_)
    | ((with_reducible refine gate_ (.load 3 (.tmp 7)) rfl ?_); refine ev_cell (blk_cell (OwnS.blk (oh HH) 0 rfl) 0) rfl rfl (by rfl) Try.underlying3 rfl ?_)
    | ((with_reducible refine gate_ (.load 9 (.tmp 11)) rfl ?_); refine ev_cell (blk_cell (OwnS.blk (oh HH) 0 rfl) 2) rfl rfl (by rfl) Try.underlying9 rfl ?_)
    | fail
    | fail)
  go_ret
  exact ⟨rfl, frm_below (OwnS.frm HH.out)⟩
set_option maxHeartbeats 1000000 in
set_option maxRecDepth 100000 in
theorem mayTxt_calls (w : World) (t : ByteArray) (ht : t.size ≤ 2000) : Calls Try.prog 46 #[.agg #[.int .i64 2, .int .u64 0, .string t, .float .f64 0]] w (fun e w' => e = .returned (.bool true) ∧ Below w.heap.size w w') := by
  have HH : Aside0 (OwnS (fun _ => False) [] w w) := ⟨OwnS.of_own (Own.start w)⟩
  have hbits := bits_run
  go_enter Try.func46, Try.ntmps46
  go_wp2_with (first
    | ((with_reducible refine gate_dst (N := 1) rfl ?_); refine evS_box (oh HH) rfl (cs := #[.int .i64 2, .int .u64 0, .string t, .float .f64 0]) (T := 72) ?_ ?_; (focus first | (go_simp; done) | (go_simp; rfl)); intro g1 w1 he hh; clear he; replace HH : Aside0 (OwnS (fun _ => False) [Sep.blk g1 #[.int .i64 2, .int .u64 0, .string t, .float .f64 0] 72] w w1) := ⟨hh⟩; clear hh)
    | ((with_reducible refine gate_ (.load 70 (.tmp 4)) rfl ?_); refine ev_cell (blk_cell (OwnS.blk (oh HH) 0 rfl) 3) rfl rfl (by rfl) Try.underlying70 rfl ?_)
    | ((with_reducible refine gate_ (.load 3 (.tmp 7)) rfl ?_); refine ev_cell (blk_cell (OwnS.blk (oh HH) 0 rfl) 0) rfl rfl (by rfl) Try.underlying3 rfl ?_)
    | ((with_reducible refine gate_ (.load 69 (.tmp 20)) rfl ?_); refine ev_cell (blk_cell (OwnS.blk (oh HH) 0 rfl) 1) rfl rfl (by rfl) Try.underlying69 rfl ?_; have fc1 : w1.cell? ⟨g1, 2, none⟩ = some (.string t) := blk_cell (OwnS.blk HH.out 0 rfl) 2)
    | fail
    | fail)
  go_ret
  refine ⟨?_, frm_below (OwnS.frm HH.out)⟩
  show Ending.returned (.bool (decide ((t.size : Int) ≤ 2000))) = _
  rw [decide_eq_true (by omega)]
end Go.Proofs.Ytbaknecnkipooaa.Tld
