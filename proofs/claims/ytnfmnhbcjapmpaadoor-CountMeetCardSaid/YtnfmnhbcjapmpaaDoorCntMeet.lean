/- The walk of CountMeet. -/
import Derived.Test.YtnfmnhbcjapmpaaDoorCntSets
import Derived.Test.YtnfmnhbcjapmpaaDoorOpen
namespace Go.Proofs.YtnfmnhbcjapmpaaDoor.Cnt
open Go.RowKit Go.Proofs.YtnfmnhbcjapmpaaDoorW.PrintWords

set_option maxHeartbeats 8000000 in
set_option maxRecDepth 100000 in
theorem meet_calls (n : Int) (a b c : Nat) (w : World) (h0 : 0 ≤ n) (h1 : n ≤ 255) (ha : a < 65536) (hb : b < 65536) (hc : c < 65536) (hT : Tab w) :
    Calls Tryd.prog 4 #[.int .u8 n, .agg #[.int .u16 (a : Int), .int .u16 (b : Int), .int .u16 (c : Int)]] w (Holds w) := by
  have HT := Aside0.mk hT
  have HB0 := Aside0.mk (Below.refl w.heap.size w)
  clear hT
  obtain ⟨m, hm⟩ : ∃ m : Nat, n % 16 + 1 = (m : Int) := ⟨(n % 16 + 1).toNat, by omega⟩
  have m1 : 1 ≤ m := by omega
  have m2 : m ≤ 16 := by omega
  have HM := Aside0.mk (meets a b c m m1 m2)
  have hall : IntKind.u16.wrap (IntKind.u16.wrap (2 ^ m) - 1) = ((allN m : Nat) : Int) := by
    have := all_wrap (m : Int) m m2 rfl
    rwa [Int.toNat_natCast, Nat.min_eq_left m2] at this
  have la := allN_lt m m2
  have hsz := sz_all m m2
  have hf := faulty_range (m : Int)
  have he : echoes (m : Int) = ((m : Int) + faulty m) / 2 + 1 := by unfold echoes; rw [held_in m (by omega) (by omega)]
  have he1 : 0 ≤ echoes (m : Int) := by omega
  have he2 : echoes (m : Int) ≤ 20 := by omega
  have h3f : 3 * faulty (m : Int) + 1 ≤ m := by
    have : faulty m = ((m : Int) - 1) / 3 := by unfold faulty; rw [held_in m (by omega) (by omega)]
    omega
  have E1 := u16_and_nat a (allN m) ha la
  have E2 := u16_and_nat b (allN m) hb la
  have E3 := u16_and_nat c (allN m) hc la
  obtain ⟨x, hx⟩ : ∃ x, a &&& allN m = x := ⟨_, rfl⟩
  obtain ⟨y, hy⟩ : ∃ x, b &&& allN m = x := ⟨_, rfl⟩
  obtain ⟨z, hz⟩ : ∃ x, c &&& allN m = x := ⟨_, rfl⟩
  rw [hx] at E1 HM
  rw [hy] at E2 HM
  rw [hz] at E3 HM
  have lx : x < 65536 := by rw [← hx]; exact Nat.lt_of_le_of_lt Nat.and_le_left ha
  have ly : y < 65536 := by rw [← hy]; exact Nat.lt_of_le_of_lt Nat.and_le_left hb
  have lz : z < 65536 := by rw [← hz]; exact Nat.lt_of_le_of_lt Nat.and_le_left hc
  generalize allN m = all at *
  have E4 := u16_and_nat x y lx ly
  have E5 := u16_andNot_nat all z la lz
  obtain ⟨q, hq⟩ : ∃ q, x &&& y = q := ⟨_, rfl⟩
  obtain ⟨r, hr⟩ : ∃ q, all &&& (65535 - z) = q := ⟨_, rfl⟩
  have lr : r < 65536 := by rw [← hr]; exact Nat.lt_of_le_of_lt Nat.and_le_left la
  have lq : q < 65536 := by rw [← hq]; exact Nat.lt_of_le_of_lt Nat.and_le_left lx
  rw [hq] at E4 HM
  rw [hr] at E5 HM
  have E6 := u16_and_nat x r lx lr
  obtain ⟨v, hv⟩ : ∃ q, x &&& r = q := ⟨_, rfl⟩
  have lv : v < 65536 := by rw [← hv]; exact Nat.lt_of_le_of_lt Nat.and_le_left lx
  rw [hv] at E6 HM
  have zx := sz_le x
  have zy := sz_le y
  have zz := sz_le z
  have zq := sz_le q
  have zr := sz_le r
  have zv := sz_le v
  have hz0 : (sz v : Int) > 0 → ((v : Int) == 0) = false := by
    intro h
    have : v ≠ 0 := by rintro rfl; revert h; decide
    simp; omega
  have bsz : ((m : Int) != (m : Int)) = false := by simp
  have HSZ := Aside0.mk hsz
  have HZ0 := Aside0.mk hz0
  clear hx hy hz hq hr hv hsz hz0 he
  obtain ⟨M1, M2, M3, M4⟩ := HM.out
  have hA : Aside0 ((sz x : Int) < echoes m ∨ (echoes m ≤ (sz x : Int) ∧ (sz y : Int) < echoes m) ∨ (echoes m ≤ (sz x : Int) ∧ echoes m ≤ (sz y : Int) ∧ faulty m < (sz q : Int))) := ⟨by
    by_cases p1 : echoes m ≤ (sz x : Int)
    · by_cases p2 : echoes m ≤ (sz y : Int)
      · exact Or.inr (Or.inr ⟨p1, p2, M1 p1 p2⟩)
      · exact Or.inr (Or.inl ⟨p1, by omega⟩)
    · exact Or.inl (by omega)⟩
  have hBc : Aside0 (faulty m < (sz z : Int) ∨ ((sz z : Int) ≤ faulty m ∧ echoes m ≤ (sz r : Int) ∧ 2 * faulty m + 1 ≤ (sz r : Int) ∧ (((sz x : Int) < faulty m + 1 ∧ (sz x : Int) < 2 * faulty m + 1) ∨ (faulty m + 1 ≤ (sz x : Int) ∧ (sz x : Int) < 2 * faulty m + 1 ∧ ((v : Int) == 0) = false) ∨ (faulty m + 1 ≤ (sz x : Int) ∧ 2 * faulty m + 1 ≤ (sz x : Int) ∧ faulty m + 1 ≤ (sz v : Int) ∧ ((v : Int) == 0) = false)))) := ⟨by
    by_cases p3 : (sz z : Int) ≤ faulty m
    · obtain ⟨r1, r2⟩ := M2 p3
      refine Or.inr ⟨p3, r1, r2, ?_⟩
      by_cases p5 : faulty m + 1 ≤ (sz x : Int)
      · have v0 := HZ0.out (M4 p3 p5)
        by_cases p4 : 2 * faulty m + 1 ≤ (sz x : Int)
        · exact Or.inr (Or.inr ⟨p5, p4, M3 p3 p4, v0⟩)
        · exact Or.inr (Or.inl ⟨p5, by omega, v0⟩)
      · exact Or.inl ⟨by omega, by omega⟩
    · exact Or.inl (by omega)⟩
  clear HM M1 M2 M3 M4 HZ0
  go_enter Tryd.func4, Tryd.ntmps4
  go_wp2_with (first
    | (go_at_call 10; refine (alive_calls _ ?hT).mono ?_; (case hT => exact Tab.below HT.out (by repeat (first | exact HB0.out | apply below_alloc | apply pw_below_drewN | apply below_drew))); rintro e w1 ⟨rfl, hb⟩; have HB := Aside0.mk hb; clear hb)
    | (go_at_call 11; refine (faulty_calls _ _).mono ?_; rintro e w2 ⟨rfl, m', rfl⟩))
  have c0 := pw_cell_below HB.out (show (w.alloc (.cells #[.int .u16 (a : Int), .int .u16 (b : Int), .int .u16 (c : Int)] 27)).cell? ⟨w.heap.size, 0, none⟩ = some (.int .u16 (a : Int)) from by simp)
  have c1 := pw_cell_below HB.out (show (w.alloc (.cells #[.int .u16 (a : Int), .int .u16 (b : Int), .int .u16 (c : Int)] 27)).cell? ⟨w.heap.size, 1, none⟩ = some (.int .u16 (b : Int)) from by simp)
  have c2 := pw_cell_below HB.out (show (w.alloc (.cells #[.int .u16 (a : Int), .int .u16 (b : Int), .int .u16 (c : Int)] 27)).cell? ⟨w.heap.size, 2, none⟩ = some (.int .u16 (c : Int)) from by simp)
  go_quiet (fail)
  rcases hA.out with p1 | ⟨p1, p2⟩ | ⟨p1, p2, p3⟩
  all_goals rcases hBc.out with q1 | ⟨q1, q2, q3, ⟨q4, q5⟩ | ⟨q4, q5, q6⟩ | ⟨q4, q5, q6, q7⟩⟩
  all_goals clear hA hBc
  all_goals go_wp2_with (first
    | (go_at_call 19; (with_reducible refine (size_calls all _ la).mono ?_); rintro e w3 ⟨rfl, m', rfl⟩; rw [HSZ.out])
    | (go_at_call 19; (with_reducible refine (size_calls x _ lx).mono ?_); rintro e w3 ⟨rfl, m', rfl⟩)
    | (go_at_call 19; (with_reducible refine (size_calls y _ ly).mono ?_); rintro e w3 ⟨rfl, m', rfl⟩)
    | (go_at_call 19; (with_reducible refine (size_calls z _ lz).mono ?_); rintro e w3 ⟨rfl, m', rfl⟩)
    | (go_at_call 19; (with_reducible refine (size_calls q _ lq).mono ?_); rintro e w3 ⟨rfl, m', rfl⟩)
    | (go_at_call 19; (with_reducible refine (size_calls r _ lr).mono ?_); rintro e w3 ⟨rfl, m', rfl⟩)
    | (go_at_call 19; (with_reducible refine (size_calls v _ lv).mono ?_); rintro e w3 ⟨rfl, m', rfl⟩)
    | (go_at_call 13; refine (echoes_calls _ _).mono ?_; rintro e w3 ⟨rfl, m', rfl⟩)
    | (go_at_call 15; refine (readies_calls _ _).mono ?_; rintro e w3 ⟨rfl, m', rfl⟩)
    | (go_at_call 17; refine (enough_calls _ _).mono ?_; rintro e w3 ⟨rfl, m', rfl⟩))
  all_goals go_ret
  all_goals exact ⟨rfl, pw_below_drewN (below_back HB.out (below_alloc HB0.out _)) _⟩

theorem meet_row (xs : List Int) (hn : xs.length = 3) (hw : ∀ x ∈ xs, (Lit.int .u16 x).wf = true) (n : Int) (w : World) (h0 : 0 ≤ n) (h1 : n ≤ 255) (hT : Tab w) :
    Calls Tryd.prog 4 #[.int .u8 n, .agg (nums .u16 xs).toArray] w (Holds w) := by
  match xs, hn with
  | [x0, x1, x2], _ =>
    obtain ⟨a, rfl, ha⟩ := Opn.nat_u16 (hw x0 (by simp))
    obtain ⟨b, rfl, hb⟩ := Opn.nat_u16 (hw x1 (by simp))
    obtain ⟨c, rfl, hc⟩ := Opn.nat_u16 (hw x2 (by simp))
    exact meet_calls n a b c w h0 h1 ha hb hc hT

end Go.Proofs.YtnfmnhbcjapmpaaDoor.Cnt
