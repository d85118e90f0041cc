/- count.List: the walk. -/
import Derived.Test.YtbaknecnkipooaaDoorCntBase
namespace Go.Proofs.YtbaknecnkipooaaDoor.Cnt
open Go.RowKit Go.Proofs.YtbaknecnkipooaaDoorW.PrintWords

/-- the variable that math/bits reads holds its table -/
def Tab (w : World) : Prop := ∀ j, j < 32 → w.cell? ⟨0, j, none⟩ = some (.int .u8 (tabOf.getD j 0))
theorem Tab.below {w w' : World} (h : Tab w) (hb : Below w.heap.size w w') : Tab w' := fun j hj => pw_cell_below hb (h j hj)

theorem tz_place (s t : Nat) (hs : s < 65536) (h0 : s ≠ 0) (hl : Low s t) :
    (bits .and .u16 (s : Int) (IntKind.u16.wrap (-(s : Int))) % 4294967296 * 125613361 % 4294967296 / 134217728).toNat = 2 ^ t * 125613361 % 4294967296 / 134217728 := by
  have e : IntKind.u16.wrap (-(s : Int)) = ((65536 - s : Nat) : Int) := by rw [IntKind.wrap_u16]; omega
  rw [e, u16_and_nat s _ hs (by omega), hl.iso]
  have h2 : 2 ^ t ≤ 2 ^ 15 := Nat.pow_le_pow_right (by decide) (by have := hl.lt; omega)
  generalize (2 : Nat) ^ t = q at *
  have e1 : (q : Int) % 4294967296 = q := by omega
  have e2 : ((q * 125613361 % 4294967296 / 134217728 : Nat) : Int) = (q : Int) * 125613361 % 4294967296 / 134217728 := by simp
  rw [e1, ← e2, Int.toNat_natCast]

set_option maxRecDepth 100000 in
theorem tz_calls (s t : Nat) (w : World) (hs : s < 65536) (h0 : s ≠ 0) (hT : Tab w) (hl : Low s t) : Calls Tryd.prog 11 #[.int .u16 (s : Int)] w (Ret (.int .i64 (t : Int)) w) := by
  have ht := hl.lt
  have hc : w.cell? ⟨0, (bits .and .u16 (s : Int) (IntKind.u16.wrap (-(s : Int))) % 4294967296 * 125613361 % 4294967296 / 134217728).toNat, none⟩ = some (.int .u8 (t : Int)) := by
    obtain ⟨h1, h2⟩ := tab_at t hl.lt
    rw [tz_place s t hs h0 hl, hT _ h1, h2]
  have hz : ((s : Int) == 0) = false := by simp; omega
  clear hT hl
  go_enter Tryd.func11, Tryd.ntmps11
  go_wp2
  go_ret
  exact Ret.same _ _

theorem lstI_low {s t : Nat} (h : Low s t) : lstI s = (t : Int) :: lstI (s &&& (s - 1)) := by unfold lstI; rw [lst_low h]; rfl
theorem and_pred (m : Nat) (hm : m < 65536) (h0 : m ≠ 0) : bits .and .u16 (m : Int) ((m : Int) - 1) = ((m &&& (m - 1) : Nat) : Int) := by
  rw [← u16_and_nat m (m - 1) hm (by omega)]
  congr 1; omega
set_option maxRecDepth 100000 in
/-- the walk through a set, member by member -/
theorem list_calls (s : Nat) (w : World) (hs : s < 65536) (hT : Tab w) :
    Calls Tryd.prog 7 #[.int .u16 (s : Int)] w (Made (Kd.int .u8) 5 (lstI s) w) := by
  have HT := Aside0.mk hT
  clear hT
  have HB := Aside0.mk (Below.refl w.heap.size w)
  go_enter Tryd.func7, Tryd.ntmps7
  go_wp2_with fail
  go_loopw [0, 3] (fun v0 v3 w' => ∃ (m : Nat) (xs : List Int), v0 = .int .u16 (m : Int) ∧ m < 65536 ∧ Aside0 (xs ++ lstI m = lstI s) ∧ Aside0 (Kd.R (Kd.int .u8) 5 w' w.heap.size (fun _ => True) v3 xs) ∧ Aside0 (Below w.heap.size w w')) (fun v0 _ _ => (intOf v0).toNat)
  case atStart => exact ⟨s, [], rfl, hs, ⟨rfl⟩, ⟨Kd.R_nil _ _ _ _ _⟩, HB⟩
  case round =>
    clear HB
    obtain ⟨m, xs, rfl, hm, HX, HO, HB⟩ := hrel
    by_cases h0 : m = 0
    · have hz : ((m : Int) != 0) = false := by simp; omega
      go_wp2
      go_ret
      exact ⟨_, rfl, by
        have := HX.out
        subst h0
        rw [show lstI 0 = [] from rfl, List.append_nil] at this
        rw [← this]; exact HO.out, HB.out⟩
    · have hz : ((m : Int) != 0) = true := by simp; omega
      have h1 : 1 ≤ (m : Int) := by omega
      obtain ⟨t, hl⟩ := low m h0 hm
      have ht := hl.lt
      have HL := Aside0.mk hl
      have HA := Aside0.mk (and_pred m hm h0)
      have HTr := Aside0.mk (Tab.below HT.out HB.out)
      clear hl
      go_wp2_with (first | (go_at_call 11; refine (tz_calls m t _ hm h0 HTr.out HL.out).mono ?_; rintro e w1 ⟨rfl, n, rfl⟩) | (at_builtin; refine Kd.R_append (Kd.int .u8) (w0 := w) w.heap.size rfl (.tmp 10) (.tmp 14) 35 5 (.int .u8 0) 1 rfl Tryd.underlying35 info_u8 rfl (by decide) (by omega) u3 xs (t : Int) [.int .u8 (t : Int)] (fun _ => True) (fun _ => False) rfl rfl ?aP (fun _ hk => hk.elim) ?aF ?aO ?aB ?aS ?aL ?_; (case aP => exact rfl); (case aF => exact fun _ _ => trivial); (case aO => exact Kd.R_drewN HO.out _); (case aB => exact pw_below_drewN HB.out _); (case aS => exact HB.out.size); (case aL => have := HX.out; have := congrArg List.length this; have := lst_le s; simp [lstI] at *; omega); intro v1 w1 ho hb hg hat; have HO1 := Aside0.mk ho; have HB1 := Aside0.mk hb; clear ho hb hg hat))
      go_roundw
      case rel =>
        refine ⟨m &&& (m - 1), xs ++ [(t : Int)], by rw [HA.out], Nat.lt_of_le_of_lt Nat.and_le_left hm, ⟨?_⟩, HO1, HB1⟩
        rw [List.append_assoc, ← HX.out, lstI_low HL.out]; rfl
      case measure =>
        rw [HA.out]
        have := low_less h0
        simp only [intOf]
        omega

end Go.Proofs.YtbaknecnkipooaaDoor.Cnt
