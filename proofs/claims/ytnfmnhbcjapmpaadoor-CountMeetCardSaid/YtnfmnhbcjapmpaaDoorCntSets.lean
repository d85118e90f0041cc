/- The walks of CountSets and CountMeet. -/
import Derived.Test.YtnfmnhbcjapmpaaDoorCntLaw3
import Derived.Laws.ShiftsVarLaws
namespace Go.Proofs.YtnfmnhbcjapmpaaDoor.Cnt
open Go.RowKit Go.Proofs.YtnfmnhbcjapmpaaDoorW.PrintWords

set_option maxRecDepth 100000 in
theorem sets_calls (s : Nat) (id : Int) (A : Option Addr) (c : Nat) (l : List Int) (w : World) (hs : s < 65536) (h0 : 0 ≤ id) (h1 : id ≤ 255) (hr : Kd.C (Kd.int .u8) w A l.length l) (hl : ∀ x ∈ l, 0 ≤ x ∧ x ≤ 255) (hm : l.length ≤ 9223372036854775807) (hT : Tab w) :
    Calls Tryd.prog 8 #[.int .u16 (s : Int), .int .u8 id, .slice A l.length c] w (Holds w) := by
  have HT := Aside0.mk hT
  have HR := Aside0.mk hr
  have HLs := Aside0.mk hl
  clear hT hr hl
  by_cases hbig : 100 < l.length
  · go_enter Tryd.func8, Tryd.ntmps8
    go_wp2_with (first
      | (go_at_call 10; refine (alive_calls _ HT.out).mono ?_; rintro e w1 ⟨rfl, hb⟩; have HB := Aside0.mk hb; clear hb))
    go_ret
    exact ⟨rfl, by repeat (first | exact HB.out | apply below_alloc | apply pw_below_drewN | apply below_drew)⟩
  · have HLen := Aside0.mk (lstI_length s)
    obtain ⟨u, hu⟩ : ∃ u : Nat, s ||| bitN id = u := ⟨_, rfl⟩
    obtain ⟨v, hv⟩ : ∃ v : Nat, s &&& (65535 - bitN id) = v := ⟨_, rfl⟩
    obtain ⟨b, hb⟩ : ∃ b : Bool, hasB s id = b := ⟨_, rfl⟩
    obtain ⟨x, y, hxy⟩ : ∃ (x : Int) (y : Bool), ofVal (ofGo 0 l) = .tuple #[.int .u16 x, .bool y] := ⟨_, _, rfl⟩
    have HU := Aside0.mk hu
    have HV := Aside0.mk hv
    have HBb := Aside0.mk hb
    have HXY := Aside0.mk hxy
    clear hu hv hb hxy
    have e1 : (b == b) = true := by simp
    have e2 : ((u : Int) == (u : Int)) = true := by simp
    have e3 : ((v : Int) == (v : Int)) = true := by simp
    have e4 : ((sz s : Int) == (sz s : Int)) = true := by simp
    have e5 : (x == x) = true := by simp
    have e6 : (y == y) = true := by simp
    go_enter Tryd.func8, Tryd.ntmps8
    go_wp2_with (first
      | (go_at_call 10; refine (alive_calls _ HT.out).mono ?_; rintro e w1 ⟨rfl, hb⟩; have HB := Aside0.mk hb; clear hb)
      | (go_at_call 22; refine (of_calls _ _ l _ ?hC HLs.out hm).mono ?_; (case hC => exact Kd.C_below HR.out (by repeat (first | exact HB.out | apply below_alloc | apply pw_below_drewN | apply below_drew))); rintro e w3 ⟨rfl, m, rfl⟩; rw [HXY.out])
      | (go_at_call 23; refine (rof_calls _ _ l _ ?hC HLs.out hm).mono ?_; (case hC => exact Kd.C_below HR.out (by repeat (first | exact HB.out | apply below_alloc | apply pw_below_drewN | apply below_drew))); rintro e w3 ⟨rfl, m, rfl⟩; rw [HXY.out])
      | (go_at_call 21; refine (has_calls s id _ hs h0).mono ?_; rintro e w1 ⟨rfl, m, rfl⟩; rw [HBb.out])
      | (go_at_call 24; refine (rhas_calls s id _ hs h0 h1).mono ?_; rintro e w1 ⟨rfl, m, rfl⟩; rw [HBb.out])
      | (go_at_call 25; refine (with_calls s id _ hs h0).mono ?_; rintro e w1 ⟨rfl, m, rfl⟩; rw [HU.out])
      | (go_at_call 26; refine (rwith_calls s id _ hs h0 h1).mono ?_; rintro e w1 ⟨rfl, m, rfl⟩; rw [HU.out])
      | (go_at_call 27; refine (without_calls s id _ hs h0).mono ?_; rintro e w1 ⟨rfl, m, rfl⟩; rw [HV.out])
      | (go_at_call 28; refine (rwithout_calls s id _ hs h0 h1).mono ?_; rintro e w1 ⟨rfl, m, rfl⟩; rw [HV.out])
      | (go_at_call 19; (with_reducible refine (size_calls s _ hs).mono ?_); rintro e w1 ⟨rfl, m, rfl⟩)
      | (go_at_call 29; refine (rsize_calls s _ hs).mono ?_; rintro e w1 ⟨rfl, hb⟩; have HB2 := Aside0.mk (below_back hb (by repeat (first | exact HB.out | apply below_alloc | apply pw_below_drewN | apply below_drew))); clear HB hb; have HB := HB2; clear HB2)
      | (go_at_call 20; refine (list_calls s _ hs ?hT).mono ?_; (case hT => exact Tab.below HT.out (by repeat (first | exact HB.out | apply below_alloc | apply pw_below_drewN | apply below_drew))); rintro e w2 ⟨v1, rfl, ho, hb⟩; have HB2 := Aside0.mk (below_back hb (by repeat (first | exact HB.out | apply below_alloc | apply pw_below_drewN | apply below_drew))); clear HB; have HB := HB2; clear HB2 hb; obtain ⟨A1, c1, ev, hc, hr⟩ := Kd.R_reads ho; subst ev; have HR1 := Aside0.mk hr; clear ho hr hc)
      | (go_at_call 31; refine (rlist_calls s _ hs).mono ?_; rintro e w2 ⟨v2, rfl, ho, hb⟩; have HR2 := Aside0.mk (Kd.C_below HR1.out hb); clear HR1; have HB2 := Aside0.mk (below_back hb (by repeat (first | exact HB.out | apply below_alloc | apply pw_below_drewN | apply below_drew))); clear HB; have HB := HB2; clear HB2 hb; obtain ⟨A2, c2, ev, hc, hr⟩ := Kd.R_reads ho; subst ev; have HR3 := Aside0.mk hr; clear ho hr hc)
      | (go_at_call 30; refine (same_calls _ _ _ _ (lstI s) _ HR2.out HR3.out (by have := HLen.out; have := sz_le s; omega)).mono ?_; rintro e w1 ⟨rfl, m, rfl⟩))
    go_ret
    exact ⟨rfl, by repeat (first | exact HB.out | apply below_alloc | apply pw_below_drewN | apply below_drew)⟩

/-- all of m members -/
def allN (m : Nat) : Nat := 2 ^ m - 1
theorem allN_lt (m : Nat) (h : m ≤ 16) : allN m < 65536 := by
  unfold allN
  have : 2 ^ m ≤ 2 ^ 16 := Nat.pow_le_pow_right (by decide) h
  omega
theorem sz_all : ∀ m, m ≤ 16 → sz (allN m) = m := by decide
theorem all_wrap (n : Int) (m : Nat) (h : m ≤ 16) (hn : n = (m : Int)) : IntKind.u16.wrap (IntKind.u16.wrap (2 ^ min n.toNat 16) - 1) = ((allN m : Nat) : Int) := by
  subst hn
  rw [IntKind.wrap_u16, IntKind.wrap_u16, Int.toNat_natCast, Nat.min_eq_left h]
  have e : ((2 : Int) ^ m) = ((2 ^ m : Nat) : Int) := by simp
  rw [e]
  unfold allN
  have h2 : 2 ^ m ≤ 2 ^ 16 := Nat.pow_le_pow_right (by decide) h
  have h3 : 0 < 2 ^ m := Nat.two_pow_pos m
  generalize (2 : Nat) ^ m = q at *
  omega
theorem sz_mono {a b : Nat} (h : ∀ i, a.testBit i = true → b.testBit i = true) : sz a ≤ sz b := by
  unfold sz
  exact List.countP_mono_left fun i _ hi => h i hi
theorem sub_all (a m : Nat) (h : m ≤ 16) : sz (a &&& allN m) ≤ m := by
  have h1 : sz (a &&& allN m) ≤ sz (allN m) := sz_mono fun i hi => by rw [Nat.testBit_and] at hi; simp at hi; exact hi.2
  rwa [sz_all m h] at h1
theorem union_all (a b m : Nat) (h : m ≤ 16) : sz ((a &&& allN m) ||| (b &&& allN m)) ≤ m := by
  rw [← Nat.and_or_distrib_right]
  exact sub_all _ m h
theorem rest_all (a c m : Nat) (h : m ≤ 16) : sz ((a &&& allN m) &&& (allN m &&& (65535 - (c &&& allN m)))) + sz ((a &&& allN m) &&& (c &&& allN m)) = sz (a &&& allN m) := by
  have h1 := sz_diff (a &&& allN m) (c &&& allN m) (Nat.lt_of_le_of_lt Nat.and_le_right (allN_lt m h))
  rw [← Nat.and_assoc, Nat.and_assoc a (allN m) (allN m), Nat.and_self]
  exact h1
theorem diff_all (c m : Nat) (h : m ≤ 16) : sz (allN m &&& (65535 - (c &&& allN m))) + sz (c &&& allN m) = m := by
  have h1 := sz_diff (allN m) (c &&& allN m) (Nat.lt_of_le_of_lt Nat.and_le_right (allN_lt m h))
  rw [Nat.and_comm c, ← Nat.and_assoc, Nat.and_self, Nat.and_comm _ c] at h1
  rw [sz_all m h] at h1
  exact h1
theorem sz_zero {s : Nat} (hs : s < 65536) (h : sz s = 0) : s = 0 := by
  apply Nat.eq_of_testBit_eq
  intro i
  rw [Nat.zero_testBit]
  rcases Nat.lt_or_ge i 16 with hi | hi
  · unfold sz at h
    have := List.countP_eq_zero.1 h i (by simpa using hi)
    simpa using this
  · exact Nat.testBit_lt_two_pow (Nat.lt_of_lt_of_le hs (Nat.pow_le_pow_right (n := 2) (by decide) hi))

/-- what the law says of the sizes: m members, f of them may be corrupt -/
structure Meets (m f E sa sb sab sc sr sar : Int) : Prop where
  two : E ≤ sa → E ≤ sb → f < sab
  rest : sc ≤ f → E ≤ sr ∧ 2 * f + 1 ≤ sr
  ready : sc ≤ f → 2 * f + 1 ≤ sa → f + 1 ≤ sar
  some_ : sc ≤ f → f + 1 ≤ sa → 0 < sar
theorem meets (a b c m : Nat) (h1 : 1 ≤ m) (h : m ≤ 16) : Meets m (faulty m) (echoes m) (sz (a &&& allN m)) (sz (b &&& allN m)) (sz ((a &&& allN m) &&& (b &&& allN m))) (sz (c &&& allN m)) (sz (allN m &&& (65535 - (c &&& allN m)))) (sz ((a &&& allN m) &&& (allN m &&& (65535 - (c &&& allN m))))) := by
  have d1 : faulty m = ((m : Int) - 1) / 3 := by unfold faulty; rw [held_in m (by omega) (by omega)]
  have d2 : echoes m = ((m : Int) + faulty m) / 2 + 1 := by unfold echoes; rw [held_in m (by omega) (by omega)]
  have u1 := sz_union (a &&& allN m) (b &&& allN m)
  have u2 := union_all a b m h
  have u3 := rest_all a c m h
  have u4 := diff_all c m h
  have u5 := sz_mono (a := (a &&& allN m) &&& (c &&& allN m)) (b := c &&& allN m) (fun i hi => by rw [Nat.testBit_and] at hi; simp at hi ⊢; exact hi.2)
  constructor <;> intros <;> omega

end Go.Proofs.YtnfmnhbcjapmpaaDoor.Cnt
