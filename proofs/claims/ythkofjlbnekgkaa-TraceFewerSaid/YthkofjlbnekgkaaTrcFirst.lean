/- The walk of First: a set of what the other one has, and IndexFunc with the closure that asks it. -/
import Derived.Test.YthkofjlbnekgkaaTrcKeys
import Derived.Test.YthkofjlbnekgkaaTrcPlain
namespace Go.Proofs.Ythkofjlbnekgkaa.Trc
open Go Go.RowKit Go.Maps Go.Proofs.YthkofjlbnekgkaaW.PrintWords Go.Proofs.Ythkofjlbnekgkaa.PTraceAgrees Go.Proofs.Ythkofjlbnekgkaa.Mp
open Classical
set_option linter.unusedVariables false
set_option linter.unusedSimpArgs false
attribute [local go_sem high] eqA50 eqA52 eqA54

theorem zero57 (w : World) : (zeroValue 57).run Try.prog w = .ok (.agg #[]) w := by kernel_rfl

/-- The closure: is x not in the set? -/
theorem seen_calls (x : S50) (hx : okE x) (g : Nat) (b n : Nat) (m : S50 → Option Value) (w : World) (hc : w.cell? ⟨g, 0, none⟩ = some (.map (some b))) (hm : MapIs Try.prog 50 entV w b n m) (hu : (m x).getD (.agg #[]) = .agg #[]) :
    Calls Try.prog 28 #[.agg #[.int .i64 x.f0.f0, .int .u8 x.f0.f1, .int .i64 x.f0.f2, .string x.f1], .pointer (some ⟨g, 0, none⟩)] w (Kept (.bool (m x).isNone) w) := by
  have HB := Aside0.mk (Below.refl w.heap.size w)
  have HM := Aside0.mk hm
  have hlt := World.block_lt_of_cell? w _ hc
  clear hm
  go_enter Try.func28, Try.ntmps28
  go_wp2_with (at_lookup; refine wpList_look_ok rfl _ _ _ rfl keys50 57 Try.underlying56 (zero57 _) rfl (HM.out.below (by repeat (first | exact HB.out | apply below_alloc | apply pw_below_drewN | apply below_drew))) x hx rfl ?_)
  go_ret
  exact ⟨rfl, by repeat (first | exact HB.out | apply below_alloc | apply pw_below_drewN | apply below_drew)⟩

theorem cell_keeps {W w1 : World} {row : Option Nat} (hg : W.grownBy w1 row) {p : Addr} (hp : p.block < W.heap.size) (hne : some p.block ≠ row) : w1.cell? p = W.cell? p := World.cell?_of_block (w := W) (hg.block p.block hp hne)

set_option maxHeartbeats 1000000 in
set_option maxRecDepth 100000 in
theorem index_calls (A : Option Addr) (c : Nat) (l : List S50) (w : World) (hr : Kd.C k50 w A l.length l) (hl : l.length < 3518437208883) (hok : ∀ x ∈ l, okE x) (g b n : Nat) (m : S50 → Option Value) (o : List S50)
    (hc : w.cell? ⟨g, 0, none⟩ = some (.map (some b))) (hm : MapIs Try.prog 50 entV w b n m) (hmo : ∀ x, (m x).isSome = true ↔ x ∈ o) (hu : ∀ x, (m x).getD (.agg #[]) = .agg #[]) :
    Calls Try.prog 27 #[.slice A l.length c, .func (.func 28) #[] #[.pointer (some ⟨g, 0, none⟩)]] w (fun e w' => ∃ r, e = .returned (.int .i64 r) ∧ IsFirst l o r ∧ Below w.heap.size w w') := by
  have HR := Aside0.mk hr
  have HK := Aside0.mk hok
  have HM := Aside0.mk hm
  have HC := Aside0.mk hc
  have HMO := Aside0.mk hmo
  have HU := Aside0.mk hu
  clear hr hok hm hc hmo hu
  have HB := Aside0.mk (Below.refl w.heap.size w)
  go_enter Try.func27, Try.ntmps27
  go_wp2_with fail
  go_loopw [8] (fun v8 w' => ∃ (i : Nat), v8 = .int .i64 (i : Int) ∧ i ≤ l.length ∧ Aside0 (∀ j (h : j < l.length), j < i → l[j] ∈ o) ∧ Aside0 (Below w.heap.size w w')) (fun v8 _ => l.length - (intOf v8).toNat)
  case atStart => exact ⟨0, rfl, by omega, ⟨fun j h hj => by omega⟩, HB⟩
  case round =>
    clear HB
    obtain ⟨i, rfl, hi, HD, HB⟩ := hrel
    by_cases hlt : i < l.length
    · have hC := Kd.C_below HR.out HB.out
      obtain ⟨ad, ea, h0, h1, h2, h3⟩ := at_T50 hC (i : Int) (by omega) (by omega)
      cases ea
      simp only [Int.toNat_natCast] at h0 h1 h2 h3
      have hX : rd_T50 l (i : Int) = l[i] := rd50 hlt
      have HX := Aside0.mk hX
      have HXk : Aside0 (okE (rd_T50 l (i : Int))) := ⟨by rw [hX]; exact HK.out _ (List.getElem_mem _)⟩
      clear hC hX
      generalize rd_T50 l (i : Int) = x at *
      cases hsx : (m x).isNone with
      | true =>
        have HSX := Aside0.mk hsx
        have hge : ¬ (x ∈ o) := fun h => by have := (HMO.out x).2 h; rw [Option.isNone_iff_eq_none] at hsx; rw [hsx] at this; cases this
        have HGE := Aside0.mk hge
        clear hsx hge
        go_wp2_with (go_at_call 28; refine (seen_calls x HXk.out g b n m _ ((HB.out.cell (World.block_lt_of_cell? w _ HC.out)).trans HC.out) (HM.out.below HB.out) (HU.out x)).mono ?_; rw [HSX.out]; rintro e w1 ⟨rfl, hb⟩; have HBx := Aside0.mk (below_back hb HB.out); have hsz := hb.size; clear HB hb; have HB := HBx; clear HBx)
        go_ret
        exact ⟨(i : Int), rfl, .inr ⟨i, hlt, rfl, by rw [← HX.out]; exact HGE.out, fun j hj => HD.out j (by omega) hj⟩, HB.out⟩
      | false =>
        have HSX := Aside0.mk hsx
        have hge : x ∈ o := (HMO.out x).1 (by cases hq : m x <;> simp [hq] at hsx ⊢)
        have HGE := Aside0.mk hge
        clear hsx hge
        go_wp2_with (go_at_call 28; refine (seen_calls x HXk.out g b n m _ ((HB.out.cell (World.block_lt_of_cell? w _ HC.out)).trans HC.out) (HM.out.below HB.out) (HU.out x)).mono ?_; rw [HSX.out]; rintro e w1 ⟨rfl, hb⟩; have HBx := Aside0.mk (below_back hb HB.out); have hsz := hb.size; clear HB hb; have HB := HBx; clear HBx)
        go_roundw
        case rel => exact ⟨i + 1, by go_num, by omega, ⟨fun j h hj => by
            rcases Nat.lt_or_eq_of_le (Nat.le_of_lt_succ hj) with h1 | h1
            · exact HD.out j h h1
            · subst h1; rw [← HX.out]; exact HGE.out⟩, HB⟩
        case measure => simp [intOf]; omega
    · go_wp2_with fail
      go_ret
      exact ⟨-1, rfl, .inl ⟨rfl, fun x hx => by
        obtain ⟨j, hj, rfl⟩ := List.mem_iff_getElem.1 hx
        exact HD.out j hj (by omega)⟩, HB.out⟩

set_option maxHeartbeats 1000000 in
set_option maxRecDepth 100000 in
theorem first_calls (A A' : Option Addr) (c c' : Nat) (l o : List S50) (w : World) (hr : Kd.C k50 w A l.length l) (hr' : Kd.C k50 w A' o.length o) (hl : l.length < 3518437208883) (ho : o.length < 3518437208883) (hok : ∀ x ∈ l, okE x) (hok' : ∀ x ∈ o, okE x) :
    Calls Try.prog 19 #[.slice A l.length c, .slice A' o.length c'] w (fun e w' => ∃ r, e = .returned (.int .i64 r) ∧ IsFirst l o r ∧ Below w.heap.size w w') := by
  have HR := Aside0.mk hr
  have HR' := Aside0.mk hr'
  have HK := Aside0.mk hok
  have HK' := Aside0.mk hok'
  clear hr hr' hok hok'
  have HB := Aside0.mk (Below.refl w.heap.size w)
  have hmm := @run_makeMap Try.prog
  go_enter Try.func19, Try.ntmps19
  go_wp2_with fail
  go_loopw [11] (fun v11 w' => ∃ (i : Nat) (m : S50 → Option Value), v11 = .int .i64 (i : Int) ∧ i ≤ o.length ∧ Aside0 (∀ x, (m x).isSome = true ↔ x ∈ o.take i) ∧ Aside0 (∀ x, (m x).getD (.agg #[]) = .agg #[]) ∧ Aside0 (MapIs Try.prog 50 entV w' w.heap.size i m) ∧ w'.cell? ⟨w.heap.size + 1, 0, none⟩ = some (.map (some w.heap.size)) ∧ w.heap.size + 1 < w'.heap.size ∧ Aside0 (Below w.heap.size w w')) (fun v11 _ => o.length - (intOf v11).toNat)
  case atStart => exact ⟨0, _, rfl, by omega, ⟨fun x => by simp⟩, ⟨fun x => rfl⟩, ⟨(MapIs.made Try.prog 50 entV w).below (by repeat (first | exact Below.refl _ _ | apply below_alloc | apply pw_below_drewN))⟩, by simp, by simp, ⟨by repeat (first | exact HB.out | apply below_alloc | apply pw_below_drewN)⟩⟩
  case round =>
    clear HB
    obtain ⟨i, m, rfl, hi, HMO, HU, HM, hcell, hsz, HB⟩ := hrel
    by_cases hlt : i < o.length
    · have hC := Kd.C_below HR'.out HB.out
      obtain ⟨ad, ea, h0, h1, h2, h3⟩ := at_T50 hC (i : Int) (by omega) (by omega)
      cases ea
      simp only [Int.toNat_natCast] at h0 h1 h2 h3
      have hX : rd_T50 o (i : Int) = o[i] := rd50 hlt
      have HX := Aside0.mk hX
      have HXk : Aside0 (okE (rd_T50 o (i : Int))) := ⟨by rw [hX]; exact HK'.out _ (List.getElem_mem _)⟩
      clear hC hX
      generalize rd_T50 o (i : Int) = x at *
      have HCell := Aside0.mk hcell
      go_wp2_with (at_mapUpdate; refine wpList_put rfl _ _ _ _ rfl keys50 57 Try.underlying56 rfl (HM.out.below (by repeat (first | exact Below.refl _ _ | apply below_alloc | apply pw_below_drewN))) (by unfold maxLen; omega) x HXk.out rfl _ rfl ?_; intro w2 hm2 hg2; have HM2 := Aside0.mk hm2; have HG2 := Aside0.mk hg2; clear hm2 hg2)
      go_roundw
      case rel =>
        refine ⟨i + 1, upd m x (.agg #[]), by go_num, by omega, ⟨fun y => ?_⟩, ⟨fun y => ?_⟩, HM2, ?_, ?_, ⟨?_⟩⟩
        · rw [← List.take_append_getElem hlt, List.mem_append, List.mem_singleton, ← HX.out]
          by_cases e : y = x
          · subst e; simp [upd_same]
          · rw [upd_other m _ e, HMO.out y]; simp [e]
        · by_cases e : y = x
          · subst e; simp [upd_same]
          · rw [upd_other m _ e]; exact HU.out y
        · rw [cell_keeps HG2.out (by simp; omega) (by simp)]
          exact ((show Below wr.heap.size wr _ from by repeat (first | exact Below.refl _ _ | apply below_alloc | apply pw_below_drewN)).cell (by show w.heap.size + 1 < _; omega)).trans HCell.out
        · have := HG2.out.size; simp at this; omega
        · exact pw_below_grown (by repeat (first | exact HB.out | apply below_alloc | apply pw_below_drewN)) _ (by have := HB.out.size; simp; omega) HG2.out (fun k hk => by cases hk; exact Nat.le_refl _)
      case measure => simp [intOf]; omega
    · have HMO' : Aside0 (∀ x, (m x).isSome = true ↔ x ∈ o) := ⟨fun x => by rw [HMO.out x, List.take_of_length_le (by omega)]⟩
      have HCell := Aside0.mk hcell
      go_wp2_with (go_at_call 27; refine (index_calls _ _ l _ (Kd.C_below HR.out HB.out) hl HK.out _ _ _ m o HCell.out HM.out HMO'.out HU.out).mono ?_; rintro e w1 ⟨r, rfl, hF, hb⟩)
      go_ret
      exact ⟨r, rfl, hF, below_back hb HB.out⟩
end Go.Proofs.Ythkofjlbnekgkaa.Trc
