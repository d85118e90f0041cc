/- The walks of all, and of the two Counts. -/
import Derived.Test.YthkofjlbnekgkaaTrcFns2
import Derived.Test.YthkofjlbnekgkaaWArr
import Derived.Laws.Tables
import Derived.Laws.Rows
import Derived.Laws.CopyOwn
import Derived.Laws.BitsAllLaws
namespace Go.Proofs.Ythkofjlbnekgkaa.Trc
open Go.RowKit Go.Proofs.YthkofjlbnekgkaaW.PrintWords Go.Proofs.Ythkofjlbnekgkaa.PTraceAgrees
set_option linter.unusedVariables false
set_option linter.unusedSimpArgs false
attribute [local go_sem high] eqA50 eqA52 eqA54

theorem info_rows : (Try.prog.info? 26).map (fun i => (i.zero, i.size, i.bytes)) = some (some (.slice none 0 0), 1, 24) := by kernel_rfl
theorem R_lt {α : Type} {d : Kd α} {e : Nat} {w : World} {base : Nat} {ok : Nat → Prop} {v : Value} {xs : List α} (h : d.R e w base ok v xs) : ∀ k, v.ownBlock = some k → k < w.heap.size := by
  obtain ⟨inner, ho⟩ := Kd.R_own h
  exact own_lt ho

set_option maxHeartbeats 1000000 in
set_option maxRecDepth 100000 in
theorem all_calls (A : Option Addr) (c : Nat) (l : List (List S52)) (w : World) (hr : Kd.C (Kd.slice 52 k52) w A l.length l) (hl : l.length < 3518437208883) (hin : ∀ x ∈ l, x.length < 3518437208883) :
    Calls Try.prog 23 #[.slice A l.length c] w (Made (Kd.slice 50 k50) 26 (l.map fun x => x.map conv) w) := by
  have HR := Aside0.mk hr
  have HIn := Aside0.mk hin
  clear hr hin
  have HB := Aside0.mk (Below.refl w.heap.size w)
  go_enter Try.func23, Try.ntmps23
  go_wp2_with fail
  go_loopw [3, 5, 8] (fun v3 v5 v8 w' => ∃ (i : Nat), v8 = .int .i64 (i : Int) ∧ i ≤ l.length ∧ Aside0 ((Kd.slice 50 k50).R 26 w' w.heap.size (fun _ => True) v3 ((l.take i).map fun x => x.map conv)) ∧ Aside0 (Below w.heap.size w w')) (fun _ _ v8 _ => l.length - (intOf v8).toNat)
  case atStart => exact ⟨0, rfl, by omega, ⟨Kd.R_nil _ _ _ _ _⟩, HB⟩
  case round =>
    clear HB
    obtain ⟨i, rfl, hi, HO, HB⟩ := hrel
    by_cases hlt : i < l.length
    · have hC := Kd.C_below HR.out HB.out
      obtain ⟨ad, A0, c0, ea, h0, hle, hxr⟩ := at_L6 hC (i : Int) (by omega) (by omega)
      cases ea
      simp only [Int.toNat_natCast] at h0
      have hX : rd_L6 l (i : Int) = l[i] := by simp [rd_L6, hlt]
      have hx4 : (rd_L6 l (i : Int)).length < 3518437208883 := by rw [hX]; exact HIn.out _ (List.getElem_mem _)
      have HX : Aside0 (((l.take i).map fun x => x.map conv) ++ [(rd_L6 l (i : Int)).map conv] = (l.take (i + 1)).map fun x => x.map conv) := ⟨by
        rw [← List.take_append_getElem hlt, List.map_append, hX]; simp⟩
      have HLn : Aside0 (((l.take i).map fun x => x.map conv).length = i) := ⟨by simp; omega⟩
      have HXr := Aside0.mk hxr
      clear hC hX hxr
      generalize rd_L6 l (i : Int) = x at *
      go_wp2_with (first | (go_at_call 10; refine (theirs_calls _ _ x _ HXr.out hx4).mono ?_; rintro e w1 ⟨v, rfl, ho, hb⟩; have HV := Aside0.mk (Kd.R_lower (Kd.R_new' ho (R_lt HO.out)) HB.out.size); have HBx := Aside0.mk (below_back hb HB.out); have HOx := Aside0.mk (Kd.R_below HO.out hb); clear HB HO hb ho; have HB := HBx; have HO := HOx; clear HBx HOx; obtain ⟨A1, c1, ev⟩ := Kd.R_slice HV.out; rw [List.length_map] at ev; subst ev) | (at_builtin; refine Kd.R_append (Kd.slice 50 k50) (w0 := w) w.heap.size rfl (.tmp 12) (.tmp 15) 44 26 (.slice none 0 0) 24 rfl Try.underlying44 info_rows rfl (by decide) (by omega) u3 ((l.take i).map fun x => x.map conv) (x.map conv) [.slice A1 x.length c1] (fun _ => True) (fun k => True ∧ some k ≠ u3.ownBlock) rfl ?aX ?aP (fun _ hk => hk) ?aF ?aO ?aB ?aS ?aL ?_; (case aX => first | rfl | (simp [Act.eval]; done)); (case aP => exact ⟨_, rfl, HV.out⟩); (case aF => exact fun _ _ => trivial); (case aO => exact (by repeat (first | exact HO.out | apply Kd.R_alloc | apply Kd.R_drewN | apply Kd.R_drew))); (case aB => exact (by repeat (first | exact HB.out | apply below_alloc | apply pw_below_drewN | apply below_drew))); (case aS => exact Below.size (by repeat (first | exact HB.out | apply below_alloc | apply pw_below_drewN | apply below_drew))); (case aL => have := HLn.out; omega); intro v1 w1 ho hb hg hat; have HO1 := Aside0.mk ho; have HB1 := Aside0.mk hb; clear ho hb hg hat))
      go_roundw
      case rel => exact ⟨i + 1, by go_num, by omega, ⟨by rw [← HX.out]; exact HO1.out⟩, HB1⟩
      case measure => simp [intOf]; omega
    · go_wp2_with fail
      go_ret
      exact ⟨_, rfl, by have := HO.out; rwa [List.take_of_length_le (by omega)] at this, HB.out⟩

/-- how many entries of a view each member has, modulo 65536 -/
def cnt (l : List S50) (view : Int) (m : Nat) : Int := ((ofL l view (m : Int)).length : Int) % 65536
def cntL (l : List S50) (view : Int) : List Int := (List.range 16).map (cnt l view)
def vecV (xs : List Int) : Value := .agg (nums .u16 xs).toArray

theorem rd_cntL (l : List S50) (v : Int) (m : Nat) (h : m < 16) : rd (cntL l v) (m : Int) = cnt l v m := by simp [rd, cntL, h]
theorem cntL_length (l : List S50) (v : Int) : (cntL l v).length = 16 := by simp [cntL]
theorem cntL_range (l : List S50) (v : Int) : ∀ x ∈ cntL l v, 0 ≤ x ∧ x ≤ 65535 := by
  intro x hx
  obtain ⟨m, _, rfl⟩ := List.mem_map.1 hx
  unfold cnt
  omega
theorem isOf_iff (v s : Int) (x : S50) : isOf v s x = true ↔ x.f0.f0 = v ∧ x.f0.f1 = s := by simp [isOf]
theorem cnt_snoc (l : List S50) (v : Int) (x : S50) (m : Nat) : cnt (l ++ [x]) v m = if isOf v (m : Int) x = true then (cnt l v m + 1) % 65536 else cnt l v m := by
  unfold cnt ofL
  rw [List.filter_append]
  cases h : isOf v (m : Int) x <;> simp [h] <;> omega
theorem cntL_other (l : List S50) (v : Int) (x : S50) (h : ¬ (x.f0.f0 = v ∧ x.f0.f1 < 16)) : cntL (l ++ [x]) v = cntL l v := by
  unfold cntL
  apply List.map_congr_left
  intro m hm
  rw [cnt_snoc, if_neg]
  rw [isOf_iff]
  have : m < 16 := by simpa using hm
  rintro ⟨h1, h2⟩
  exact h ⟨h1, by omega⟩
theorem cntL_hit (l : List S50) (v : Int) (x : S50) (h0 : 0 ≤ x.f0.f1) (h : x.f0.f0 = v) (h1 : x.f0.f1 < 16) : cntL (l ++ [x]) v = (cntL l v).set x.f0.f1.toNat ((rd (cntL l v) x.f0.f1 + 1) % 65536) := by
  obtain ⟨j, hj⟩ := Int.eq_ofNat_of_zero_le h0
  rw [hj]
  have hj16 : j < 16 := by omega
  rw [rd_cntL l v j hj16, Int.toNat_natCast]
  apply List.ext_getElem
  · simp [cntL]
  · intro m h2 h3
    have hm : m < 16 := by simpa [cntL] using h2
    rw [List.getElem_set]
    simp only [cntL, List.getElem_map, List.getElem_range]
    rw [cnt_snoc]
    by_cases e : j = m
    · subst e
      rw [if_pos ((isOf_iff _ _ _).2 ⟨h, hj⟩), if_pos rfl]
    · rw [if_neg, if_neg e]
      rw [isOf_iff]
      rintro ⟨_, h4⟩
      omega
theorem nums_set (k : IntKind) (xs : List Int) (j : Nat) (y : Int) : (nums k xs).toArray.setIfInBounds j (.int k y) = (nums k (xs.set j y)).toArray := by simp [nums]

set_option maxHeartbeats 1000000 in
set_option maxRecDepth 100000 in
theorem counts_calls (A : Option Addr) (c : Nat) (l : List S50) (v : Int) (w : World) (hr : Kd.C k50 w A l.length l) (hl : l.length < 3518437208883) (hsrc : ∀ x ∈ l, 0 ≤ x.f0.f1) :
    Calls Try.prog 17 #[.slice A l.length c, .int .i64 v] w (Kept (vecV (cntL l v)) w) := by
  have HR := Aside0.mk hr
  have HS := Aside0.mk hsrc
  clear hr hsrc
  have HB := Aside0.mk (Below.refl w.heap.size w)
  go_enter Try.func17, Try.ntmps17
  go_wp2_with fail
  go_loopw [10] (fun v10 w' => ∃ (i : Nat), v10 = .int .i64 (i : Int) ∧ i ≤ l.length ∧ Aside0 (w'.heap[w.heap.size + 1]? = some (.cells (nums .u16 (cntL (l.take i) v)).toArray 35 (0, 0))) ∧ Aside0 (w'.heap[w.heap.size]? = some (.cells (nums .u16 (cntL [] v)).toArray 35 (0, 0))) ∧ Aside0 (Below w.heap.size w w')) (fun v10 _ => l.length - (intOf v10).toNat)
  case atStart =>
    refine ⟨0, rfl, by omega, ⟨?_⟩, ⟨blk_alloc (blk_new _ _) _⟩, ⟨below_alloc (below_alloc HB.out _) _⟩⟩
    have h := blk_new (w.alloc (.cells (nums .u16 (cntL [] v)).toArray 35)) (.cells (nums .u16 (cntL [] v)).toArray 35)
    rw [show (w.alloc (.cells (nums .u16 (cntL [] v)).toArray 35)).heap.size = w.heap.size + 1 from by simp] at h
    exact h
  case round =>
    clear HB
    obtain ⟨i, rfl, hi, HV, HZ, HB⟩ := hrel
    by_cases hlt : i < l.length
    · have hC := Kd.C_below HR.out HB.out
      obtain ⟨ad, ea, h0, h1, h2, h3⟩ := at_T50 hC (i : Int) (by omega) (by omega)
      cases ea
      simp only [Int.toNat_natCast] at h0 h1 h2 h3
      have hX : l.take (i + 1) = l.take i ++ [rd_T50 l (i : Int)] := by rw [← List.take_append_getElem hlt, rd50 hlt]
      have hx0 : 0 ≤ (rd_T50 l (i : Int)).f0.f1 := by rw [rd50 hlt]; exact HS.out _ (List.getElem_mem _)
      clear hC
      generalize rd_T50 l (i : Int) = x at *
      have HX := Aside0.mk hX
      clear hX
      by_cases hv : x.f0.f0 = v
      · by_cases h16 : x.f0.f1 < 16
        · have e1 : (x.f0.f0 == v) = true := by simp [hv]
          have e2 : decide (x.f0.f1 < 16) = true := decide_eq_true h16
          have HH := Aside0.mk (cntL_hit (l.take i) v x hx0 hv h16)
          have hcell : wr.cell? ⟨w.heap.size + 1, x.f0.f1.toNat, none⟩ = some (.int .u16 (rd (cntL (l.take i) v) x.f0.f1)) := by
            rw [blk_cell HV.out]
            have := cntL_length (l.take i) v
            have hlt2 : x.f0.f1.toNat < (cntL (l.take i) v).length := by omega
            simp [nums, rd, hlt2]
          have hfr : wr.frozen? ⟨w.heap.size + 1, x.f0.f1.toNat, none⟩ = false := blk_frozen HV.out _
          have hsz : w.heap.size + 1 < wr.heap.size := blk_lt HV.out
          have hyr : 0 ≤ rd (cntL (l.take i) v) x.f0.f1 ∧ rd (cntL (l.take i) v) x.f0.f1 ≤ 65535 := by
            obtain ⟨j, hj⟩ := Int.eq_ofNat_of_zero_le hx0
            rw [hj, rd_cntL _ _ _ (by omega)]
            unfold cnt
            omega
          obtain ⟨y0, y1⟩ := hyr
          have HVe := Aside0.mk hv
          clear hv
          generalize rd (cntL (l.take i) v) x.f0.f1 = y at *
          go_wp2_with fail
          go_roundw
          case rel =>
            refine ⟨i + 1, by go_num, by omega, ⟨?_⟩, ⟨?_⟩, ⟨?_⟩⟩
            · rw [HX.out, HH.out, ← nums_set, ← IntKind.wrap_u16]
              exact blk_alloc (blk_set HV.out _ _) _
            · exact blk_alloc (blk_far HZ.out (by show w.heap.size ≠ w.heap.size + 1; omega) _) _
            · exact below_alloc (Below.setCell HB.out (by show w.heap.size ≤ w.heap.size + 1; omega) _) _
          case measure => simp [intOf]; omega
        · have e1 : (x.f0.f0 == v) = true := by simp [hv]
          have e2 : decide (x.f0.f1 < 16) = false := decide_eq_false h16
          have HH := Aside0.mk (cntL_other (l.take i) v x (fun h => h16 h.2))
          clear hv
          go_wp2_with fail
          go_roundw
          case rel => exact ⟨i + 1, by go_num, by omega, ⟨by rw [HX.out, HH.out]; exact blk_alloc HV.out _⟩, ⟨blk_alloc HZ.out _⟩, ⟨below_alloc HB.out _⟩⟩
          case measure => simp [intOf]; omega
      · have e1 : (x.f0.f0 == v) = false := by simp [hv]
        have HH := Aside0.mk (cntL_other (l.take i) v x (fun h => hv h.1))
        clear hv
        go_wp2_with fail
        go_roundw
        case rel => exact ⟨i + 1, by go_num, by omega, ⟨by rw [HX.out, HH.out]; exact blk_alloc HV.out _⟩, ⟨blk_alloc HZ.out _⟩, ⟨below_alloc HB.out _⟩⟩
        case measure => simp [intOf]; omega
    · have hge : l.length ≤ i := by omega
      have HL : Aside0 (l.take i = l) := ⟨List.take_of_length_le hge⟩
      have hz16 : (nums .u16 (cntL (l.take i) v)).toArray.size = 16 := by simp [nums, cntL]
      go_wp2_with (first
        | (refine wpList_load_row rfl 35 (.tmp 5) rfl (w.heap.size + 1) rfl 35 (nums .u16 (cntL (l.take i) v)).toArray (0, 0) _ HV.out Try.underlying35 rfl (by rw [hz16]; kernel_rfl) ?_)
        | (refine wpList_store_row rfl 35 (.tmp 4) (.tmp 33) rfl w.heap.size (nums .u16 (cntL (l.take i) v)).toArray rfl rfl 35 _ HZ.out (by rw [hz16]; kernel_rfl) (by simp [nums, cntL]) (by simp [nums, cntL, Value.oneCell']) ?_))
      refine bodyPost_ret (v := vecV (cntL l v)) (results_cell_row rfl _ _ w.heap.size 35 (nums .u16 (cntL l v)).toArray (0, 0) _ rfl ?_ Try.underlying35 rfl (by rw [show (nums .u16 (cntL l v)).toArray.size = 16 from by simp [nums, cntL]]; kernel_rfl)) rfl ⟨rfl, ?_⟩
      · have := setRow_heap wr w.heap.size _ (nums .u16 (cntL (l.take i) v)).toArray _ _ HZ.out
        rw [HL.out] at this
        rw [HL.out]
        exact this
      · exact below_setRow HB.out (Nat.le_refl _) _

end Go.Proofs.Ythkofjlbnekgkaa.Trc
