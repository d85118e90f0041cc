/- What the functions of package trace and of its laws come to: the walks. -/
import Derived.Test.YthkofjlbnekgkaaPTraceAgreesx2
import Derived.Test.YthkofjlbnekgkaaPTraceAgreesx3
import Derived.WalkLawsBesides
import Derived.WalkSpells
namespace Go.Proofs.Ythkofjlbnekgkaa.Trc
open Go.RowKit Go.Proofs.YthkofjlbnekgkaaW.PrintWords Go.Proofs.Ythkofjlbnekgkaa.PTraceAgrees
set_option linter.unusedVariables false
set_option linter.unusedSimpArgs false
attribute [local go_sem high] eqA50 eqA52 eqA54

/-- the same entry, as the program has it; and back -/
def conv (x : S52) : S50 := ⟨⟨x.f0.f0, x.f0.f1, x.f0.f2⟩, x.f1⟩
def back (x : S50) : S52 := ⟨⟨x.f0.f0, x.f0.f1, x.f0.f2⟩, x.f1⟩
/-- Hands back v; the world is as it was, but for draws. -/
def Ret (v : Value) (w : World) (e : Ending) (w' : World) : Prop := e = .returned v ∧ ∃ m, w' = w.drewN m
/-- Hands back v; what was there is as it was. -/
def Kept (v : Value) (w : World) (e : Ending) (w' : World) : Prop := e = .returned v ∧ Below w.heap.size w w'
/-- Hands back a row of its own that holds xs; what was there is as it was. -/
def Made {α : Type} (d : Kd α) (e : Nat) (xs : List α) (w : World) (en : Ending) (w' : World) : Prop :=
  ∃ v, en = .returned v ∧ d.R e w' w.heap.size (fun _ => True) v xs ∧ Below w.heap.size w w'
theorem below_back {w w1 w2 : World} (k : Below w1.heap.size w1 w2) (h : Below w.heap.size w w1) : Below w.heap.size w w2 := below_then h h.size k
theorem ret_bool {a b : Bool} (h : a = b) : Ending.returned (.bool a) = .returned (.bool b) := by rw [h]
theorem ret_int {k : IntKind} {a b : Int} (h : a = b) : Ending.returned (.int k a) = .returned (.int k b) := by rw [h]
/-- after a call that leaves what was there, its cells read as before -/
theorem below_cells {W w1 : World} (hb : Below W.heap.size W w1) : (∀ b o, b < W.heap.size → w1.cell? ⟨b, o, none⟩ = W.cell? ⟨b, o, none⟩) ∧ (∀ b o, b < W.heap.size → w1.frozen? ⟨b, o, none⟩ = W.frozen? ⟨b, o, none⟩) :=
  ⟨fun b o h => hb.cell (p := ⟨b, o, none⟩) h, fun b o h => hb.frozen (p := ⟨b, o, none⟩) h⟩
theorem rd50 {l : List S50} {i : Nat} (h : i < l.length) : rd_T50 l (i : Int) = l[i] := by simp [rd_T50, h]
theorem rd52 {l : List S52} {i : Nat} (h : i < l.length) : rd_T52 l (i : Int) = l[i] := by simp [rd_T52, h]

set_option maxHeartbeats 1000000 in
set_option maxRecDepth 100000 in
theorem theirs_calls (A : Option Addr) (c : Nat) (l : List S52) (w : World) (hr : Kd.C k52 w A l.length l) (hl : l.length < 3518437208883) :
    Calls Try.prog 10 #[.slice A l.length c] w (Made k50 50 (l.map conv) w) := by
  have HR := Aside0.mk hr
  clear hr
  have HB := Aside0.mk (Below.refl w.heap.size w)
  go_enter Try.func10, Try.ntmps10
  go_wp2_with fail
  go_loopw [3, 8] (fun v3 v8 w' => ∃ (i : Nat), v8 = .int .i64 (i : Int) ∧ i ≤ l.length ∧ Aside0 (k50.R 50 w' w.heap.size (fun _ => True) v3 ((l.take i).map conv)) ∧ Aside0 (Below w.heap.size w w')) (fun _ v8 _ => l.length - (intOf v8).toNat)
  case atStart => exact ⟨0, rfl, by omega, ⟨Kd.R_nil _ _ _ _ _⟩, HB⟩
  case round =>
    clear HB
    obtain ⟨i, rfl, hi, HO, HB⟩ := hrel
    by_cases hlt : i < l.length
    · have hC := Kd.C_below HR.out HB.out
      obtain ⟨ad, ea, h0, h1, h2, h3⟩ := at_T52 hC (i : Int) (by omega) (by omega)
      cases ea
      simp only [Int.toNat_natCast] at h0 h1 h2 h3
      have HX : Aside0 ((l.take i).map conv ++ [conv (rd_T52 l i)] = (l.take (i + 1)).map conv) := ⟨by
        rw [← List.take_append_getElem hlt, List.map_append]; simp [rd_T52, hlt]⟩
      have HLn : Aside0 (((l.take i).map conv).length = i) := ⟨by simp; omega⟩
      clear hC
      generalize rd_T52 l (i : Int) = x at *
      go_wp2_with (first | (at_builtin; refine Kd.R_append k50 (w0 := w) w.heap.size rfl (.tmp 12) (.tmp 14) 26 50 (.agg #[(.int .i64 0), (.int .u8 0), (.int .i64 0), (.string ⟨#[]⟩)]) 40 rfl Try.underlying26 info50 rfl (by decide) (by omega) u3 ((l.take i).map conv) (conv x) [.int .i64 x.f0.f0, .int .u8 x.f0.f1, .int .i64 x.f0.f2, .string x.f1] (fun _ => True) (fun _ => False) rfl ?aX ?aP (fun _ hk => hk.elim) ?aF ?aO ?aB ?aS ?aL ?_; (case aX => first | rfl | (simp [Act.eval]; done)); (case aP => exact k50_mkM _ _ _ (conv x)); (case aF => exact fun _ _ => trivial); (case aO => exact (by repeat (first | exact HO.out | apply Kd.R_alloc | apply Kd.R_drewN | apply Kd.R_drew))); (case aB => exact (by repeat (first | exact HB.out | apply below_alloc | apply pw_below_drewN | apply below_drew))); (case aS => exact Below.size (by repeat (first | exact HB.out | apply below_alloc | apply pw_below_drewN | apply below_drew))); (case aL => have := HLn.out; omega); intro v1 w1 ho hb hg hat; have HO1 := Aside0.mk ho; have HB1 := Aside0.mk hb; clear ho hb hg hat))
      go_roundw
      case rel => exact ⟨i + 1, by go_num, by omega, ⟨by rw [← HX.out]; exact HO1.out⟩, HB1⟩
      case measure => simp [intOf]; omega
    · go_wp2_with fail
      go_ret
      exact ⟨_, rfl, by have := HO.out; rwa [List.take_of_length_le (by omega)] at this, HB.out⟩

set_option maxHeartbeats 1000000 in
set_option maxRecDepth 100000 in
theorem ours_calls (A : Option Addr) (c : Nat) (l : List S50) (w : World) (hr : Kd.C k50 w A l.length l) (hl : l.length < 3518437208883) :
    Calls Try.prog 12 #[.slice A l.length c] w (Made k52 52 (l.map back) w) := by
  have HR := Aside0.mk hr
  clear hr
  have HB := Aside0.mk (Below.refl w.heap.size w)
  go_enter Try.func12, Try.ntmps12
  go_wp2_with fail
  go_loopw [3, 8] (fun v3 v8 w' => ∃ (i : Nat), v8 = .int .i64 (i : Int) ∧ i ≤ l.length ∧ Aside0 (k52.R 52 w' w.heap.size (fun _ => True) v3 ((l.take i).map back)) ∧ Aside0 (Below w.heap.size w w')) (fun _ v8 _ => l.length - (intOf v8).toNat)
  case atStart => exact ⟨0, rfl, by omega, ⟨Kd.R_nil _ _ _ _ _⟩, HB⟩
  case round =>
    clear HB
    obtain ⟨i, rfl, hi, HO, HB⟩ := hrel
    by_cases hlt : i < l.length
    · have hC := Kd.C_below HR.out HB.out
      obtain ⟨ad, ea, h0, h1, h2, h3⟩ := at_T50 hC (i : Int) (by omega) (by omega)
      cases ea
      simp only [Int.toNat_natCast] at h0 h1 h2 h3
      have HX : Aside0 ((l.take i).map back ++ [back (rd_T50 l i)] = (l.take (i + 1)).map back) := ⟨by
        rw [← List.take_append_getElem hlt, List.map_append]; simp [rd_T50, hlt]⟩
      have HLn : Aside0 (((l.take i).map back).length = i) := ⟨by simp; omega⟩
      clear hC
      generalize rd_T50 l (i : Int) = x at *
      go_wp2_with (first | (at_builtin; refine Kd.R_append k52 (w0 := w) w.heap.size rfl (.tmp 12) (.tmp 14) 22 52 (.agg #[(.int .i64 0), (.int .u8 0), (.int .i64 0), (.string ⟨#[]⟩)]) 40 rfl Try.underlying22 info52 rfl (by decide) (by omega) u3 ((l.take i).map back) (back x) [.int .i64 x.f0.f0, .int .u8 x.f0.f1, .int .i64 x.f0.f2, .string x.f1] (fun _ => True) (fun _ => False) rfl ?aX ?aP (fun _ hk => hk.elim) ?aF ?aO ?aB ?aS ?aL ?_; (case aX => first | rfl | (simp [Act.eval]; done)); (case aP => exact k52_mkM _ _ _ (back x)); (case aF => exact fun _ _ => trivial); (case aO => exact (by repeat (first | exact HO.out | apply Kd.R_alloc | apply Kd.R_drewN | apply Kd.R_drew))); (case aB => exact (by repeat (first | exact HB.out | apply below_alloc | apply pw_below_drewN | apply below_drew))); (case aS => exact Below.size (by repeat (first | exact HB.out | apply below_alloc | apply pw_below_drewN | apply below_drew))); (case aL => have := HLn.out; omega); intro v1 w1 ho hb hg hat; have HO1 := Aside0.mk ho; have HB1 := Aside0.mk hb; clear ho hb hg hat))
      go_roundw
      case rel => exact ⟨i + 1, by go_num, by omega, ⟨by rw [← HX.out]; exact HO1.out⟩, HB1⟩
      case measure => simp [intOf]; omega
    · go_wp2_with fail
      go_ret
      exact ⟨_, rfl, by have := HO.out; rwa [List.take_of_length_le (by omega)] at this, HB.out⟩

/-- has the source view, from -/
def isOf (view src : Int) (x : S50) : Bool := x.f0.f0 == view && x.f0.f1 == src
def ofL (l : List S50) (view src : Int) : List S50 := l.filter (isOf view src)

theorem source_calls (x : S50) (w : World) : Calls Try.prog 25 #[.agg #[.int .i64 x.f0.f0, .int .u8 x.f0.f1, .int .i64 x.f0.f2, .string x.f1]] w (Kept (.agg #[.int .i64 x.f0.f0, .int .u8 x.f0.f1]) w) := by
  have HB := Aside0.mk (Below.refl w.heap.size w)
  go_enter Try.func25, Try.ntmps25
  go_wp2_with fail
  exact bodyPost_ret (v := .agg #[.int .i64 x.f0.f0, .int .u8 x.f0.f1]) (by simp [results, Try.results25, go_sem]) rfl ⟨rfl, (by repeat (first | exact HB.out | apply Below.setCell | apply below_alloc | apply pw_below_drewN | apply below_drew | simp))⟩

set_option maxHeartbeats 1000000 in
set_option maxRecDepth 100000 in
theorem of_calls (A : Option Addr) (c : Nat) (l : List S50) (v s : Int) (w : World) (hr : Kd.C k50 w A l.length l) (hl : l.length < 3518437208883) :
    Calls Try.prog 13 #[.slice A l.length c, .int .i64 v, .int .u8 s] w (Made k50 50 (ofL l v s) w) := by
  have HR := Aside0.mk hr
  clear hr
  have HB := Aside0.mk (Below.refl w.heap.size w)
  go_enter Try.func13, Try.ntmps13
  go_wp2_with fail
  go_loopw [7, 12] (fun v7 v12 w' => ∃ (i : Nat), v12 = .int .i64 (i : Int) ∧ i ≤ l.length ∧ Aside0 (k50.R 50 w' w.heap.size (fun _ => True) v7 ((l.take i).filter (isOf v s))) ∧ Aside0 (Below w.heap.size w w')) (fun _ v12 _ => l.length - (intOf v12).toNat)
  case atStart => exact ⟨0, rfl, by omega, ⟨Kd.R_nil _ _ _ _ _⟩, HB⟩
  case round =>
    clear HB
    obtain ⟨i, rfl, hi, HO, HB⟩ := hrel
    by_cases hlt : i < l.length
    · have hC := Kd.C_below HR.out HB.out
      obtain ⟨ad, ea, h0, h1, h2, h3⟩ := at_T50 hC (i : Int) (by omega) (by omega)
      cases ea
      simp only [Int.toNat_natCast] at h0 h1 h2 h3
      have HX : Aside0 ((l.take (i + 1)).filter (isOf v s) = (l.take i).filter (isOf v s) ++ (if isOf v s (rd_T50 l i) = true then [rd_T50 l i] else [])) := ⟨by
        rw [← List.take_append_getElem hlt, List.filter_append, rd50 hlt]
        cases hc : isOf v s l[i] <;> simp [hc]⟩
      have HLn : Aside0 (((l.take i).filter (isOf v s)).length ≤ i) := ⟨Nat.le_trans (List.length_filter_le _ _) (by simp; omega)⟩
      clear hC
      generalize rd_T50 l (i : Int) = x at *
      cases hc : isOf v s x with
      | true =>
        have hc' : (x.f0.f0 == v && (x.f0.f1 == s)) = true := hc
        have HC := Aside0.mk hc
        clear hc
        go_wp2_with (first | (go_at_call 25; refine (source_calls x _).mono ?_; rintro e w1 ⟨rfl, hb⟩; have HBx := Aside0.mk (below_back hb (by repeat (first | exact HB.out | apply below_alloc | apply pw_below_drewN | apply below_drew1 | apply below_drew))); have HOx := Aside0.mk (Kd.R_below (by repeat (first | exact HO.out | apply Kd.R_alloc | apply Kd.R_drewN | apply Kd.R_drew)) hb); have hsz := hb.size; obtain ⟨g0, g1⟩ := below_cells hb; clear HB HO hb; have HB := HBx; have HO := HOx; clear HBx HOx) | (at_builtin; refine Kd.R_append k50 (w0 := w) w.heap.size rfl (.tmp 22) (.tmp 24) 26 50 (.agg #[(.int .i64 0), (.int .u8 0), (.int .i64 0), (.string ⟨#[]⟩)]) 40 rfl Try.underlying26 info50 rfl (by decide) (by omega) u7 ((l.take i).filter (isOf v s)) x [.int .i64 x.f0.f0, .int .u8 x.f0.f1, .int .i64 x.f0.f2, .string x.f1] (fun _ => True) (fun _ => False) rfl ?aX ?aP (fun _ hk => hk.elim) ?aF ?aO ?aB ?aS ?aL ?_; (case aX => first | rfl | (simp [Act.eval]; done)); (case aP => exact k50_mkM _ _ _ x); (case aF => exact fun _ _ => trivial); (case aO => exact (by repeat (first | exact HO.out | apply Kd.R_alloc | apply Kd.R_drewN | apply Kd.R_drew))); (case aB => exact (by repeat (first | exact HB.out | apply below_alloc | apply pw_below_drewN | apply below_drew))); (case aS => exact Below.size (by repeat (first | exact HB.out | apply below_alloc | apply pw_below_drewN | apply below_drew))); (case aL => have := HLn.out; omega); intro v1 w1 ho hb hg hat; have HO1 := Aside0.mk ho; have HB1 := Aside0.mk hb; clear ho hb hg hat))
        go_roundw
        case rel => exact ⟨i + 1, by go_num, by omega, ⟨by rw [HX.out, if_pos HC.out]; exact HO1.out⟩, HB1⟩
        case measure => simp [intOf]; omega
      | false =>
        have hc' : (x.f0.f0 == v && (x.f0.f1 == s)) = false := hc
        have HC := Aside0.mk hc
        clear hc
        go_wp2_with (first | (go_at_call 25; refine (source_calls x _).mono ?_; rintro e w1 ⟨rfl, hb⟩; have HBx := Aside0.mk (below_back hb (by repeat (first | exact HB.out | apply below_alloc | apply pw_below_drewN | apply below_drew1 | apply below_drew))); have HOx := Aside0.mk (Kd.R_below (by repeat (first | exact HO.out | apply Kd.R_alloc | apply Kd.R_drewN | apply Kd.R_drew)) hb); have hsz := hb.size; obtain ⟨g0, g1⟩ := below_cells hb; clear HB HO hb; have HB := HBx; have HO := HOx; clear HBx HOx))
        go_roundw
        case rel => exact ⟨i + 1, by go_num, by omega, ⟨by rw [HX.out, HC.out, if_neg (by decide), List.append_nil]; exact HO.out⟩, HB⟩
        case measure => simp [intOf]; omega
    · go_wp2_with fail
      go_ret
      exact ⟨_, rfl, by have := HO.out; rwa [List.take_of_length_le (by omega)] at this, HB.out⟩

end Go.Proofs.Ythkofjlbnekgkaa.Trc
