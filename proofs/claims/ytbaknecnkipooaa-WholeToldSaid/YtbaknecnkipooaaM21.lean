/- Rows of items; what Put's closures tell; IndexFunc, ContainsFunc, Clone. slices.Clone, Max and Delete, of items. The map of hold.Right: its keys, and a map as an assertion. Holds as plain data: what Right and Put do. -/
import Derived.Test.YtbaknecnkipooaaM20
import Derived.Test.YtbaknecnkipooaaM19
namespace Go.Proofs.Ytbaknecnkipooaa.Hld
open Go Go.RowKit Go.Proofs.YtbaknecnkipooaaW.PrintWords Go.Proofs.Ytbaknecnkipooaa.Sep Go.Proofs.Ytbaknecnkipooaa.Obj
set_option linter.unusedVariables false
set_option linter.unusedSimpArgs false
def kIt : Kd It where
  sz := 20
  E := []
  K := fun _ x cs => cs = (itC x).toList ∧ okI x
  M := fun _ _ _ x cs => cs = (itC x).toList ∧ okI x
  K_len := fun h => by rw [h.1, Array.length_toList, itC_size _ h.2.1.1]
  K_one := fun h u hu => itC_one _ u (by rw [← h.1]; exact hu)
  K_below := fun _ h => h
  K_of_M := fun h => h
  M_mono := fun _ h => h
  M_bound := fun h => h
  M_move := fun _ h => h
  M_lower := fun _ h => h
theorem kIt_M {w : World} {base : Nat} {ok : Nat → Prop} {x : It} (h : okI x) : kIt.M w base ok x (itC x).toList := ⟨rfl, h⟩
def zI : It := ⟨0, 0, 0, List.replicate 16 0, ⟨#[]⟩⟩
theorem zI_len : zI.past.length = 16 := rfl
theorem at_It {w : World} {A : Option Addr} {n : Nat} {xs : List It} (h : kIt.C w A n xs) (i : Nat) (h1 : i < xs.length) : ∃ g o, A = some ⟨g, o, none⟩ ∧ okI xs[i] ∧ w.rangeAt g (o + i * 20) (itC xs[i]).toList := by
  have hn := Kd.C_len h
  obtain ⟨ad, c, e, _, hK, hc0⟩ := Kd.C_get h zI (i : Int) (by omega) (by omega)
  have hx : xs.getD (i : Int).toNat zI = xs[i] := by simp [h1]
  rw [hx] at hK
  obtain ⟨rfl, hok⟩ := hK
  have hc : ∀ j u, (itC xs[i]).toList[j]? = some u → w.cell? (ad.add (i * 20 + j)) = some u := hc0
  obtain ⟨g, o, sp⟩ := ad
  cases sp with
  | none => exact ⟨g, o, e, hok, fun j v hj => by have := hc j v hj; rwa [add_at, ← Nat.add_assoc] at this⟩
  | some s =>
    exfalso
    obtain ⟨ad2, c2, e2, _, hK2, hc2⟩ := Kd.C_get h zI (0 : Int) (by omega) (by omega)
    obtain rfl := Option.some.inj (e.symm.trans e2)
    obtain ⟨rfl, _⟩ := hK2
    have h0 := hc2 0 (.int .u8 (xs.getD (0 : Int).toNat zI).frm) rfl
    have e3 : ((⟨g, o, some s⟩ : Addr).add ((0 : Int).toNat * kIt.sz + 0)) = ⟨g, o, some s⟩ := rfl
    rw [e3] at h0
    unfold World.cell? at h0
    split at h0 <;> simp at h0
section
variable {P : Program} {ops : Array Oper} {rest : List Oper} {o : Oper} {a : Act} {Q : Exit → Act → World → Prop}
theorem ev_loadR {w : World} {b p0 n : Nat} {cs : Array Value} (hr : w.rangeAt b p0 cs.toList) (hgd : o.guard = none) {t : TypeId} {p : Operand} (ho : o.op = .load t p) (hp : a.eval p = .pointer (some ⟨b, p0, none⟩)) {d : TypeDesc} (hu : P.underlying t = some d) (hd : d.isRow = true) (hs : cs.size = n) (hn : (P.info? t).map (·.size) = some n)
    (h : wpList P ops Q rest (a.put o.dst (.agg cs)) w) : wpList P ops Q (o :: rest) a w := by
  refine wpList_load_mid hgd t p ho b p0 hp cs.toList d hr hu hd (by rw [hn]; simp [hs]) ?_
  simpa using h
end
def same (x y : It) : Bool := decide (x.frm = y.frm) && decide (x.seq = y.seq)
def isIn (l : List It) (x : It) : Bool := l.any fun y => same y x
def idxI (p : It → Bool) (l : List It) : Int := match l.findIdx? p with
  | some i => (i : Int)
  | none => -1
theorem idxI_yes {p : It → Bool} {l : List It} {i : Nat} (hi : i < l.length) (h : p l[i] = true) (hb : ∀ j (hj : j < l.length), j < i → p l[j] = false) : idxI p l = (i : Int) := by
  have : l.findIdx? p = some i := by
    rw [List.findIdx?_eq_some_iff_getElem]
    exact ⟨hi, h, fun j hj => by simpa using hb j (by omega) hj⟩
  rw [idxI, this]
theorem idxI_no {p : It → Bool} {l : List It} (hb : ∀ j (hj : j < l.length), p l[j] = false) : idxI p l = -1 := by
  have : l.findIdx? p = none := by
    rw [List.findIdx?_eq_none_iff]
    intro x hx
    obtain ⟨j, hj, rfl⟩ := List.getElem_of_mem hx
    exact hb j hj
  rw [idxI, this]
set_option maxRecDepth 100000 in
theorem clo1_calls (w : World) (g : Nat) (x y : It) (hy : okI y) (hg : w.heap[g]? = some (.cells (itC x) 56 (0, 0))) : Calls Try.prog 27 #[.agg (itC y), .pointer (some ⟨g, 0, none⟩)] w (Kept (.bool (same y x)) w) := by
  have HG := Aside0.mk hg
  clear hg
  have HH : Aside0 (OwnS (fun _ => False) [] w w) := ⟨OwnS.of_own (Own.start w)⟩
  by_cases h1 : y.frm = x.frm
  · by_cases h2 : y.seq = x.seq
    · have HS : Aside0 (same y x = true) := ⟨by simp [same, h1, h2]⟩
      go_enter Try.func27, Try.ntmps27
      go_wp2_with (first
        | ((with_reducible refine gate_dst (N := 2) rfl ?_); refine evS_box (oh HH) rfl (cs := itC y) (T := 56) ?_ ?_; (focus first | (go_simp; done) | (go_simp; rfl)); intro g1 w1 he hh; clear he; replace HH : Aside0 (OwnS (fun _ => False) [Sep.blk g1 (itC y) 56] w w1) := ⟨hh⟩; clear hh; have fc1 : w1.cell? ⟨g1, 0, none⟩ = some (.int .u8 y.frm) := ((blk_cell (OwnS.blk HH.out 0 rfl) 0).trans rfl); have fc2 : w1.cell? ⟨g1, 1, none⟩ = some (.int .i64 y.seq) := ((blk_cell (OwnS.blk HH.out 0 rfl) 1).trans rfl); have hb0 := pw_cell_below (below_frm (OwnS.frm HH.out)) (blk_cell HG.out 0); have hb1 := pw_cell_below (below_frm (OwnS.frm HH.out)) (blk_cell HG.out 1); have hb2 : w1.cell? ⟨g, 0, none⟩ = some (.int .u8 x.frm) := hb0; have hb3 : w1.cell? ⟨g, 1, none⟩ = some (.int .i64 x.seq) := hb1; clear hb0 hb1)
        | fail
        | fail)
      go_ret
      exact ⟨by rw [HS.out]; simp [h2], below_frm (OwnS.frm HH.out)⟩
    · have HS : Aside0 (same y x = false) := ⟨by simp [same, h2]⟩
      go_enter Try.func27, Try.ntmps27
      go_wp2_with (first
        | ((with_reducible refine gate_dst (N := 2) rfl ?_); refine evS_box (oh HH) rfl (cs := itC y) (T := 56) ?_ ?_; (focus first | (go_simp; done) | (go_simp; rfl)); intro g1 w1 he hh; clear he; replace HH : Aside0 (OwnS (fun _ => False) [Sep.blk g1 (itC y) 56] w w1) := ⟨hh⟩; clear hh; have fc1 : w1.cell? ⟨g1, 0, none⟩ = some (.int .u8 y.frm) := ((blk_cell (OwnS.blk HH.out 0 rfl) 0).trans rfl); have fc2 : w1.cell? ⟨g1, 1, none⟩ = some (.int .i64 y.seq) := ((blk_cell (OwnS.blk HH.out 0 rfl) 1).trans rfl); have hb0 := pw_cell_below (below_frm (OwnS.frm HH.out)) (blk_cell HG.out 0); have hb1 := pw_cell_below (below_frm (OwnS.frm HH.out)) (blk_cell HG.out 1); have hb2 : w1.cell? ⟨g, 0, none⟩ = some (.int .u8 x.frm) := hb0; have hb3 : w1.cell? ⟨g, 1, none⟩ = some (.int .i64 x.seq) := hb1; clear hb0 hb1)
        | fail
        | fail)
      go_ret
      exact ⟨by rw [HS.out]; simp [h2], below_frm (OwnS.frm HH.out)⟩
  · have HS : Aside0 (same y x = false) := ⟨by simp [same, h1]⟩
    go_enter Try.func27, Try.ntmps27
    go_wp2_with (first
        | ((with_reducible refine gate_dst (N := 2) rfl ?_); refine evS_box (oh HH) rfl (cs := itC y) (T := 56) ?_ ?_; (focus first | (go_simp; done) | (go_simp; rfl)); intro g1 w1 he hh; clear he; replace HH : Aside0 (OwnS (fun _ => False) [Sep.blk g1 (itC y) 56] w w1) := ⟨hh⟩; clear hh; have fc1 : w1.cell? ⟨g1, 0, none⟩ = some (.int .u8 y.frm) := ((blk_cell (OwnS.blk HH.out 0 rfl) 0).trans rfl); have fc2 : w1.cell? ⟨g1, 1, none⟩ = some (.int .i64 y.seq) := ((blk_cell (OwnS.blk HH.out 0 rfl) 1).trans rfl); have hb0 := pw_cell_below (below_frm (OwnS.frm HH.out)) (blk_cell HG.out 0); have hb1 := pw_cell_below (below_frm (OwnS.frm HH.out)) (blk_cell HG.out 1); have hb2 : w1.cell? ⟨g, 0, none⟩ = some (.int .u8 x.frm) := hb0; have hb3 : w1.cell? ⟨g, 1, none⟩ = some (.int .i64 x.seq) := hb1; clear hb0 hb1)
        | fail
        | fail)
    go_ret
    exact ⟨by rw [HS.out]; simp [h1], below_frm (OwnS.frm HH.out)⟩
theorem range_ho {v : List Int} {s : Value} (hv : v.length = 16) {w : World} {g : Nat} {T : TypeId} (h : w.heap[g]? = some (.cells (hoC v s) T (0, 0))) : w.rangeAt g 0 (vecC v).toList := by
  have := World.rangeAt_of_block h 0 16
  rw [hoC_vec _ _ hv] at this
  exact this
set_option maxRecDepth 100000 in
theorem clo2_calls (w : World) (g : Nat) (told : List Int) (s : Value) (y : It) (ht : okV told) (hy : okI y) (hg : w.heap[g]? = some (.cells (hoC told s) 36 (0, 0))) : Calls Try.prog 33 #[.agg (itC y), .pointer (some ⟨g, 0, none⟩)] w (Kept (.bool (readyB told y)) w) := by
  have HG := Aside0.mk hg
  have htO := Aside0.mk ht
  clear hg
  have HH : Aside0 (OwnS (fun _ => False) [] w w) := ⟨OwnS.of_own (Own.start w)⟩
  go_enter Try.func33, Try.ntmps33
  go_wp2_with (first
    | ((with_reducible refine gate_dst (N := 2) rfl ?_); refine evS_box (oh HH) rfl (cs := itC y) (T := 56) ?_ ?_; (focus first | (go_simp; done) | (go_simp; rfl)); intro g1 w1 he hh; clear he; replace HH : Aside0 (OwnS (fun _ => False) [Sep.blk g1 (itC y) 56] w w1) := ⟨hh⟩; clear hh)
    | ((with_reducible refine gate_ (.load 30 (.tmp 4)) rfl ?_); refine ev_loadR (b := g) (p0 := 0) (n := 16) (cs := vecC told) (range_ho ht.1 (blk_below HG.out ?_)) rfl rfl (by rfl) Try.underlying30 rfl (vecC_size _ ht.1) (by kernel_rfl) ?_; (focus exact below_frm (OwnS.frm (oh HH))))
    | ((with_reducible refine gate_ (.load 56 (.tmp 2)) rfl ?_); refine ev_loadA (OwnS.blk (oh HH) 0 rfl) 0 20 (itC y) (all_of _ 20 (itC_size _ hy.1.1)) rfl rfl (by rfl) Try.underlying56 rfl (itC_size _ hy.1.1) (by kernel_rfl) ?_)
    | (go_at_call 31; refine ownS_call (oh HH) ?_; intro ht; refine (ready_calls _ told y htO.out hy).mono ?_; rintro e w2 ⟨rfl, hb⟩; replace HH : Aside0 (OwnS (fun _ => False) [Sep.blk g1 (itC y) 56] w w2) := ⟨OwnS.step ht hb⟩; clear hb; clear ht)
    | fail
    | fail)
  go_ret
  exact ⟨rfl, below_frm (OwnS.frm HH.out)⟩
set_option maxHeartbeats 1000000 in
set_option maxRecDepth 100000 in
theorem index1_calls (A : Option Addr) (c : Nat) (l : List It) (w : World) (hr : kIt.C w A l.length l) (g : Nat) (z : It) (hg : w.heap[g]? = some (.cells (itC z) 56 (0, 0))) : Calls Try.prog 32 #[.slice A l.length c, .func (.func 27) #[] #[.pointer (some ⟨g, 0, none⟩)]] w (Kept (.int .i64 (idxI (fun y => same y z) l)) w) := by
  have hlm : l.length ≤ 9223372036854775807 := hr.2.1
  have HR := Aside0.mk hr
  have HG := Aside0.mk hg
  skip
  clear hr hg
  have HB := Aside0.mk (Below.refl w.heap.size w)
  go_enter Try.func32, Try.ntmps32
  go_wp2_with fail
  go_loopw [8] (fun v8 W => ∃ (i : Nat), v8 = .int .i64 (i : Int) ∧ i ≤ l.length ∧ Aside0 (∀ j (h : j < l.length), j < i → (fun y => same y z) l[j] = false) ∧ Aside0 (Below w.heap.size w W)) (fun v8 _ => l.length - (intOf v8).toNat)
  case atStart => exact ⟨0, rfl, by omega, ⟨fun j h hj => by omega⟩, HB⟩
  case round =>
    clear HB
    obtain ⟨i, rfl, hi, HD, HB⟩ := hrel
    by_cases hlt : i < l.length
    · obtain ⟨g0, o0, ea, hox, hrx⟩ := at_It (Kd.C_below HR.out HB.out) i hlt
      cases ea
      obtain ⟨x, hx⟩ : ∃ x, l[i] = x := ⟨_, rfl⟩
      rw [hx] at hox hrx
      have HX := Aside0.mk hx
      have HOX := Aside0.mk hox
      have HRX := Aside0.mk hrx
      clear hx hox hrx
      have q0 : 0 ≤ (i : Int) := by omega
      have q1 : (i : Int) < (l.length : Int) := by omega
      cases hp : (fun y => same y z) x with
      | true =>
        have HP := Aside0.mk hp
        clear hp
        go_wp2_with (first | ((with_reducible refine gate_ (.load 56 (.tmp 14)) rfl ?_); refine ev_loadR (b := g0) (p0 := o0 + i * 20) (n := 20) (cs := itC x) HRX.out rfl rfl (by rfl) Try.underlying56 rfl (itC_size _ HOX.out.1.1) (by kernel_rfl) ?_) | (go_at_call 27; refine (clo1_calls _ g z x HOX.out (blk_below HG.out HB.out)).mono ?_; rw [HP.out]; rintro e w1 ⟨rfl, hb⟩; have HBx : Aside0 (Below w.heap.size w w1) := ⟨below_then HB.out (Below.size HB.out) hb⟩; clear HB hb; have HB := HBx; clear HBx) | fail)
        go_ret
        exact ⟨by rw [idxI_yes hlt (by rw [HX.out]; exact HP.out) HD.out]; rfl, HB.out⟩
      | false =>
        have HP := Aside0.mk hp
        clear hp
        go_wp2_with (first | ((with_reducible refine gate_ (.load 56 (.tmp 14)) rfl ?_); refine ev_loadR (b := g0) (p0 := o0 + i * 20) (n := 20) (cs := itC x) HRX.out rfl rfl (by rfl) Try.underlying56 rfl (itC_size _ HOX.out.1.1) (by kernel_rfl) ?_) | (go_at_call 27; refine (clo1_calls _ g z x HOX.out (blk_below HG.out HB.out)).mono ?_; rw [HP.out]; rintro e w1 ⟨rfl, hb⟩; have HBx : Aside0 (Below w.heap.size w w1) := ⟨below_then HB.out (Below.size HB.out) hb⟩; clear HB hb; have HB := HBx; clear HBx) | fail)
        go_roundw
        case rel => exact ⟨i + 1, by go_num, by omega, ⟨fun j h hj => by
            rcases Nat.lt_or_eq_of_le (Nat.le_of_lt_succ hj) with h1 | h1
            · exact HD.out j h h1
            · subst h1; rw [HX.out]; exact HP.out⟩, HB⟩
        case measure => simp [intOf]; omega
    · have hge : i = l.length := by omega
      subst hge
      have HNO : Aside0 (idxI (fun y => same y z) l = -1) := ⟨idxI_no (fun j hj => HD.out j hj hj)⟩
      go_wp2_with fail
      go_ret
      exact ⟨by rw [HNO.out]; rfl, HB.out⟩
set_option maxHeartbeats 1000000 in
set_option maxRecDepth 100000 in
theorem index2_calls (A : Option Addr) (c : Nat) (l : List It) (w : World) (hr : kIt.C w A l.length l) (g : Nat) (told : List Int) (s : Value) (ht : okV told) (hg : w.heap[g]? = some (.cells (hoC told s) 36 (0, 0))) : Calls Try.prog 32 #[.slice A l.length c, .func (.func 33) #[] #[.pointer (some ⟨g, 0, none⟩)]] w (Kept (.int .i64 (idxI (readyB told) l)) w) := by
  have hlm : l.length ≤ 9223372036854775807 := hr.2.1
  have HR := Aside0.mk hr
  have HG := Aside0.mk hg
  have HTO := Aside0.mk ht
  clear ht
  clear hr hg
  have HB := Aside0.mk (Below.refl w.heap.size w)
  go_enter Try.func32, Try.ntmps32
  go_wp2_with fail
  go_loopw [8] (fun v8 W => ∃ (i : Nat), v8 = .int .i64 (i : Int) ∧ i ≤ l.length ∧ Aside0 (∀ j (h : j < l.length), j < i → (readyB told) l[j] = false) ∧ Aside0 (Below w.heap.size w W)) (fun v8 _ => l.length - (intOf v8).toNat)
  case atStart => exact ⟨0, rfl, by omega, ⟨fun j h hj => by omega⟩, HB⟩
  case round =>
    clear HB
    obtain ⟨i, rfl, hi, HD, HB⟩ := hrel
    by_cases hlt : i < l.length
    · obtain ⟨g0, o0, ea, hox, hrx⟩ := at_It (Kd.C_below HR.out HB.out) i hlt
      cases ea
      obtain ⟨x, hx⟩ : ∃ x, l[i] = x := ⟨_, rfl⟩
      rw [hx] at hox hrx
      have HX := Aside0.mk hx
      have HOX := Aside0.mk hox
      have HRX := Aside0.mk hrx
      clear hx hox hrx
      have q0 : 0 ≤ (i : Int) := by omega
      have q1 : (i : Int) < (l.length : Int) := by omega
      cases hp : (readyB told) x with
      | true =>
        have HP := Aside0.mk hp
        clear hp
        go_wp2_with (first | ((with_reducible refine gate_ (.load 56 (.tmp 14)) rfl ?_); refine ev_loadR (b := g0) (p0 := o0 + i * 20) (n := 20) (cs := itC x) HRX.out rfl rfl (by rfl) Try.underlying56 rfl (itC_size _ HOX.out.1.1) (by kernel_rfl) ?_) | (go_at_call 33; refine (clo2_calls _ g told s x HTO.out HOX.out (blk_below HG.out HB.out)).mono ?_; rw [HP.out]; rintro e w1 ⟨rfl, hb⟩; have HBx : Aside0 (Below w.heap.size w w1) := ⟨below_then HB.out (Below.size HB.out) hb⟩; clear HB hb; have HB := HBx; clear HBx) | fail)
        go_ret
        exact ⟨by rw [idxI_yes hlt (by rw [HX.out]; exact HP.out) HD.out]; rfl, HB.out⟩
      | false =>
        have HP := Aside0.mk hp
        clear hp
        go_wp2_with (first | ((with_reducible refine gate_ (.load 56 (.tmp 14)) rfl ?_); refine ev_loadR (b := g0) (p0 := o0 + i * 20) (n := 20) (cs := itC x) HRX.out rfl rfl (by rfl) Try.underlying56 rfl (itC_size _ HOX.out.1.1) (by kernel_rfl) ?_) | (go_at_call 33; refine (clo2_calls _ g told s x HTO.out HOX.out (blk_below HG.out HB.out)).mono ?_; rw [HP.out]; rintro e w1 ⟨rfl, hb⟩; have HBx : Aside0 (Below w.heap.size w w1) := ⟨below_then HB.out (Below.size HB.out) hb⟩; clear HB hb; have HB := HBx; clear HBx) | fail)
        go_roundw
        case rel => exact ⟨i + 1, by go_num, by omega, ⟨fun j h hj => by
            rcases Nat.lt_or_eq_of_le (Nat.le_of_lt_succ hj) with h1 | h1
            · exact HD.out j h h1
            · subst h1; rw [HX.out]; exact HP.out⟩, HB⟩
        case measure => simp [intOf]; omega
    · have hge : i = l.length := by omega
      subst hge
      have HNO : Aside0 (idxI (readyB told) l = -1) := ⟨idxI_no (fun j hj => HD.out j hj hj)⟩
      go_wp2_with fail
      go_ret
      exact ⟨by rw [HNO.out]; rfl, HB.out⟩
theorem idxI_isIn (l : List It) (z : It) : decide (0 ≤ idxI (fun y => same y z) l) = isIn l z := by
  unfold idxI isIn
  cases h : l.findIdx? (fun y => same y z) with
  | none =>
    rw [List.findIdx?_eq_none_iff] at h
    have : l.any (fun y => same y z) = false := by
      rw [List.any_eq_false]
      intro x hx
      simpa using h x hx
    simp [this]
  | some i =>
    rw [List.findIdx?_eq_some_iff_getElem] at h
    obtain ⟨hi, h1, _⟩ := h
    have : l.any (fun y => same y z) = true := by
      rw [List.any_eq_true]
      exact ⟨l[i], List.getElem_mem _, h1⟩
    simp [this]
set_option maxRecDepth 100000 in
theorem contains_calls (A : Option Addr) (c : Nat) (l : List It) (w : World) (hr : kIt.C w A l.length l) (g : Nat) (z : It) (hg : w.heap[g]? = some (.cells (itC z) 56 (0, 0))) : Calls Try.prog 30 #[.slice A l.length c, .func (.func 27) #[] #[.pointer (some ⟨g, 0, none⟩)]] w (Kept (.bool (isIn l z)) w) := by
  have HI := Aside0.mk (idxI_isIn l z)
  go_enter Try.func30, Try.ntmps30
  go_wp2_with (first | (go_at_call 32; refine (index1_calls A c l w hr g z hg).mono ?_; rintro e w1 ⟨rfl, hb⟩; have HB := Aside0.mk hb; clear hb) | fail)
  go_ret
  exact ⟨by rw [← HI.out]; rfl, HB.out⟩
end Go.Proofs.Ytbaknecnkipooaa.Hld
namespace Go.Proofs.Ytbaknecnkipooaa.Hld
open Go Go.RowKit Go.Proofs.YtbaknecnkipooaaW.PrintWords Go.Proofs.Ytbaknecnkipooaa.Sep Go.Proofs.Ytbaknecnkipooaa.Obj
set_option linter.unusedVariables false
set_option linter.unusedSimpArgs false
theorem infoI : (Try.prog.info? 56).map (fun i => (i.zero, i.size, i.bytes)) = some (some (.agg (itC zI)), 20, 72) := by kernel_rfl
theorem infoR : (Try.prog.info? 40).map (fun i => (i.zero, i.size, i.bytes)) = some (some (.agg (itC zI)), 20, 72) := by kernel_rfl
theorem R_empty {α : Type} (d : Kd α) (e : TypeId) (W : World) (base : Nat) (hb : base ≤ W.heap.size) : d.R e (W.alloc (.cells #[] e)) base (fun _ => True) (.slice (some ⟨W.heap.size, 0, none⟩) 0 0) [] :=
  ⟨fun _ _ => trivial, [], by simpa using World.ownsRow_lit (base := base) (e := e) (size := d.sz) W #[] 0 hb (by simp [maxLen]) (by simp), Reps.none _ _⟩
theorem row_made {α : Type} {d : Kd α} {e : Nat} {v : Value} {xs : List α} {w w' : World} (hb : Below w.heap.size w w') (h : d.R e w' w.heap.size (fun _ => True) v xs) : Own [Sep.row d e v xs] w w' :=
  (Own.start w).add hb (Kd.R_mono (Kd.R_bound (Kd.R_lower (Kd.R_bound h) (Nat.zero_le _))) (fun k hk => ⟨hk.1.2.1, hk.1.2.2.1⟩))
set_option maxHeartbeats 1000000 in
set_option maxRecDepth 100000 in
theorem clone_calls (A : Option Addr) (c : Nat) (l : List It) (w : World) (hr : kIt.C w A l.length l) (hl : l.length ≤ 1000000) :
    Calls Try.prog 26 #[.slice A l.length c] w (fun e w' => ∃ A' c', e = .returned (.slice A' l.length c') ∧ Own [Sep.row kIt 56 (.slice A' l.length c') l] w w') := by
  have HR := Aside0.mk hr
  clear hr
  have HB := Aside0.mk (Below.refl w.heap.size w)
  cases A with
  | none =>
    have h0 : l = [] := by
      have := HR.out
      cases l with
      | nil => rfl
      | cons x r =>
        obtain ⟨ad, h, _⟩ := this.2.2 (by simp)
        cases h
    subst h0
    have hq : ∀ W, (binOp .eql 34 (.slice none 0 c) (.slice none 0 0)).run Try.prog W = .ok (.bool true) W := fun (W : World) => Lib.run_eql_slice_nil (P := Try.prog) W 34 56 none 0 c 0 0 Try.underlying34
    go_enter Try.func26, Try.ntmps26
    go_wp2_with fail
    go_ret
    exact ⟨_, _, rfl, Own.nil (Own.start w)⟩
  | some ad =>
    have hq : ∀ W, (binOp .eql 34 (.slice (some ad) l.length c) (.slice none 0 0)).run Try.prog W = .ok (.bool false) W := fun (W : World) => Lib.run_eql_slice_nil (P := Try.prog) W 34 56 (some ad) l.length c 0 0 Try.underlying34
    go_enter Try.func26, Try.ntmps26
    go_wp2_with (first
      | (at_builtin; refine Kd.R_append_rows kIt (Rr := kIt.K w) (w0 := w) w.heap.size rfl (.tmp 5) (.tmp 6) 34 56 (.agg (itC zI)) 72 rfl Try.underlying34 infoI rfl (by decide) (by omega) _ [] l (some ad) l.length c (fun _ => True) (fun _ => False) rfl rfl ?aO ?aR ?aM (fun _ hk => hk.elim) (fun _ _ => trivial) ?aB ?aS ?aL ?_; (case aO => exact R_empty kIt 56 w w.heap.size (Nat.le_refl _)); (case aR => exact (ReadsRow.imp_ (Kd.C_alloc HR.out _) (Below.refl _ _) (fun p c hp => hp))); (case aM => intro x cs hx; exact hx); (case aB => exact (by repeat (first | (with_reducible exact HB.out) | (with_reducible refine below_alloc ?_ _) | (with_reducible refine pw_below_drewN ?_ _) | (with_reducible refine below_drew ?_)))); (case aS => simp); (case aL => simp; omega); intro v1 w1 ho hb hg hat; have HO1 := Aside0.mk ho; have HB1 := Aside0.mk hb; clear ho hb hg hat)
      | fail)
    go_ret
    have h1 := row_made HB1.out (by simpa using HO1.out)
    obtain ⟨A', c', e⟩ := h1.slice 0 rfl
    subst e
    exact ⟨_, _, rfl, h1⟩
set_option maxHeartbeats 1000000 in
set_option maxRecDepth 100000 in
theorem max_calls (w : World) (g : Nat) (v : List Int) (s : Value) (T : TypeId) (hv : v.length = 16) (hg : w.heap[g]? = some (.cells (hoC v s) T (0, 0))) :
    Calls Try.prog 62 #[.slice (some ⟨g, 0, none⟩) 16 16] w (fun e w' => ∃ m, e = .returned (.int .u16 m) ∧ decide (1000 < m) = !(v.all fun n => decide (n ≤ 1000)) ∧ Below w.heap.size w w') := by
  have HG : Aside0 (∀ i, i < 16 → w.cell? ⟨g, i, none⟩ = some (.int .u16 (v.getD i 0))) := ⟨fun i hi => (blk_cell hg i).trans (hoC_at _ _ i (by omega))⟩
  have HV := Aside0.mk hv
  obtain ⟨x0, hx0⟩ : ∃ x, v.getD 0 0 = x := ⟨_, rfl⟩
  have f0 := HG.out 0 (by decide)
  rw [hx0] at f0
  have HX0 := Aside0.mk hx0
  clear hg hv hx0
  go_enter Try.func62, Try.ntmps62
  go_wp2_with fail
  go_loopw [3, 4] (fun v3 v4 W => ∃ (i : Nat) (m : Int), v3 = .int .u16 m ∧ v4 = .int .i64 (i : Int) ∧ 1 ≤ i ∧ i ≤ 16 ∧ Aside0 ((∀ j, j < i → v.getD j 0 ≤ m) ∧ ∃ j, j < i ∧ v.getD j 0 = m) ∧ W = w) (fun _ v4 _ => 16 - (intOf v4).toNat)
  case atStart => exact ⟨1, x0, rfl, rfl, by omega, by omega, ⟨fun j hj => by (have : j = 0 := (by omega)); subst this; exact Int.le_of_eq HX0.out, 0, by omega, HX0.out⟩, rfl⟩
  case round =>
    obtain ⟨i, m, rfl, rfl, h1, hi, HM, rfl⟩ := hrel
    by_cases hlt : i < 16
    · obtain ⟨x, hx⟩ : ∃ x, v.getD i 0 = x := ⟨_, rfl⟩
      have fi := HG.out i hlt
      rw [hx] at fi
      have HX := Aside0.mk hx
      clear hx
      have q0 : 0 ≤ (i : Int) := by omega
      have q1 : (i : Int) < 16 := by omega
      have HS : Aside0 ((∀ j, j < i + 1 → v.getD j 0 ≤ (if m < x then x else m)) ∧ ∃ j, j < i + 1 ∧ v.getD j 0 = (if m < x then x else m)) := ⟨by
        obtain ⟨ha, j0, hj0, he⟩ := HM.out
        refine ⟨fun j hj => ?_, ?_⟩
        · rcases Nat.lt_or_ge j i with h | h
          · have := ha j h; split <;> omega
          · have : j = i := by omega
            subst this
            rw [HX.out]; split <;> omega
        · split
          · exact ⟨i, by omega, HX.out⟩
          · exact ⟨j0, by omega, he⟩⟩
      go_wp2_with fail
      go_roundw
      case rel => exact ⟨i + 1, if m < x then x else m, rfl, by go_num, by omega, by omega, HS, by trivial⟩
      case measure => simp [intOf]; omega
    · have hi16 : i = 16 := by omega
      subst hi16
      have HE : Aside0 (decide (1000 < m) = !(v.all fun n => decide (n ≤ 1000))) := ⟨by
        obtain ⟨ha, j0, hj0, he⟩ := HM.out
        by_cases hm : 1000 < m
        · have : v.all (fun n => decide (n ≤ 1000)) = false := by
            rw [List.all_eq_false]
            have hl : j0 < v.length := by rw [HV.out]; exact hj0
            refine ⟨v[j0], List.getElem_mem _, ?_⟩
            have : v.getD j0 0 = v[j0] := by simp [List.getD_eq_getElem?_getD, hl]
            rw [this] at he
            simp; omega
          rw [this]; simp [hm]
        · have : v.all (fun n => decide (n ≤ 1000)) = true := by
            rw [List.all_eq_true]
            intro x hx
            obtain ⟨j, hj, rfl⟩ := List.getElem_of_mem hx
            have h2 := ha j (by rw [← HV.out]; exact hj)
            have : v.getD j 0 = v[j] := by simp [List.getD_eq_getElem?_getD, hj]
            rw [this] at h2
            simp; omega
          rw [this]; simp [hm]⟩
      go_wp2_with fail
      go_ret
      exact ⟨m, rfl, HE.out, Below.refl _ _⟩
theorem infoS : (Try.prog.info? 56).map (·.size) = some kIt.sz := by kernel_rfl
theorem zeroIt (w : World) : (zeroValue 56).run Try.prog w = .ok (.agg (itC zI)) w := by kernel_rfl
theorem del_at (g c i : Nat) : (if c = i + 1 then some (⟨g, 0, none⟩ : Addr) else some ⟨g, (i + 1) * 20, none⟩) = if c = i + 1 then some ⟨g, 0, none⟩ else (some (⟨g, 0, none⟩ : Addr)).map (·.add ((i + 1) * kIt.sz)) := by
  rw [Option.map_some, add_plain]; rfl
set_option maxHeartbeats 2000000 in
set_option maxRecDepth 100000 in
theorem delete_calls (S : Nat → Prop) (g n c : Nat) (xs : List It) (w : World) (hT : OwnS S [Sep.row kIt 56 (.slice (some ⟨g, 0, none⟩) n c) xs] w w) (i : Nat) (hi : i < n) (hnc : n ≤ c) (hc : c ≤ 9223372036854775807) :
    Calls Try.prog 34 #[.slice (some ⟨g, 0, none⟩) n c, .int .i64 (i : Int), .int .i64 ((i : Int) + 1)] w (fun e w' => e = .returned (.slice (some ⟨g, 0, none⟩) (n - 1) c) ∧ OwnS S [Sep.row kIt 56 (.slice (some ⟨g, 0, none⟩) (n - 1) c) (xs.eraseIdx i)] w w') := by
  have HH := Aside0.mk hT
  clear hT
  have hne : ((i : Int) == ((i + 1 : Nat) : Int)) = false := by simp; omega
  have g1 : 0 ≤ (i : Int) := by omega
  have g2 : (i : Int) ≤ ((i + 1 : Nat) : Int) := by omega
  have g3 : ((i + 1 : Nat) : Int) ≤ (n : Int) := by omega
  have g4 : (i : Int) ≤ (c : Int) := by omega
  have g5 : ((i + 1 : Nat) : Int) ≤ (c : Int) := by omega
  have g8 : 0 ≤ (i : Int) + 1 := by omega
  have g9 : (i : Int) + 1 ≤ (n : Int) := by omega
  have g10 : (i : Int) + 1 ≤ (c : Int) := by omega
  have g6 : i ≤ c := by omega
  have g7 : i + 1 ≤ c := by omega
  show Calls Try.prog 34 #[.slice (some ⟨g, 0, none⟩) n c, .int .i64 (i : Int), .int .i64 ((i + 1 : Nat) : Int)] w _
  go_enter Try.func34, Try.ntmps34
  go_wp2_with fail
  go_region_law (refine evS_delete_step kIt (oh HH) 0 rfl (.tmp 22) (.tmp 25) 34 56 rfl Try.underlying34 infoS (n := n) (c := c) (k := i) (A := if c = i + 1 then some ⟨g, 0, none⟩ else some ⟨g, (i + 1) * 20, none⟩) (m := n - (i + 1)) (c2 := c - (i + 1)) rfl ?_ ?_ (del_at g c i) rfl hi ?_; (focus first | rfl | (simp [Act.eval]; done) | fail); (focus first | rfl | (simp [Act.eval]; done) | fail); intro w2 hh; replace HH : Aside0 (OwnS S [Sep.row kIt 56 (.slice (some ⟨g, 0, none⟩) (n - 1) c) (xs.eraseIdx i)] w w2) := ⟨hh⟩; clear hh)
  go_wp2_with (first
    | ((with_reducible refine gate_ (.call { callee := .builtin .clear, args := #[.tmp 31], argTypes := #[34] }) rfl ?_); refine evS_clear kIt (oh HH) 0 rfl rfl (.tmp 31) 34 56 rfl (.agg (itC zI)) Try.underlying34 zeroIt rfl (by decide) (n := n - 1) (c := c) (q := n - (n - 1)) (c2 := c - (n - 1)) rfl ?_ ?_ ?_ ?_; (focus first | rfl | (simp [Act.eval]; done) | fail); (focus omega); (focus omega); intro w3 hh; replace HH : Aside0 (OwnS S [Sep.row kIt 56 (.slice (some ⟨g, 0, none⟩) (n - 1) c) (xs.eraseIdx i)] w w3) := ⟨hh⟩; clear hh)
    | fail)
  all_goals (go_ret; first | exact ⟨rfl, HH.out⟩ | (subst_vars; exact ⟨rfl, HH.out⟩))
end Go.Proofs.Ytbaknecnkipooaa.Hld
namespace Go.Proofs.Ytbaknecnkipooaa.Hld
open Go Go.RowKit Go.Maps Go.Proofs.YtbaknecnkipooaaW.PrintWords Go.Proofs.Ytbaknecnkipooaa.Mp Go.Proofs.Ytbaknecnkipooaa.Sep Go.Proofs.Ytbaknecnkipooaa.Obj
set_option linter.unusedVariables false
set_option linter.unusedSimpArgs false
theorem laidOut : laidOutB Try.prog = true := by kernel_rfl
def WI (k : IntKind) (x : Int) : Prop := (Lit.int k x).wf = true
def spotV (s : Int × Int) : Value := .agg #[.int .u8 s.1, .int .i64 s.2]
def okS (s : Int × Int) : Prop := WI .u8 s.1 ∧ WI .i64 s.2
theorem size_types : Try.prog.types.size + 1 = (Try.prog.types.size - 2) + 3 := by kernel_rfl
theorem cellsSp : Try.prog.cellsOf 134 = 2 := by kernel_rfl
theorem cellsI : Try.prog.cellsOf 3 = 1 := by kernel_rfl
theorem cellsB : Try.prog.cellsOf 5 = 1 := by kernel_rfl
set_option maxRecDepth 100000 in
theorem lits_spot (M : Nat) (cs : List Value) (L : List Lit) : Try.prog.keyLits (M + 2) 134 cs = some L ↔ ∃ s : Int × Int, okS s ∧ cs = [.int .u8 s.1, .int .i64 s.2] ∧ L = [.int .u8 s.1, .int .i64 s.2] := by
  unfold Program.keyLits
  simp only [Try.underlying134]
  constructor
  · intro h
    split at h
    · rename_i hc
      obtain ⟨hc, _⟩ := hc
      rw [cellsSp] at hc
      match cs, hc with
      | [a, b], _ =>
        simp [cellsI, cellsB, lits_int Try.underlying3, lits_int Try.underlying5, Option.bind_eq_some_iff] at h
        obtain ⟨L1, ⟨n, rfl, hw, rfl⟩, L2, ⟨L3, ⟨p, rfl, hw2, rfl⟩, rfl⟩, rfl⟩ := h
        exact ⟨(n, p), ⟨hw, hw2⟩, rfl, rfl⟩
    · cases h
  · rintro ⟨⟨n, p⟩, ⟨h1, h2⟩, rfl, rfl⟩
    have e1 := (lits_int Try.underlying5 M _ _).2 ⟨n, rfl, h1, rfl⟩
    have e2 := (lits_int Try.underlying3 M _ _).2 ⟨p, rfl, h2, rfl⟩
    simp [cellsSp, cellsI, cellsB, e1, e2]
theorem ktSp : Try.prog.keyType 134 = true := by kernel_rfl
set_option maxRecDepth 100000 in
theorem keysSp : Keys Try.prog 134 spotV okS where
  law := Keyed.of_law (deep_law_laid laidOut (m := Try.prog.types.size + 1) (of_decide_eq_true (by kernel_rfl)) (of_decide_eq_true (by kernel_rfl)) ktSp (by rw [Try.underlying134]))
  inj x y h := by cases x; cases y; simpa [spotV] using h
  reads x hx := by
    unfold keyOf
    rw [Try.underlying134, ktSp]
    have e := (lits_spot (Try.prog.types.size - 2 + 1) _ _).2 ⟨x, hx, rfl, rfl⟩
    refine ⟨.string (keyBytes [.int .u8 x.1, .int .i64 x.2]), ?_⟩
    have hf : (spotV x).formed Try.prog 134 = true := by simp [spotV, Value.formed, Try.underlying134, cellsSp]
    simp only [hf, size_types, Bool.and_self, if_true]
    rw [show (spotV x).cells.toList = [.int .u8 x.1, .int .i64 x.2] from rfl, show Try.prog.types.size - 2 + 3 = Try.prog.types.size - 2 + 1 + 2 from rfl, e]
    rfl
  inv v kl h := by
    obtain ⟨xs, L, rfl, hL, rfl⟩ := keyOf_top (by rw [Try.underlying134]) h
    rw [size_types] at hL
    obtain ⟨s, hs, hx, _⟩ := (lits_spot (Try.prog.types.size - 2 + 1) _ _).1 hL
    refine ⟨s, hs, ?_⟩
    unfold spotV
    rw [← hx]
def mapA (b n : Nat) (g : Int × Int → Option Value) : Asr where
  P := fun w S => MapIs Try.prog 134 spotV w b n g ∧ S b
  mono := fun h a => ⟨a.1, h _ a.2⟩
  move := fun h a => ⟨a.1.moved (h _ a.2 a.1.lt), a.2⟩
theorem mapA_made {S : Nat → Prop} {As : List Asr} {w0 w : World} (h : OwnS S As w0 w) : OwnS S (As ++ [mapA w.heap.size 0 (fun _ => none)]) w0 (w.alloc (.map #[] 0)) :=
  h.add (below_alloc (Below.refl _ _) _) ⟨MapIs.made _ _ _ w, Nat.le_refl _, by simp⟩
theorem mapA_get {S : Nat → Prop} {As : List Asr} {w0 w : World} (h : OwnS S As w0 w) (i : Nat) {b n : Nat} {g : Int × Int → Option Value} (hi : As[i]? = some (mapA b n g)) : MapIs Try.prog 134 spotV w b n g := (h.get i hi).1
theorem mapA_put {S : Nat → Prop} {As : List Asr} {w0 w w' : World} (h : OwnS S As w0 w) (i : Nat) {b n n' : Nat} {g g' : Int × Int → Option Value} (hi : As[i]? = some (mapA b n g)) (hm : MapIs Try.prog 134 spotV w' b n' g') (hg : w.grownBy w' (some b)) : OwnS S (As.set i (mapA b n' g')) w0 w' :=
  h.mod i hi _ (fun T hT => ⟨Frm.grown hg (fun k hk => by cases hk; exact hT.2), hm, .inl hT.2⟩)
theorem zeroSp (w : World) : (zeroValue 123).run Try.prog w = .ok (.agg #[]) w := by kernel_rfl
end Go.Proofs.Ytbaknecnkipooaa.Hld
namespace Go.Proofs.Ytbaknecnkipooaa.Hld
open Go Go.RowKit Go.Proofs.YtbaknecnkipooaaW.PrintWords Go.Proofs.Ytbaknecnkipooaa.Sep Go.Proofs.Ytbaknecnkipooaa.Obj
set_option linter.unusedVariables false
set_option linter.unusedSimpArgs false
open Go.Maps Go.Proofs.Ytbaknecnkipooaa.Mp
def ofT (told : List Int) (x : It) : Int := told.getD x.frm.toNat 0
def oneOk (told : List Int) (seen : List It) (x : It) : Bool := !isIn seen x && rightI x && !decide (x.seq < ofT told x) && !readyB told x
def allOk (told : List Int) : List It → List It → Bool
  | _, [] => true
  | seen, x :: r => oneOk told seen x && allOk told (seen ++ [x]) r
def rightH (told : List Int) (wait : List It) : Bool := told.all (fun n => decide (n ≤ 1000)) && decide (wait.length ≤ 64) && allOk told [] wait
theorem allOk_at (told : List Int) (l : List It) : ∀ (i : Nat) (h : i < l.length), allOk told (l.take i) (l.drop i) = (oneOk told (l.take i) l[i] && allOk told (l.take (i + 1)) (l.drop (i + 1))) := by
  intro i h
  rw [List.drop_eq_getElem_cons h]
  simp only [allOk]
  rw [List.take_append_getElem h]
theorem allOk_end (told : List Int) (l : List It) : allOk told (l.take l.length) (l.drop l.length) = true := by simp [allOk]
theorem allOk_start (told : List Int) (l : List It) : allOk told [] l = allOk told (l.take 0) (l.drop 0) := by simp
def inc (told : List Int) (x : It) : List Int := told.set x.frm.toNat (ofT told x + 1)
def drain : Nat → List Int → List It → List It → List Int × List It × List It
  | 0, told, wait, out => (told, wait, out)
  | n + 1, told, wait, out =>
    match wait.findIdx? (readyB told) with
    | none => (told, wait, out)
    | some i => match wait[i]? with
      | none => (told, wait, out)
      | some y => drain n (inc told y) (wait.eraseIdx i) (out ++ [y])
def putH (told : List Int) (wait : List It) (x : It) : (List Int × List It × List It) × Int :=
  if rightH told wait = false ∨ rightI x = false then ((told, wait, []), 2)
  else if x.seq < ofT told x ∨ isIn wait x = true then ((told, wait, []), 6)
  else if readyB told x = true then (drain wait.length (inc told x) wait [x], 0)
  else if 64 ≤ wait.length then ((told, wait, []), 7)
  else ((told, wait ++ [x], []), 0)
theorem upd_in {l : List It} {i : Nat} (h : i < l.length) {x : It} (hx : l[i] = x) {G : Int × Int → Option Value} (hG : ∀ s, (G s).isSome = (l.take i).any (fun y => decide ((y.frm, y.seq) = s))) (s : Int × Int) : (upd G (x.frm, x.seq) (.agg #[]) s).isSome = (l.take (i + 1)).any (fun y => decide ((y.frm, y.seq) = s)) := by
  rw [← List.take_append_getElem h, List.any_append, hx, ← hG s]
  by_cases e : s = (x.frm, x.seq)
  · subst e; rw [upd_same]; simp
  · rw [upd_other _ _ e]
    have : decide ((x.frm, x.seq) = s) = false := decide_eq_false (fun h => e h.symm)
    simp only [List.any_cons, List.any_nil, this, Bool.or_false]
theorem upd_agg {G : Int × Int → Option Value} (hU : ∀ s, (G s).getD (.agg #[]) = .agg #[]) (k s : Int × Int) : (upd G k (.agg #[]) s).getD (.agg #[]) = .agg #[] := by
  by_cases e : s = k
  · subst e; rw [upd_same]; rfl
  · rw [upd_other _ _ e]; exact hU s
theorem wi_u8 {n : Int} (h0 : 0 ≤ n) (h1 : n ≤ 255) : WI .u8 n := by
  simpa [WI, Lit.wf, IntKind.min, IntKind.max, IntKind.signed, IntKind.bits] using And.intro h0 h1
end Go.Proofs.Ytbaknecnkipooaa.Hld
