/- Rows of items; what Put's closures tell; IndexFunc, ContainsFunc, Clone. -/
import Derived.Test.YtkifekjcpnoclaaHldReady2
namespace Go.Proofs.Ytkifekjcpnoclaa.Hld
open Go Go.RowKit Go.Proofs.YtkifekjcpnoclaaW.PrintWords Go.Proofs.Ytkifekjcpnoclaa.Sep Go.Proofs.Ytkifekjcpnoclaa.Obj
set_option linter.unusedVariables false
set_option linter.unusedSimpArgs false

/-- items, without rows of their own -/
def kIt : Kd It where
  sz := 20
  E := []
  K := fun _ x cs => cs = (itC x).toList ∧ okI x
  M := fun _ _ _ x cs => cs = (itC x).toList ∧ okI x
  K_len := fun h => by rw [h.1, Array.length_toList, itC_size _ h.2.1.1]
  K_one := fun h u hu => itC_one _ u (by rw [← h.1]; exact hu)
  K_below := fun _ h => h
  K_of_M := fun h => h
  M_mono := fun _ h => h
  M_bound := fun h => h
  M_move := fun _ h => h
  M_lower := fun _ h => h
theorem kIt_M {w : World} {base : Nat} {ok : Nat → Prop} {x : It} (h : okI x) : kIt.M w base ok x (itC x).toList := ⟨rfl, h⟩
def zI : It := ⟨0, 0, 0, List.replicate 16 0, ⟨#[]⟩⟩
theorem zI_len : zI.past.length = 16 := rfl
theorem at_It {w : World} {A : Option Addr} {n : Nat} {xs : List It} (h : kIt.C w A n xs) (i : Nat) (h1 : i < xs.length) : ∃ g o, A = some ⟨g, o, none⟩ ∧ okI xs[i] ∧ w.rangeAt g (o + i * 20) (itC xs[i]).toList := by
  have hn := Kd.C_len h
  obtain ⟨ad, c, e, _, hK, hc0⟩ := Kd.C_get h zI (i : Int) (by omega) (by omega)
  have hx : xs.getD (i : Int).toNat zI = xs[i] := by simp [h1]
  rw [hx] at hK
  obtain ⟨rfl, hok⟩ := hK
  have hc : ∀ j u, (itC xs[i]).toList[j]? = some u → w.cell? (ad.add (i * 20 + j)) = some u := hc0
  obtain ⟨g, o, sp⟩ := ad
  cases sp with
  | none => exact ⟨g, o, e, hok, fun j v hj => by have := hc j v hj; rwa [add_at, ← Nat.add_assoc] at this⟩
  | some s =>
    exfalso
    obtain ⟨ad2, c2, e2, _, hK2, hc2⟩ := Kd.C_get h zI (0 : Int) (by omega) (by omega)
    obtain rfl := Option.some.inj (e.symm.trans e2)
    obtain ⟨rfl, _⟩ := hK2
    have h0 := hc2 0 (.int .u8 (xs.getD (0 : Int).toNat zI).frm) rfl
    have e3 : ((⟨g, o, some s⟩ : Addr).add ((0 : Int).toNat * kIt.sz + 0)) = ⟨g, o, some s⟩ := rfl
    rw [e3] at h0
    unfold World.cell? at h0
    split at h0 <;> simp at h0
theorem range_at {w : World} {g o : Nat} {x : It} (h : w.rangeAt g o (itC x).toList) : w.cell? ⟨g, o, none⟩ = some (.int .u8 x.frm) ∧ w.cell? ⟨g, o + 1, none⟩ = some (.int .i64 x.seq) := ⟨h 0 _ rfl, h 1 _ rfl⟩
section
variable {P : Program} {ops : Array Oper} {rest : List Oper} {o : Oper} {a : Act} {Q : Exit → Act → World → Prop}
/-- a struct is read at an address of which the cells are known -/
theorem ev_loadR {w : World} {b p0 n : Nat} {cs : Array Value} (hr : w.rangeAt b p0 cs.toList) (hgd : o.guard = none) {t : TypeId} {p : Operand} (ho : o.op = .load t p) (hp : a.eval p = .pointer (some ⟨b, p0, none⟩)) {d : TypeDesc} (hu : P.underlying t = some d) (hd : d.isRow = true) (hs : cs.size = n) (hn : (P.info? t).map (·.size) = some n)
    (h : wpList P ops Q rest (a.put o.dst (.agg cs)) w) : wpList P ops Q (o :: rest) a w := by
  refine wpList_load_mid hgd t p ho b p0 hp cs.toList d hr hu hd (by rw [hn]; simp [hs]) ?_
  simpa using h
end
def same (x y : It) : Bool := decide (x.frm = y.frm) && decide (x.seq = y.seq)
def isIn (l : List It) (x : It) : Bool := l.any fun y => same y x
def idxI (p : It → Bool) (l : List It) : Int := match l.findIdx? p with
  | some i => (i : Int)
  | none => -1
theorem idxI_yes {p : It → Bool} {l : List It} {i : Nat} (hi : i < l.length) (h : p l[i] = true) (hb : ∀ j (hj : j < l.length), j < i → p l[j] = false) : idxI p l = (i : Int) := by
  have : l.findIdx? p = some i := by
    rw [List.findIdx?_eq_some_iff_getElem]
    exact ⟨hi, h, fun j hj => by simpa using hb j (by omega) hj⟩
  rw [idxI, this]
theorem idxI_no {p : It → Bool} {l : List It} (hb : ∀ j (hj : j < l.length), p l[j] = false) : idxI p l = -1 := by
  have : l.findIdx? p = none := by
    rw [List.findIdx?_eq_none_iff]
    intro x hx
    obtain ⟨j, hj, rfl⟩ := List.getElem_of_mem hx
    exact hb j hj
  rw [idxI, this]

set_option maxRecDepth 100000 in
theorem clo1_calls (w : World) (g : Nat) (x y : It) (hy : okI y) (hg : w.heap[g]? = some (.cells (itC x) 43 (0, 0))) : Calls Try.prog 27 #[.agg (itC y), .pointer (some ⟨g, 0, none⟩)] w (Kept (.bool (same y x)) w) := by
  have HG := Aside0.mk hg
  clear hg
  have HH : Aside0 (OwnS (fun _ => False) [] w w) := ⟨OwnS.of_own (Own.start w)⟩
  by_cases h1 : y.frm = x.frm
  · by_cases h2 : y.seq = x.seq
    · have HS : Aside0 (same y x = true) := ⟨by simp [same, h1, h2]⟩
      go_enter Try.func27, Try.ntmps27
      go_wp2_with (first
        | ((with_reducible refine gate_dst (N := 2) rfl ?_); refine evS_box (S := fun _ => False) (w0 := w) (As := []) ?_ rfl (cs := itC y) (T := 43) ?_ ?_; (focus first | with_reducible exact HH.out | ((with_reducible repeat first | refine OwnS.alloc ?_ _ | refine OwnS.drewN ?_ _ | refine OwnS.drew ?_); with_reducible exact HH.out)); (focus first | (go_simp; done) | (go_simp; rfl)); intro g1 w1 he hh; clear he; have HHx : Aside0 (OwnS (fun _ => False) [Sep.blk g1 (itC y) 43] w w1) := ⟨hh⟩; clear HH; have HH := HHx; clear HHx; clear hh; have fc1 : w1.cell? ⟨g1, 0, none⟩ = some (.int .u8 y.frm) := ((blk_cell (OwnS.blk (S := fun _ => False) (w0 := w) (As := [Sep.blk g1 (itC y) 43]) HH.out 0 rfl) 0).trans rfl); have fc2 : w1.cell? ⟨g1, 1, none⟩ = some (.int .i64 y.seq) := ((blk_cell (OwnS.blk (S := fun _ => False) (w0 := w) (As := [Sep.blk g1 (itC y) 43]) HH.out 0 rfl) 1).trans rfl); have hb0 := pw_cell_below (below_frm (OwnS.frm HH.out)) (blk_cell HG.out 0); have hb1 := pw_cell_below (below_frm (OwnS.frm HH.out)) (blk_cell HG.out 1); have hb2 : w1.cell? ⟨g, 0, none⟩ = some (.int .u8 x.frm) := hb0; have hb3 : w1.cell? ⟨g, 1, none⟩ = some (.int .i64 x.seq) := hb1; clear hb0 hb1)
        | fail
        | fail)
      go_ret
      exact ⟨by rw [HS.out]; simp [h2], below_frm (OwnS.frm HH.out)⟩
    · have HS : Aside0 (same y x = false) := ⟨by simp [same, h2]⟩
      go_enter Try.func27, Try.ntmps27
      go_wp2_with (first
        | ((with_reducible refine gate_dst (N := 2) rfl ?_); refine evS_box (S := fun _ => False) (w0 := w) (As := []) ?_ rfl (cs := itC y) (T := 43) ?_ ?_; (focus first | with_reducible exact HH.out | ((with_reducible repeat first | refine OwnS.alloc ?_ _ | refine OwnS.drewN ?_ _ | refine OwnS.drew ?_); with_reducible exact HH.out)); (focus first | (go_simp; done) | (go_simp; rfl)); intro g1 w1 he hh; clear he; have HHx : Aside0 (OwnS (fun _ => False) [Sep.blk g1 (itC y) 43] w w1) := ⟨hh⟩; clear HH; have HH := HHx; clear HHx; clear hh; have fc1 : w1.cell? ⟨g1, 0, none⟩ = some (.int .u8 y.frm) := ((blk_cell (OwnS.blk (S := fun _ => False) (w0 := w) (As := [Sep.blk g1 (itC y) 43]) HH.out 0 rfl) 0).trans rfl); have fc2 : w1.cell? ⟨g1, 1, none⟩ = some (.int .i64 y.seq) := ((blk_cell (OwnS.blk (S := fun _ => False) (w0 := w) (As := [Sep.blk g1 (itC y) 43]) HH.out 0 rfl) 1).trans rfl); have hb0 := pw_cell_below (below_frm (OwnS.frm HH.out)) (blk_cell HG.out 0); have hb1 := pw_cell_below (below_frm (OwnS.frm HH.out)) (blk_cell HG.out 1); have hb2 : w1.cell? ⟨g, 0, none⟩ = some (.int .u8 x.frm) := hb0; have hb3 : w1.cell? ⟨g, 1, none⟩ = some (.int .i64 x.seq) := hb1; clear hb0 hb1)
        | fail
        | fail)
      go_ret
      exact ⟨by rw [HS.out]; simp [h2], below_frm (OwnS.frm HH.out)⟩
  · have HS : Aside0 (same y x = false) := ⟨by simp [same, h1]⟩
    go_enter Try.func27, Try.ntmps27
    go_wp2_with (first
        | ((with_reducible refine gate_dst (N := 2) rfl ?_); refine evS_box (S := fun _ => False) (w0 := w) (As := []) ?_ rfl (cs := itC y) (T := 43) ?_ ?_; (focus first | with_reducible exact HH.out | ((with_reducible repeat first | refine OwnS.alloc ?_ _ | refine OwnS.drewN ?_ _ | refine OwnS.drew ?_); with_reducible exact HH.out)); (focus first | (go_simp; done) | (go_simp; rfl)); intro g1 w1 he hh; clear he; have HHx : Aside0 (OwnS (fun _ => False) [Sep.blk g1 (itC y) 43] w w1) := ⟨hh⟩; clear HH; have HH := HHx; clear HHx; clear hh; have fc1 : w1.cell? ⟨g1, 0, none⟩ = some (.int .u8 y.frm) := ((blk_cell (OwnS.blk (S := fun _ => False) (w0 := w) (As := [Sep.blk g1 (itC y) 43]) HH.out 0 rfl) 0).trans rfl); have fc2 : w1.cell? ⟨g1, 1, none⟩ = some (.int .i64 y.seq) := ((blk_cell (OwnS.blk (S := fun _ => False) (w0 := w) (As := [Sep.blk g1 (itC y) 43]) HH.out 0 rfl) 1).trans rfl); have hb0 := pw_cell_below (below_frm (OwnS.frm HH.out)) (blk_cell HG.out 0); have hb1 := pw_cell_below (below_frm (OwnS.frm HH.out)) (blk_cell HG.out 1); have hb2 : w1.cell? ⟨g, 0, none⟩ = some (.int .u8 x.frm) := hb0; have hb3 : w1.cell? ⟨g, 1, none⟩ = some (.int .i64 x.seq) := hb1; clear hb0 hb1)
        | fail
        | fail)
    go_ret
    exact ⟨by rw [HS.out]; simp [h1], below_frm (OwnS.frm HH.out)⟩

theorem range_ho {v : List Int} {s : Value} (hv : v.length = 16) {w : World} {g : Nat} {T : TypeId} (h : w.heap[g]? = some (.cells (hoC v s) T (0, 0))) : w.rangeAt g 0 (vecC v).toList := by
  have := World.rangeAt_of_block h 0 16
  rw [hoC_vec _ _ hv] at this
  exact this
set_option maxRecDepth 100000 in
theorem clo2_calls (w : World) (g : Nat) (told : List Int) (s : Value) (y : It) (ht : okV told) (hy : okI y) (hg : w.heap[g]? = some (.cells (hoC told s) 36 (0, 0))) : Calls Try.prog 31 #[.agg (itC y), .pointer (some ⟨g, 0, none⟩)] w (Kept (.bool (readyB told y)) w) := by
  have HG := Aside0.mk hg
  have htO := Aside0.mk ht
  clear hg
  have HH : Aside0 (OwnS (fun _ => False) [] w w) := ⟨OwnS.of_own (Own.start w)⟩
  go_enter Try.func31, Try.ntmps31
  go_wp2_with (first
    | ((with_reducible refine gate_dst (N := 2) rfl ?_); refine evS_box (S := fun _ => False) (w0 := w) (As := []) ?_ rfl (cs := itC y) (T := 43) ?_ ?_; (focus first | with_reducible exact HH.out | ((with_reducible repeat first | refine OwnS.alloc ?_ _ | refine OwnS.drewN ?_ _ | refine OwnS.drew ?_); with_reducible exact HH.out)); (focus first | (go_simp; done) | (go_simp; rfl)); intro g1 w1 he hh; clear he; have HHx : Aside0 (OwnS (fun _ => False) [Sep.blk g1 (itC y) 43] w w1) := ⟨hh⟩; clear HH; have HH := HHx; clear HHx; clear hh)
    | ((with_reducible refine gate_ (.load 24 (.tmp 4)) rfl ?_); refine ev_loadR (b := g) (p0 := 0) (n := 16) (cs := vecC told) (range_ho ht.1 (blk_below HG.out ?_)) rfl rfl (by rfl) Try.underlying24 rfl (vecC_size _ ht.1) (by kernel_rfl) ?_; (focus exact below_frm (OwnS.frm (by first | (with_reducible exact HH.out) | ((repeat (first | (with_reducible refine OwnS.alloc ?_ _) | (with_reducible refine OwnS.drewN ?_ _) | (with_reducible refine OwnS.drew ?_))); (with_reducible exact HH.out))))))
    | ((with_reducible refine gate_ (.load 43 (.tmp 2)) rfl ?_); refine ev_loadA (OwnS.blk (S := fun _ => False) (w0 := w) (As := [Sep.blk g1 (itC y) 43]) ?_ 0 rfl) 0 20 (itC y) (all_of _ 20 (itC_size _ hy.1.1)) rfl rfl (by rfl) Try.underlying43 rfl (itC_size _ hy.1.1) (by kernel_rfl) ?_; (focus first | with_reducible exact HH.out | ((with_reducible repeat first | refine OwnS.alloc ?_ _ | refine OwnS.drewN ?_ _ | refine OwnS.drew ?_); with_reducible exact HH.out)))
    | (go_at_call 15; refine ownS_call (S := fun _ => False) (w0 := w) (As := [Sep.blk g1 (itC y) 43]) ?_ ?_; (focus first | with_reducible exact HH.out | ((with_reducible repeat first | refine OwnS.alloc ?_ _ | refine OwnS.drewN ?_ _ | refine OwnS.drew ?_); with_reducible exact HH.out)); intro ht; refine (ready_calls _ told y htO.out hy).mono ?_; rintro e w2 ⟨rfl, hb⟩; have HHx : Aside0 (OwnS (fun _ => False) [Sep.blk g1 (itC y) 43] w w2) := ⟨OwnS.step ht hb⟩; clear HH; have HH := HHx; clear HHx; clear hb; clear ht)
    | fail
    | fail)
  go_ret
  exact ⟨rfl, below_frm (OwnS.frm HH.out)⟩

set_option maxHeartbeats 1000000 in
set_option maxRecDepth 100000 in
theorem index1_calls (A : Option Addr) (c : Nat) (l : List It) (w : World) (hr : kIt.C w A l.length l) (g : Nat) (z : It) (hg : w.heap[g]? = some (.cells (itC z) 43 (0, 0))) : Calls Try.prog 30 #[.slice A l.length c, .func (.func 27) #[] #[.pointer (some ⟨g, 0, none⟩)]] w (Kept (.int .i64 (idxI (fun y => same y z) l)) w) := by
  have hlm : l.length ≤ 9223372036854775807 := hr.2.1
  have HR := Aside0.mk hr
  have HG := Aside0.mk hg
  skip
  clear hr hg
  have HB := Aside0.mk (Below.refl w.heap.size w)
  go_enter Try.func30, Try.ntmps30
  go_wp2_with fail
  go_loopw [8] (fun v8 W => ∃ (i : Nat), v8 = .int .i64 (i : Int) ∧ i ≤ l.length ∧ Aside0 (∀ j (h : j < l.length), j < i → (fun y => same y z) l[j] = false) ∧ Aside0 (Below w.heap.size w W)) (fun v8 _ => l.length - (intOf v8).toNat)
  case atStart => exact ⟨0, rfl, by omega, ⟨fun j h hj => by omega⟩, HB⟩
  case round =>
    clear HB
    obtain ⟨i, rfl, hi, HD, HB⟩ := hrel
    by_cases hlt : i < l.length
    · obtain ⟨g0, o0, ea, hox, hrx⟩ := at_It (Kd.C_below HR.out HB.out) i hlt
      cases ea
      obtain ⟨x, hx⟩ : ∃ x, l[i] = x := ⟨_, rfl⟩
      rw [hx] at hox hrx
      have HX := Aside0.mk hx
      have HOX := Aside0.mk hox
      have HRX := Aside0.mk hrx
      clear hx hox hrx
      have q0 : 0 ≤ (i : Int) := by omega
      have q1 : (i : Int) < (l.length : Int) := by omega
      cases hp : (fun y => same y z) x with
      | true =>
        have HP := Aside0.mk hp
        clear hp
        go_wp2_with (first | ((with_reducible refine gate_ (.load 43 (.tmp 14)) rfl ?_); refine ev_loadR (b := g0) (p0 := o0 + i * 20) (n := 20) (cs := itC x) HRX.out rfl rfl (by rfl) Try.underlying43 rfl (itC_size _ HOX.out.1.1) (by kernel_rfl) ?_) | (go_at_call 27; refine (clo1_calls _ g z x HOX.out (blk_below HG.out HB.out)).mono ?_; rw [HP.out]; rintro e w1 ⟨rfl, hb⟩; have HBx : Aside0 (Below w.heap.size w w1) := ⟨below_then HB.out (Below.size HB.out) hb⟩; clear HB hb; have HB := HBx; clear HBx) | fail)
        go_ret
        exact ⟨by rw [idxI_yes hlt (by rw [HX.out]; exact HP.out) HD.out]; rfl, HB.out⟩
      | false =>
        have HP := Aside0.mk hp
        clear hp
        go_wp2_with (first | ((with_reducible refine gate_ (.load 43 (.tmp 14)) rfl ?_); refine ev_loadR (b := g0) (p0 := o0 + i * 20) (n := 20) (cs := itC x) HRX.out rfl rfl (by rfl) Try.underlying43 rfl (itC_size _ HOX.out.1.1) (by kernel_rfl) ?_) | (go_at_call 27; refine (clo1_calls _ g z x HOX.out (blk_below HG.out HB.out)).mono ?_; rw [HP.out]; rintro e w1 ⟨rfl, hb⟩; have HBx : Aside0 (Below w.heap.size w w1) := ⟨below_then HB.out (Below.size HB.out) hb⟩; clear HB hb; have HB := HBx; clear HBx) | fail)
        go_roundw
        case rel => exact ⟨i + 1, by go_num, by omega, ⟨fun j h hj => by
            rcases Nat.lt_or_eq_of_le (Nat.le_of_lt_succ hj) with h1 | h1
            · exact HD.out j h h1
            · subst h1; rw [HX.out]; exact HP.out⟩, HB⟩
        case measure => simp [intOf]; omega
    · have hge : i = l.length := by omega
      subst hge
      have HNO : Aside0 (idxI (fun y => same y z) l = -1) := ⟨idxI_no (fun j hj => HD.out j hj hj)⟩
      go_wp2_with fail
      go_ret
      exact ⟨by rw [HNO.out]; rfl, HB.out⟩

set_option maxHeartbeats 1000000 in
set_option maxRecDepth 100000 in
theorem index2_calls (A : Option Addr) (c : Nat) (l : List It) (w : World) (hr : kIt.C w A l.length l) (g : Nat) (told : List Int) (s : Value) (ht : okV told) (hg : w.heap[g]? = some (.cells (hoC told s) 36 (0, 0))) : Calls Try.prog 30 #[.slice A l.length c, .func (.func 31) #[] #[.pointer (some ⟨g, 0, none⟩)]] w (Kept (.int .i64 (idxI (readyB told) l)) w) := by
  have hlm : l.length ≤ 9223372036854775807 := hr.2.1
  have HR := Aside0.mk hr
  have HG := Aside0.mk hg
  have HTO := Aside0.mk ht
  clear ht
  clear hr hg
  have HB := Aside0.mk (Below.refl w.heap.size w)
  go_enter Try.func30, Try.ntmps30
  go_wp2_with fail
  go_loopw [8] (fun v8 W => ∃ (i : Nat), v8 = .int .i64 (i : Int) ∧ i ≤ l.length ∧ Aside0 (∀ j (h : j < l.length), j < i → (readyB told) l[j] = false) ∧ Aside0 (Below w.heap.size w W)) (fun v8 _ => l.length - (intOf v8).toNat)
  case atStart => exact ⟨0, rfl, by omega, ⟨fun j h hj => by omega⟩, HB⟩
  case round =>
    clear HB
    obtain ⟨i, rfl, hi, HD, HB⟩ := hrel
    by_cases hlt : i < l.length
    · obtain ⟨g0, o0, ea, hox, hrx⟩ := at_It (Kd.C_below HR.out HB.out) i hlt
      cases ea
      obtain ⟨x, hx⟩ : ∃ x, l[i] = x := ⟨_, rfl⟩
      rw [hx] at hox hrx
      have HX := Aside0.mk hx
      have HOX := Aside0.mk hox
      have HRX := Aside0.mk hrx
      clear hx hox hrx
      have q0 : 0 ≤ (i : Int) := by omega
      have q1 : (i : Int) < (l.length : Int) := by omega
      cases hp : (readyB told) x with
      | true =>
        have HP := Aside0.mk hp
        clear hp
        go_wp2_with (first | ((with_reducible refine gate_ (.load 43 (.tmp 14)) rfl ?_); refine ev_loadR (b := g0) (p0 := o0 + i * 20) (n := 20) (cs := itC x) HRX.out rfl rfl (by rfl) Try.underlying43 rfl (itC_size _ HOX.out.1.1) (by kernel_rfl) ?_) | (go_at_call 31; refine (clo2_calls _ g told s x HTO.out HOX.out (blk_below HG.out HB.out)).mono ?_; rw [HP.out]; rintro e w1 ⟨rfl, hb⟩; have HBx : Aside0 (Below w.heap.size w w1) := ⟨below_then HB.out (Below.size HB.out) hb⟩; clear HB hb; have HB := HBx; clear HBx) | fail)
        go_ret
        exact ⟨by rw [idxI_yes hlt (by rw [HX.out]; exact HP.out) HD.out]; rfl, HB.out⟩
      | false =>
        have HP := Aside0.mk hp
        clear hp
        go_wp2_with (first | ((with_reducible refine gate_ (.load 43 (.tmp 14)) rfl ?_); refine ev_loadR (b := g0) (p0 := o0 + i * 20) (n := 20) (cs := itC x) HRX.out rfl rfl (by rfl) Try.underlying43 rfl (itC_size _ HOX.out.1.1) (by kernel_rfl) ?_) | (go_at_call 31; refine (clo2_calls _ g told s x HTO.out HOX.out (blk_below HG.out HB.out)).mono ?_; rw [HP.out]; rintro e w1 ⟨rfl, hb⟩; have HBx : Aside0 (Below w.heap.size w w1) := ⟨below_then HB.out (Below.size HB.out) hb⟩; clear HB hb; have HB := HBx; clear HBx) | fail)
        go_roundw
        case rel => exact ⟨i + 1, by go_num, by omega, ⟨fun j h hj => by
            rcases Nat.lt_or_eq_of_le (Nat.le_of_lt_succ hj) with h1 | h1
            · exact HD.out j h h1
            · subst h1; rw [HX.out]; exact HP.out⟩, HB⟩
        case measure => simp [intOf]; omega
    · have hge : i = l.length := by omega
      subst hge
      have HNO : Aside0 (idxI (readyB told) l = -1) := ⟨idxI_no (fun j hj => HD.out j hj hj)⟩
      go_wp2_with fail
      go_ret
      exact ⟨by rw [HNO.out]; rfl, HB.out⟩

theorem idxI_isIn (l : List It) (z : It) : decide (0 ≤ idxI (fun y => same y z) l) = isIn l z := by
  unfold idxI isIn
  cases h : l.findIdx? (fun y => same y z) with
  | none =>
    rw [List.findIdx?_eq_none_iff] at h
    have : l.any (fun y => same y z) = false := by
      rw [List.any_eq_false]
      intro x hx
      simpa using h x hx
    simp [this]
  | some i =>
    rw [List.findIdx?_eq_some_iff_getElem] at h
    obtain ⟨hi, h1, _⟩ := h
    have : l.any (fun y => same y z) = true := by
      rw [List.any_eq_true]
      exact ⟨l[i], List.getElem_mem _, h1⟩
    simp [this]
set_option maxRecDepth 100000 in
theorem contains_calls (A : Option Addr) (c : Nat) (l : List It) (w : World) (hr : kIt.C w A l.length l) (g : Nat) (z : It) (hg : w.heap[g]? = some (.cells (itC z) 43 (0, 0))) : Calls Try.prog 29 #[.slice A l.length c, .func (.func 27) #[] #[.pointer (some ⟨g, 0, none⟩)]] w (Kept (.bool (isIn l z)) w) := by
  have HI := Aside0.mk (idxI_isIn l z)
  go_enter Try.func29, Try.ntmps29
  go_wp2_with (first | (go_at_call 30; refine (index1_calls A c l w hr g z hg).mono ?_; rintro e w1 ⟨rfl, hb⟩; have HB := Aside0.mk hb; clear hb) | fail)
  go_ret
  exact ⟨by rw [← HI.out]; rfl, HB.out⟩
end Go.Proofs.Ytkifekjcpnoclaa.Hld
