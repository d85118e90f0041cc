/- past.kinds, pack.Is. -/
import Derived.Test.YtbaknecnkipooaaM44
namespace Go.Proofs.Ytbaknecnkipooaa.Tld
open Go Go.RowKit Go.Proofs.YtbaknecnkipooaaW.PrintWords Go.Proofs.Ytbaknecnkipooaa.Sep Go.Proofs.Ytbaknecnkipooaa.Obj
set_option linter.unusedVariables false
set_option linter.unusedSimpArgs false
theorem infoInt : (Try.prog.info? 3).map (fun i => (i.zero, i.size, i.bytes)) = some (some (.int .i64 0), 1, 8) := by kernel_rfl
def kindsL : List Int := List.replicate 17 1 ++ [2]
def kdOf : Fl → Int
  | .num _ => 1
  | .txt _ => 2
theorem at_Int {w : World} {A : Option Addr} {n : Nat} {xs : List Int} (h : (Kd.int .i64).C w A n xs) (i : Nat) (h1 : i < xs.length) : ∃ g o, A = some ⟨g, o, none⟩ ∧ w.cell? ⟨g, o + i, none⟩ = some (.int .i64 xs[i]) := by
  have hn := Kd.C_len h
  obtain ⟨ad, cs, e, _, hK, hc⟩ := Kd.C_get h xs[i] (i : Int) (by omega) (by omega)
  have hx : xs.getD (i : Int).toNat xs[i] = xs[i] := by simp [h1]
  rw [hx] at hK
  have hK' : cs = [.int .i64 xs[i]] := hK
  subst hK'
  have e3 : (Kd.int .i64).sz = 1 := rfl
  rw [e3] at hc
  obtain ⟨g, o, sp⟩ := ad
  cases sp with
  | none =>
    have := hc 0 _ rfl
    rw [Addr.add_mid] at this
    exact ⟨g, o, e, by simpa using this⟩
  | some s =>
    exfalso
    obtain ⟨ad2, c2, e2, _, hK2, hc2⟩ := Kd.C_get h xs[i] (0 : Int) (by omega) (by omega)
    obtain rfl := Option.some.inj (e.symm.trans e2)
    generalize xs.getD (0 : Int).toNat xs[i] = y at hK2
    have hK3 : c2 = [.int .i64 y] := hK2
    subst hK3
    have h0 := hc2 0 _ rfl
    have e3 : ((⟨g, o, some s⟩ : Addr).add ((0 : Int).toNat * (Kd.int .i64).sz + 0)) = ⟨g, o, some s⟩ := rfl
    rw [e3] at h0
    unfold World.cell? at h0
    split at h0 <;> simp at h0
theorem fld_cells (x : Fl) : ∃ (n : Int) (t : ByteArray), fldC x = [.int .i64 (kdOf x), .int .u64 n, .string t, .float .f64 0] := by cases x <;> exact ⟨_, _, rfl⟩
def KiR (w : World) (e : Ending) (w' : World) : Prop := ∃ A c, e = .returned (.slice A 18 c) ∧ Own [Sep.row (Kd.int .i64) 3 (.slice A 18 c) kindsL] w w'
set_option maxHeartbeats 1000000 in
set_option maxRecDepth 100000 in
theorem kinds_calls (w : World) : Calls Try.prog 25 #[] w (KiR w) := by
  have HH : Aside0 (OwnS (fun _ => False) [Sep.row (Kd.int .i64) 3 (.slice none 0 0) []] w w) := ⟨OwnS.of_own (Own.nil (Own.start _))⟩
  go_enter Try.func25, Try.ntmps25
  go_wp2_with fail
  go_loopw [1, 2] (fun v1 vi W => ∃ (i : Nat) (A2 : Option Addr) (c2 : Nat), v1 = .slice A2 i c2 ∧ vi = .int .i64 (i : Int) ∧ i ≤ 17 ∧ Aside0 (OwnS (fun _ => False) [Sep.row (Kd.int .i64) 3 (.slice A2 i c2) (List.replicate i (1 : Int))] w W)) (fun _ vi _ => 17 - (intOf vi).toNat)
  case atStart => exact ⟨0, none, 0, rfl, rfl, Nat.zero_le _, HH⟩
  case round =>
    clear HH
    obtain ⟨i, A2, c2, rfl, rfl, hi, HH⟩ := hrel
    by_cases hlt : i < 17
    · have q0 : 0 ≤ (i : Int) := by omega
      have q1 : (i : Int) < 17 := by omega
      go_wp2_with (first
      | (at_builtin; refine evS_appendR (Kd.int .i64) (oh HH) 0 rfl (.tmp 4) (.tmp 5) 88 3 (.int .i64 0) 8 rfl Try.underlying88 infoInt rfl (by first | decide | exact Nat.succ_pos _) (by decide) (.slice A2 i c2) (List.replicate i (1 : Int)) 1 [.int .i64 1] rfl rfl ?_ ?_ ?_ ?_; (focus first | rfl | (simp [Act.eval]; done)); (focus exact fun _ => rfl); (focus rw [List.length_replicate]; omega); intro A9 c9 w1 hh; replace HH : Aside0 (OwnS (fun _ => False) [Sep.row (Kd.int .i64) 3 (.slice A9 ((List.replicate i (1 : Int)).length + 1) c9) (List.replicate i (1 : Int) ++ [1])] w w1) := ⟨hh⟩; clear hh)
      | fail
      | fail)
      go_roundw
      case rel =>
        have h9 := HH.out
        rw [List.length_replicate, ← List.replicate_succ'] at h9
        exact ⟨i + 1, A9, c9, rfl, by go_num, by omega, ⟨h9⟩⟩
      case measure => simp [intOf]; omega
    · have h17 : i = 17 := by omega
      subst h17
      go_wp2_with (first
      | (at_builtin; refine evS_appendR (Kd.int .i64) (oh HH) 0 rfl (.tmp 8) (.tmp 9) 88 3 (.int .i64 0) 8 rfl Try.underlying88 infoInt rfl (by first | decide | exact Nat.succ_pos _) (by decide) (.slice A2 17 c2) (List.replicate 17 (1 : Int)) 2 [.int .i64 2] rfl rfl ?_ ?_ ?_ ?_; (focus first | rfl | (simp [Act.eval]; done)); (focus exact fun _ => rfl); (focus decide); intro A9 c9 w1 hh; replace HH : Aside0 (OwnS (fun _ => False) [Sep.row (Kd.int .i64) 3 (.slice A9 ((List.replicate 17 (1 : Int)).length + 1) c9) (List.replicate 17 (1 : Int) ++ [2])] w w1) := ⟨hh⟩; clear hh)
      | fail
      | fail)
      go_ret
      exact ⟨A9, c9, rfl, OwnS.own HH.out⟩
set_option maxHeartbeats 1000000 in
set_option maxRecDepth 100000 in
theorem is_calls (w : World) (ga oa gk ok c d : Nat) (l : List Fl) (hl : l.length ≤ 100) (hr : kFl.C w (some ⟨ga, oa, none⟩) l.length l) (hk : (Kd.int .i64).C w (some ⟨gk, ok, none⟩) l.length (l.map kdOf)) :
    Calls Try.prog 24 #[.slice (some ⟨ga, oa, none⟩) l.length c, .slice (some ⟨gk, ok, none⟩) l.length d] w (fun e w' => e = .returned (.bool true) ∧ Below w.heap.size w w') := by
  have HR := Aside0.mk hr
  have HKD := Aside0.mk hk
  have HH : Aside0 (OwnS (fun _ => False) [] w w) := ⟨OwnS.of_own (Own.start w)⟩
  clear hr hk
  go_enter Try.func24, Try.ntmps24
  go_wp2_with fail
  go_loopw [14] (fun vi W => ∃ (i : Nat), vi = .int .i64 (i : Int) ∧ i ≤ l.length ∧ Aside0 (OwnS (fun _ => False) [] w W)) (fun vi _ => l.length - (intOf vi).toNat)
  case atStart => exact ⟨0, rfl, Nat.zero_le _, HH⟩
  case round =>
    clear HH
    obtain ⟨i, rfl, hi, HH⟩ := hrel
    by_cases hlt : i < l.length
    · have q0 : 0 ≤ (i : Int) := by omega
      have q1 : (i : Int) < (l.length : Int) := by omega
      obtain ⟨x, hx⟩ : ∃ x, l[i] = x := ⟨_, rfl⟩
      obtain ⟨nx, tx, hu⟩ := fld_cells x
      have HPR : Aside0 (∀ W, OwnS (fun _ => False) [] w W → W.rangeAt ga (oa + i * 4) [.int .i64 (kdOf x), .int .u64 nx, .string tx, .float .f64 0]) := ⟨fun W h => by
        obtain ⟨g', o', e', hr'⟩ := at_Fl (Kd.C_below HR.out (frm_below (OwnS.frm h))) i hlt
        cases e'
        rw [hx, hu] at hr'
        exact hr'⟩
      have HPK : Aside0 (∀ W, Below w.heap.size w W → W.cell? ⟨gk, ok + i, none⟩ = some (.int .i64 (kdOf x))) := ⟨fun W h => by
        obtain ⟨g', o', e', hr'⟩ := at_Int (Kd.C_below HKD.out h) i (by rw [List.length_map]; exact hlt)
        cases e'
        rw [List.getElem_map, hx] at hr'
        exact hr'⟩
      clear hx hu
      go_upto_region 6 with (first
      | ((with_reducible refine gate_ (.load 72 (.tmp 17)) rfl ?_); refine ev_loadR (b := ga) (p0 := oa + i * 4) (n := 4) (vs := [.int .i64 (kdOf x), .int .u64 nx, .string tx, .float .f64 0]) (HPR.out _ ?_) rfl rfl (by rfl) Try.underlying72 rfl rfl (by kernel_rfl) ?_; (focus first | with_reducible exact HH.out | ((with_reducible repeat first | refine OwnS.alloc ?_ _ | refine OwnS.drewN ?_ _ | refine OwnS.drew ?_); with_reducible exact HH.out)))
      | ((with_reducible refine gate_dst (N := 6) rfl ?_); refine evS_box (oh HH) rfl (cs := #[.int .i64 0, .int .u64 0, .string ⟨#[]⟩, .float .f64 0]) (T := 72) ?_ ?_; (focus first | (go_simp; done) | (go_simp; rfl)); intro g1 w1 he hh; clear he; replace HH : Aside0 (OwnS (fun _ => False) [Sep.blk g1 #[.int .i64 0, .int .u64 0, .string ⟨#[]⟩, .float .f64 0] 72] w w1) := ⟨hh⟩; clear hh)
      | ((with_reducible refine gate_ (.store 72 (.tmp 6) (.tmp 18)) rfl ?_); refine evS_store (oh HH) 0 rfl rfl rfl rfl (by rfl) (.agg #[.int .i64 (kdOf x), .int .u64 nx, .string tx, .float .f64 0]) (by rfl) [.int .i64 (kdOf x), .int .u64 nx, .string tx, .float .f64 0] (by rfl) (by kernel_rfl) (by simp) (by simp [Value.oneCell']) ?_; intro w2 hh; replace HH : Aside0 (OwnS (fun _ => False) [Sep.blk g1 #[.int .i64 (kdOf x), .int .u64 nx, .string tx, .float .f64 0] 72] w w2) := ⟨hh⟩; clear hh)
      | fail
      | fail)
      have HKV : Aside0 (∀ w' : World, OwnS (fun _ => False) [Sep.blk g1 #[.int .i64 (kdOf x), .int .u64 nx, .string tx, .float .f64 0] 72] w w' → (w'.cell? ⟨g1, 0, none⟩ = some (.int .i64 (kdOf x)) ∧ w'.cell? ⟨gk, ok + i, none⟩ = some (.int .i64 (kdOf x)))) := ⟨fun W h => ⟨blk_cell (OwnS.blk h 0 rfl) 0, HPK.out _ (frm_below (OwnS.frm h))⟩⟩
      refine wp_region_held_drew (S := fun w' => w'.cell? ⟨g1, 0, none⟩ = some (.int .i64 (kdOf x)) ∧ w'.cell? ⟨gk, ok + i, none⟩ = some (.int .i64 (kdOf x))) (by kernel_rfl) ?_ (fun hHeld => ?_)
      focus (try dsimp only); (exact HKV.out _ (oh HH))
      (try dsimp only at hHeld)
      refine otk (i := 0) ?_; (try simp only [Act.put, jjA, jjZ, jjS])
      refine otk (i := 1) (v := .int .i64 (kdOf x)) ?_; (try simp only [Act.put, jjA, jjZ, jjS])
      refine otk (i := 2) ?_; (try simp only [Act.put, jjA, jjZ, jjS])
      refine otk (i := 3) ?_; (try simp only [Act.put, jjA, jjZ, jjS])
      refine otk (i := 4) ?_; (try simp only [Act.put, jjA, jjZ, jjS])
      refine otk (i := 5) (v := .int .i64 (kdOf x)) ?_; (try simp only [Act.put, jjA, jjZ, jjS])
      refine otk (i := 6) (v := .bool false) ?_; (try simp only [Act.put, jjA, jjZ, jjS])
      refine wpAnyH_done (by kernel_rfl) ?_ _
      go_wp2_with fail
      go_roundw
      case rel => exact ⟨i + 1, by go_num, by omega, ⟨OwnS.picks (oh HH) [] (by decide)⟩⟩
      case measure => simp [intOf]; omega
    · have q1 : ¬ ((i : Int) < (l.length : Int)) := by omega
      go_wp2_with fail
      go_ret
      exact ⟨rfl, frm_below (OwnS.frm HH.out)⟩
end Go.Proofs.Ytbaknecnkipooaa.Tld
