/- The reference's letters, and what the laws do with theirs: theirs, few, Post. -/
import Derived.Test.YtnlpfigdinnboaaNetPost
namespace Go.Proofs.Ytnlpfigdinnboaa.Net
open Go Go.RowKit Go.Proofs.YtnlpfigdinnboaaW.PrintWords Go.Proofs.Ytnlpfigdinnboaa.Sep Go.Proofs.Ytnlpfigdinnboaa.Obj
set_option linter.unusedVariables false
set_option linter.unusedSimpArgs false

theorem infoRL : (Try.prog.info? 40).map (fun i => (i.zero, i.size, i.bytes)) = some (some (.agg #[.int .u8 0, .int .u8 0, .int .u32 0, .slice none 0 0, .string ⟨#[]⟩]), 5, 48) := by kernel_rfl
theorem at_Lc {b w : World} {A : Option Addr} {n : Nat} {xs : List Lt} (h : (kLc b).C w A n xs) (i : Nat) (h1 : i < xs.length) : ∃ ad Ab cb, A = some ad ∧ kLt.K b xs[i] (cL xs[i] (.slice Ab xs[i].body.length cb)) ∧ w.cell? (ad.add (i * 5)) = some (.int .u8 xs[i].frm) ∧
    w.cell? ⟨(ad.add (i * 5)).block, (ad.add (i * 5)).off + 1, none⟩ = some (.int .u8 xs[i].dst) ∧ w.cell? ⟨(ad.add (i * 5)).block, (ad.add (i * 5)).off + 2, none⟩ = some (.int .u32 xs[i].seq) ∧
    w.cell? ⟨(ad.add (i * 5)).block, (ad.add (i * 5)).off + 3, none⟩ = some (.slice Ab xs[i].body.length cb) ∧ w.cell? ⟨(ad.add (i * 5)).block, (ad.add (i * 5)).off + 4, none⟩ = some (.string xs[i].tag) := by
  have hn := Kd.C_len h
  obtain ⟨ad, c, e, _, hK, hc0⟩ := Kd.C_get h zL (i : Int) (by omega) (by omega)
  have hx : xs.getD (i : Int).toNat zL = xs[i] := by simp [h1]
  rw [hx] at hK
  have hc : ∀ j u, c[j]? = some u → w.cell? (ad.add (i * 5 + j)) = some u := hc0
  obtain ⟨Ab, cb, rfl, h2, h3⟩ := kLt_open (w := b) hK
  refine ⟨ad, Ab, cb, e, kLt_mk h2 h3, hc 0 _ rfl, ?_, ?_, ?_, ?_⟩
  · rw [← add_field _ _ 1 (by omega)]; exact hc 1 _ rfl
  · rw [← add_field _ _ 2 (by omega)]; exact hc 2 _ rfl
  · rw [← add_field _ _ 3 (by omega)]; exact hc 3 _ rfl
  · rw [← add_field _ _ 4 (by omega)]; exact hc 4 _ rfl
theorem kLc_of {b : World} {A : Option Addr} {n : Nat} {xs : List Lt} (h : kLt.C b A n xs) : (kLc b).C b A n xs := h

set_option maxHeartbeats 2000000 in
set_option maxRecDepth 100000 in
theorem theirs_calls (b w : World) (A : Option Addr) (c : Nat) (ls : List Lt) (hbw : Below b.heap.size b w) (hr : (kLc b).C w A ls.length ls) (hls : ls.length ≤ 1000000) :
    Calls Try.prog 19 #[.slice A ls.length c] w (fun e w' => ∃ A' c', e = .returned (.slice A' ls.length c') ∧ ls.length ≤ c' ∧ Own [Sep.row (kLc b) 36 (.slice A' ls.length c') ls] w w') := by
  have HR := Aside0.mk hr
  clear hr
  have HH : Aside0 (OwnS (fun _ => False) [Sep.row (kLc b) 36 (.slice none 0 0) []] w w) := ⟨OwnS.of_own (Own.nil (Own.start w))⟩
  go_enter Try.func19, Try.ntmps19
  go_wp2_with fail
  go_loopw [3, 8] (fun v3 v8 W => ∃ (i : Nat) (A1 : Option Addr) (c1 : Nat), v3 = .slice A1 i c1 ∧ v8 = .int .i64 (i : Int) ∧ i ≤ ls.length ∧ Aside0 (OwnS (fun _ => False) [Sep.row (kLc b) 36 (.slice A1 i c1) (ls.take i)] w W)) (fun _ v8 _ => ls.length - (intOf v8).toNat)
  case atStart => exact ⟨0, none, 0, rfl, rfl, by omega, by simpa using HH⟩
  case round =>
    clear HH
    obtain ⟨i, A1, c1, rfl, rfl, hi, HH⟩ := hrel
    by_cases hix : i < ls.length
    · obtain ⟨ad, Ab, cb, ea, hK, k0, k1, k2, k3, k4⟩ := at_Lc (Kd.C_below HR.out (below_frm (OwnS.frm HH.out))) i hix
      have htk : ls.take (i + 1) = ls.take i ++ [ls[i]] := (List.take_append_getElem hix).symm
      have HTK := Aside0.mk htk
      clear htk
      generalize ls[i] = x at *
      obtain ⟨f, d, s, bd, tg⟩ := x
      dsimp only [cL] at *
      have HK := Aside0.mk hK
      have g0 : 0 ≤ (i : Int) := by omega
      have g1 : (i : Int) < (ls.length : Int) := by omega
      obtain ⟨L, hL⟩ : ∃ L, ls.take i = L := ⟨_, rfl⟩
      have HLn : Aside0 (L.length = i) := ⟨by rw [← hL]; simp; omega⟩
      rw [hL] at HH HTK
      clear hK hL
      cases ea
      go_wp2_with (first
        | (at_builtin; refine evS_appendR (kLc b) (S := fun _ => False) (w0 := w) (As := [Sep.row (kLc b) 36 (.slice A1 i c1) L]) ?_ 0 rfl (.tmp 12) (.tmp 14) 49 36 (.agg #[.int .u8 0, .int .u8 0, .int .u32 0, .slice none 0 0, .string ⟨#[]⟩]) 48 rfl Try.underlying49 infoLt rfl (by first | decide | exact Nat.succ_pos _) (by decide) (.slice A1 i c1) L (⟨f, d, s, bd, tg⟩ : Lt) [.int .u8 f, .int .u8 d, .int .u32 s, .slice Ab bd.length cb, .string tg] rfl rfl ?_ ?_ ?_ ?_; (focus ((repeat (first | (with_reducible refine OwnS.alloc ?_ _) | (with_reducible refine OwnS.drewN ?_ _) | (with_reducible refine OwnS.drew ?_))); (with_reducible exact HH.out))); (focus first | rfl | (simp [Act.eval]; done)); (focus exact fun _ => HK.out); (focus have := HLn.out; omega); intro A9 c9 w5 hh; have HHx : Aside0 (OwnS (fun _ => False) [Sep.row (kLc b) 36 (.slice A9 (L.length + 1) c9) (L ++ [(⟨f, d, s, bd, tg⟩ : Lt)])] w w5) := ⟨hh⟩; clear HH; have HH := HHx; clear HHx; clear hh)
        | fail
        | fail)
      go_roundw
      case rel => exact ⟨i + 1, A9, c9, by rw [← HLn.out], by go_num, by omega, ⟨by rw [HTK.out]; have := HH.out; rw [HLn.out] at this; exact this⟩⟩
      case measure => simp [intOf]; omega
    · have hik : i = ls.length := by omega
      subst hik
      have HLl := Aside0.mk (HH.out.len 0 rfl)
      go_wp2_with fail
      go_ret
      refine ⟨A1, c1, rfl, HLl.out.2, ?_⟩
      have := OwnS.own HH.out
      rw [List.take_length] at this
      exact this

def okL (x : Lt) : Bool := decide (x.body.length ≤ 300) && decide (x.tag.size ≤ 300)
def fewL (ls : List Lt) : Bool := decide (ls.length ≤ 60) && ls.all okL
theorem fewL_body {ls : List Lt} (h : fewL ls = true) : ∀ x ∈ ls, x.body.length ≤ 300 := by
  intro x hx
  simp only [fewL, Bool.and_eq_true, List.all_eq_true] at h
  have := h.2 x hx
  simp only [okL, Bool.and_eq_true, decide_eq_true_eq] at this
  exact this.1
theorem fewL_len {ls : List Lt} (h : fewL ls = true) : ls.length ≤ 60 := by
  simp only [fewL, Bool.and_eq_true, decide_eq_true_eq] at h
  exact h.1
theorem fewL_bad {ls : List Lt} {x : Lt} (hx : x ∈ ls) (h : okL x = false) : fewL ls = false := by
  rw [fewL, Bool.and_eq_false_iff]
  right
  rw [List.all_eq_false]
  exact ⟨x, hx, by simp [h]⟩
set_option maxHeartbeats 2000000 in
set_option maxRecDepth 100000 in
theorem few_calls (b w : World) (A : Option Addr) (c : Nat) (ls : List Lt) (hr : (kLc b).C w A ls.length ls) :
    Calls Try.prog 10 #[.slice A ls.length c] w (Kept (.bool (fewL ls)) w) := by
  have hlm : ls.length ≤ 9223372036854775807 := hr.2.1
  have HR := Aside0.mk hr
  clear hr
  have HB := Aside0.mk (Below.refl w.heap.size w)
  go_enter Try.func10, Try.ntmps10
  go_wp2_with fail
  go_loopw [7] (fun v7 W => ∃ (i : Nat), v7 = .int .i64 (i : Int) ∧ i ≤ ls.length ∧ Aside0 (Below w.heap.size w W) ∧ Aside0 (∀ x ∈ ls.take i, okL x = true)) (fun v7 _ => ls.length - (intOf v7).toNat)
  case atStart => exact ⟨0, rfl, by omega, HB, ⟨by simp⟩⟩
  case round =>
    clear HB
    obtain ⟨i, rfl, hi, HB, HO⟩ := hrel
    by_cases hix : i < ls.length
    · obtain ⟨ad, Ab, cb, ea, hK, k0, k1, k2, k3, k4⟩ := at_Lc (Kd.C_below HR.out HB.out) i hix
      have HMm := Aside0.mk (List.getElem_mem hix)
      have htk : ls.take (i + 1) = ls.take i ++ [ls[i]] := (List.take_append_getElem hix).symm
      have HTK := Aside0.mk htk
      clear htk hK
      generalize ls[i] = x at *
      obtain ⟨f, d, s, bd, tg⟩ := x
      dsimp only at *
      have g0 : 0 ≤ (i : Int) := by omega
      have g1 : (i : Int) < (ls.length : Int) := by omega
      cases ea
      by_cases h1 : bd.length ≤ 300
      · by_cases h2 : tg.size ≤ 300
        · have c1 : ¬ 300 < bd.length := by omega
          have c2 : ¬ 300 < tg.size := by omega
          have e1 : decide ((300 : Int) < (bd.length : Int)) = false := by simp; omega
          have e2 : decide ((300 : Int) < (tg.size : Int)) = false := by simp; omega
          go_wp2_with fail
          go_roundw
          case rel => exact ⟨i + 1, by go_num, by omega, ⟨(by (repeat (first | (with_reducible refine below_alloc ?_ _) | (with_reducible refine pw_below_drewN ?_ _) | (with_reducible refine below_drew ?_))); (with_reducible exact HB.out))⟩, ⟨by rw [HTK.out]; intro y hy; exact (List.mem_append.1 hy).elim (fun hy => HO.out y hy) (fun hy => by rw [List.mem_singleton.1 hy]; simp [okL, h1, h2])⟩⟩
          case measure => simp [intOf]; omega
        · have c1 : ¬ 300 < bd.length := by omega
          have c2 : 300 < tg.size := by omega
          have e1 : decide ((300 : Int) < (bd.length : Int)) = false := by simp; omega
          have e2 : decide ((300 : Int) < (tg.size : Int)) = true := by simp; omega
          go_wp2_with fail
          go_ret
          exact ⟨by rw [fewL_bad HMm.out (by simp [okL, h2])]; rfl, (by (repeat (first | (with_reducible refine below_alloc ?_ _) | (with_reducible refine pw_below_drewN ?_ _) | (with_reducible refine below_drew ?_))); (with_reducible exact HB.out))⟩
      · have c1 : 300 < bd.length := by omega
        have e1 : decide ((300 : Int) < (bd.length : Int)) = true := by simp; omega
        go_wp2_with fail
        go_ret
        exact ⟨by rw [fewL_bad HMm.out (by simp [okL, h1])]; rfl, (by (repeat (first | (with_reducible refine below_alloc ?_ _) | (with_reducible refine pw_below_drewN ?_ _) | (with_reducible refine below_drew ?_))); (with_reducible exact HB.out))⟩
    · have hik : i = ls.length := by omega
      subst hik
      have HOL : Aside0 (fewL ls = decide ((ls.length : Int) ≤ 60)) := ⟨by
        have h := HO.out
        rw [List.take_length] at h
        rw [fewL, List.all_eq_true.2 h, Bool.and_true]
        exact decide_eq_decide.2 (by omega)⟩
      clear HO
      go_wp2_with fail
      go_ret
      exact ⟨by rw [HOL.out]; rfl, HB.out⟩
end Go.Proofs.Ytnlpfigdinnboaa.Net
