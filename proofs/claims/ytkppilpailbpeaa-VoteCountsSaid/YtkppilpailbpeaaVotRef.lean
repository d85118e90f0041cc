/- Votes: the walks of the reference: voted, For, with, votes. -/
import Derived.Test.YtkppilpailbpeaaVotSameB
import Derived.Test.YtkppilpailbpeaaSep
import Derived.Test.YtkppilpailbpeaaCntBaseRef
namespace Go.Proofs.Ytkppilpailbpeaa.Vot
open Go Go.RowKit Go.Proofs.YtkppilpailbpeaaW.PrintWords Go.Proofs.Ytkppilpailbpeaa.Cnt Go.Proofs.Ytkppilpailbpeaa.Opn Go.Proofs.Ytkppilpailbpeaa.Sep
set_option linter.unusedVariables false
set_option linter.unusedSimpArgs false

theorem infoRO : (Try.prog.info? 87).map (fun i => (i.zero, i.size, i.bytes)) = some (some (.agg #[(.int .i64 0), (.string ⟨#[]⟩)]), 2, 24) := by kernel_rfl
theorem ret_slice {A : Option Addr} {n m c : Nat} (h : n = m) : Ending.returned (.slice A n c) = .returned (.slice A m c) := by rw [h]
theorem vslice {A : Option Addr} {n m c : Nat} (h : n = m) : Value.slice A n c = .slice A m c := by rw [h]
theorem voted_yes {l : List Bal} {id : Int} {i : Nat} (hi : i < l.length) (h : hasB l[i].who id = true) : votedL l id = true := by
  unfold votedL
  rw [List.any_eq_true]
  exact ⟨_, List.getElem_mem hi, h⟩
theorem voted_no {l : List Bal} {id : Int} (h : ∀ j (hj : j < l.length), hasB l[j].who id = false) : votedL l id = false := by
  unfold votedL
  rw [List.any_eq_false]
  intro x hx
  obtain ⟨j, hj, rfl⟩ := List.mem_iff_getElem.1 hx
  rw [h j hj]
  decide
theorem voted_calls (A : Option Addr) (c : Nat) (l : List Bal) (id : Int) (w : World) (hr : kB.C w A l.length l) (hl : l.length ≤ 1000000) (hw : ∀ x ∈ l, x.who < 65536) (h0 : 0 ≤ id) (h1 : id ≤ 255) :
    Calls Try.prog 56 #[.slice A l.length c, .int .u8 id] w (Ret (.bool (votedL l id)) w) := by
  have HR := Aside0.mk hr
  have HW := Aside0.mk hw
  clear hr hw
  go_enter Try.func56, Try.ntmps56
  go_wp2_with fail
  go_loopw [5] (fun v5 w' => ∃ (i m : Nat), v5 = .int .i64 (i : Int) ∧ i ≤ l.length ∧ Aside0 (∀ j (h : j < l.length), j < i → hasB l[j].who id = false) ∧ w' = w.drewN m) (fun v5 _ => l.length - (intOf v5).toNat)
  case atStart => exact ⟨0, 0, rfl, by omega, ⟨fun j h hj => by omega⟩, rfl⟩
  case round =>
    obtain ⟨i, m, rfl, hi, HD, rfl⟩ := hrel
    by_cases hlt : i < l.length
    · obtain ⟨ad, ea, g0, g1⟩ := at_B HR.out i hlt
      cases ea
      have hx1 := HW.out l[i] (List.getElem_mem _)
      obtain ⟨x, hx⟩ : ∃ x, l[i] = x := ⟨_, rfl⟩
      rw [hx] at g0 g1 hx1
      have HX := Aside0.mk hx
      clear hx
      cases hh : hasB x.who id with
      | true =>
        have HH := Aside0.mk hh
        clear hh
        go_wp2_with (go_at_call 39; refine (rhas_calls x.who id _ hx1 h0 h1).mono ?_; rw [HH.out]; rintro e w1 ⟨rfl, m1, rfl⟩)
        go_ret
        exact ⟨ret_bool (voted_yes hlt (by rw [HX.out]; exact HH.out)).symm, _, by first | rfl | exact drewN_drewN' _ _ _⟩
      | false =>
        have HH := Aside0.mk hh
        clear hh
        go_wp2_with (go_at_call 39; refine (rhas_calls x.who id _ hx1 h0 h1).mono ?_; rw [HH.out]; rintro e w1 ⟨rfl, m1, rfl⟩)
        go_roundw
        case rel => exact ⟨i + 1, _, by go_num, by omega, ⟨fun j h hj => by
            rcases Nat.lt_or_eq_of_le (Nat.le_of_lt_succ hj) with h1 | h1
            · exact HD.out j h h1
            · subst h1; rw [HX.out]; exact HH.out⟩, by first | rfl | exact drewN_drewN' _ _ _⟩
        case measure => simp [intOf]; omega
    · go_wp2_with fail
      go_ret
      exact ⟨ret_bool (voted_no (fun j hj => HD.out j hj (by omega))).symm, _, rfl⟩

theorem forL_first : ∀ {l : List Bal} {body : ByteArray} {i : Nat} (hi : i < l.length), hit body l[i] = true → (∀ j (hj : j < l.length), j < i → hit body l[j] = false) → forL l body = l[i].who := by
  intro l body i hi h hb
  have hp : posN l body = i := (List.findIdx_eq hi).2 ⟨h, fun j hj => hb j (by omega) hj⟩
  rw [forL_at, dif_pos (by rw [hp]; exact hi)]
  simp only [hp]
theorem forL_none {l : List Bal} {body : ByteArray} (hb : ∀ j (hj : j < l.length), hit body l[j] = false) : forL l body = 0 := by
  have hp : posN l body = l.length := List.findIdx_eq_length.2 (fun x hx => by obtain ⟨j, hj, rfl⟩ := List.mem_iff_getElem.1 hx; exact hb j hj)
  rw [forL_at, dif_neg (by rw [hp]; exact Nat.lt_irrefl _)]
theorem rfor_calls (A : Option Addr) (c : Nat) (l : List Bal) (body : ByteArray) (w : World) (hr : kB.C w A l.length l) (hl : l.length ≤ 1000000) :
    Calls Try.prog 21 #[.slice A l.length c, .string body] w (fun e w' => e = .returned (.int .u16 (forL l body : Nat)) ∧ w = w') := by
  have HR := Aside0.mk hr
  clear hr
  go_enter Try.func21, Try.ntmps21
  go_wp2_with fail
  go_loop [5] (fun v5 => ∃ (i : Nat), v5 = .int .i64 (i : Int) ∧ i ≤ l.length ∧ Aside0 (∀ j (h : j < l.length), j < i → hit body l[j] = false)) (fun v5 => l.length - (intOf v5).toNat)
  case atStart => exact ⟨0, rfl, by omega, ⟨fun j h hj => by omega⟩⟩
  case round =>
    obtain ⟨i, rfl, hi, HD⟩ := hrel
    by_cases hlt : i < l.length
    · obtain ⟨ad, ea, g0, g1⟩ := at_B HR.out i hlt
      cases ea
      obtain ⟨x, hx⟩ : ∃ x, l[i] = x := ⟨_, rfl⟩
      rw [hx] at g0 g1
      have HX := Aside0.mk hx
      clear hx
      cases hh : hit body x with
      | true =>
        have HH := Aside0.mk hh
        have hq : (x.body.toList == body.toList) = true := hh
        clear hh
        go_wp2_with fail
        go_ret
        exact ⟨ret_int (by rw [forL_first hlt (by rw [HX.out]; exact HH.out) HD.out, HX.out]), rfl⟩
      | false =>
        have HH := Aside0.mk hh
        have hq : (x.body.toList == body.toList) = false := hh
        clear hh
        go_wp2_with fail
        go_round
        case rel => exact ⟨i + 1, by go_num, by omega, ⟨fun j h hj => by
            rcases Nat.lt_or_eq_of_le (Nat.le_of_lt_succ hj) with h1 | h1
            · exact HD.out j h h1
            · subst h1; rw [HX.out]; exact HH.out⟩⟩
        case measure => simp [intOf]; omega
    · go_wp2_with fail
      go_ret
      exact ⟨ret_int (by rw [forL_none (fun j hj => HD.out j hj (by omega))]; rfl), rfl⟩
theorem votes_calls (A : Option Addr) (c : Nat) (l : List Bal) (body : ByteArray) (w : World) (hr : kB.C w A l.length l) (hl : l.length ≤ 1000000) (hw : whoOk l) :
    Calls Try.prog 58 #[.slice A l.length c, .string body] w (Kept (.int .i64 (sz (forL l body) : Nat)) w) := by
  have HR := Aside0.mk hr
  have HW := Aside0.mk (forL_lt hw body)
  clear hr hw
  go_enter Try.func58, Try.ntmps58
  go_wp2_with (first
    | (go_at_call 21; refine (rfor_calls A c l body _ HR.out hl).mono ?_; rintro e w1 ⟨rfl, rfl⟩)
    | (go_at_call 26; refine (rsize_calls (forL l body) _ HW.out).mono ?_; rintro e w1 ⟨rfl, hb⟩; have HB := Aside0.mk hb; clear hb)
    | fail)
  go_ret
  exact ⟨rfl, HB.out⟩

/-! ### with -/
theorem with_take_hit {l : List Bal} {id : Int} {body : ByteArray} {i : Nat} (hi : i < l.length) (hp : posN l body = i) : (withL l id body).take (i + 1) = (withL l id body).take i ++ [⟨l[i].body, l[i].who ||| bitN id⟩] := by
  subst hp
  rw [withL_at, dif_pos hi]
  rw [List.take_succ_eq_append_getElem (by simpa using hi)]
  simp
theorem with_take_off {l : List Bal} {id : Int} {body : ByteArray} {i : Nat} (hi : i < l.length) (hp : posN l body ≠ i) : (withL l id body).take (i + 1) = (withL l id body).take i ++ [l[i]] := by
  rw [withL_at]
  split
  · rw [List.take_succ_eq_append_getElem (by simpa using hi)]
    simp [List.getElem_set_ne hp]
  · rw [List.take_succ_eq_append_getElem (by simp; omega), List.getElem_append_left hi]
theorem with_take_len {l : List Bal} {id : Int} {body : ByteArray} {i : Nat} (hi : i ≤ l.length) : ((withL l id body).take i).length = i := by
  rw [List.length_take, withL_at]
  split <;> simp <;> omega
theorem with_all {l : List Bal} {id : Int} {body : ByteArray} (hp : posN l body < l.length) : (withL l id body).take l.length = withL l id body := by
  rw [withL_at, dif_pos hp, List.take_of_length_le (by simp)]
theorem with_end {l : List Bal} {id : Int} {body : ByteArray} (hp : ¬ posN l body < l.length) : (withL l id body).take l.length ++ [⟨body, bitN id⟩] = withL l id body := by
  rw [withL_at, dif_neg hp, List.take_left]
theorem pos_lt {l : List Bal} {body : ByteArray} {i : Nat} (hi : i < l.length) (h : hit body l[i] = true) : posN l body ≤ i := Nat.le_of_not_lt fun hlt => by
  have := List.not_of_lt_findIdx hlt
  simp [h] at this
theorem pos_gt {l : List Bal} {body : ByteArray} {i : Nat} (hi : i < l.length) (h : hit body l[i] = false) (hp : ¬ posN l body < i) : i < posN l body := by
  rcases Nat.lt_or_eq_of_le (Nat.le_of_not_lt hp) with h1 | h1
  · exact h1
  · have h2 : l.findIdx (hit body) < l.length := by
      show posN l body < _
      omega
    have := List.findIdx_getElem (w := h2)
    have e : l[l.findIdx (hit body)] = l[i] := by congr 1; exact h1.symm
    rw [e, h] at this
    cases this

set_option maxHeartbeats 2000000 in
set_option maxRecDepth 100000 in
theorem wth_calls (A : Option Addr) (c : Nat) (l : List Bal) (id : Int) (body : ByteArray) (w : World) (hr : kB.C w A l.length l) (hl : l.length ≤ 900000) (hw : whoOk l) (h0 : 0 ≤ id) (h1 : id ≤ 255) :
    Calls Try.prog 57 #[.slice A l.length c, .int .u8 id, .string body] w (fun en w' => ∃ A1 c1, en = .returned (.slice A1 (withL l id body).length c1) ∧ Own [Sep.row kB 78 (.slice A1 (withL l id body).length c1) (withL l id body)] w w') := by
  have HR := Aside0.mk hr
  have HW : Aside0 (∀ x ∈ l, x.who < 65536) := ⟨hw⟩
  clear hr hw
  have hSt := (Own.start w).nil (d := kB) (e := 78)
  have HS := Aside0.mk hSt
  clear hSt
  go_enter Try.func57, Try.ntmps57
  go_wp2_with fail
  go_loopw [7, 8, 9] (fun v7 v8 v9 w' => ∃ (i : Nat) (A1 : Option Addr) (c1 : Nat), v7 = .slice A1 i c1 ∧ v8 = .bool (decide (posN l body < i)) ∧ v9 = .int .i64 (i : Int) ∧ i ≤ l.length ∧ Aside0 (Own [Sep.row kB 78 (.slice A1 i c1) ((withL l id body).take i)] w w')) (fun _ _ v9 _ => l.length - (intOf v9).toNat)
  case atStart => exact ⟨0, none, 0, rfl, by simp, rfl, by omega, ⟨HS.out⟩⟩
  case round =>
    clear HS
    obtain ⟨i, A1, c1, rfl, rfl, rfl, hi, HH⟩ := hrel
    by_cases hlt : i < l.length
    · obtain ⟨ad, ea, g0, g1⟩ := at_B (Kd.C_below HR.out HH.out.bel) i hlt
      cases ea
      have hx1 := HW.out l[i] (List.getElem_mem _)
      have HLn : Aside0 (((withL l id body).take i).length = i) := ⟨with_take_len hi⟩
      have HT1 : Aside0 (posN l body = i → (withL l id body).take (i + 1) = (withL l id body).take i ++ [⟨l[i].body, l[i].who ||| bitN id⟩]) := ⟨with_take_hit hlt⟩
      have HT2 : Aside0 (posN l body ≠ i → (withL l id body).take (i + 1) = (withL l id body).take i ++ [l[i]]) := ⟨with_take_off hlt⟩
      have HP1 : Aside0 (hit body l[i] = true → posN l body ≤ i) := ⟨pos_lt hlt⟩
      have HP2 : Aside0 (hit body l[i] = false → ¬ posN l body < i → i < posN l body) := ⟨pos_gt hlt⟩
      obtain ⟨x, hx⟩ : ∃ x, l[i] = x := ⟨_, rfl⟩
      rw [hx] at g0 g1 hx1 HT1 HT2 HP1 HP2
      clear hx
      obtain ⟨X, hX⟩ : ∃ X, (withL l id body).take i = X := ⟨_, rfl⟩
      rw [hX] at HH HLn HT1 HT2
      clear hX
      by_cases hd : posN l body < i
      · have HD := Aside0.mk hd
        have hdt : decide (posN l body < i) = true := decide_eq_true hd
        rw [hdt]
        clear hd hdt
        go_wp2_with (first
            | ((with_reducible refine gate_dst (N := 10) rfl ?_); refine ev_box (w0 := w) (As := [Sep.row kB 78 (.slice A1 i c1) X]) ?_ rfl (cs := #[.string ⟨#[]⟩, .int .u16 0]) (T := 78) ?_ ?_; (focus ((repeat (first | (with_reducible refine Own.alloc ?_ _) | (with_reducible refine Own.drewN ?_ _) | (with_reducible refine Own.drew ?_))); (with_reducible exact HH.out))); (focus first | (go_simp; done) | (go_simp; rfl)); intro gb w1 he hh; clear he; have HHx : Aside0 (Own [Sep.row kB 78 (.slice A1 i c1) X, Sep.blk gb #[.string ⟨#[]⟩, .int .u16 0] 78] w w1) := ⟨hh⟩; clear HH; have HH := HHx; clear HHx; clear hh)
            | ((with_reducible refine gate_ (.store 78 (.tmp 10) (.tmp 20)) rfl ?_); refine ev_store (w0 := w) (As := [Sep.row kB 78 (.slice A1 i c1) X, Sep.blk gb #[.string ⟨#[]⟩, .int .u16 0] 78]) ?_ 1 rfl rfl rfl rfl (by rfl) (.agg #[.string x.body, .int .u16 (x.who : Int)]) (by rfl) [.string x.body, .int .u16 (x.who : Int)] (by rfl) (by kernel_rfl) (by simp) (by simp [Value.oneCell']) ?_; (focus ((repeat (first | (with_reducible refine Own.alloc ?_ _) | (with_reducible refine Own.drewN ?_ _) | (with_reducible refine Own.drew ?_))); (with_reducible exact HH.out))); intro w2 hh; have HHx : Aside0 (Own [Sep.row kB 78 (.slice A1 i c1) X, Sep.blk gb #[.string x.body, .int .u16 (x.who : Int)] 78] w w2) := ⟨hh⟩; clear HH; have HH := HHx; clear HHx; clear hh; have b0 : w2.cell? ⟨gb, 0, none⟩ = some (.string x.body) := blk_cell (Own.blk HH.out 1 rfl) 0)
            | ((with_reducible refine gate_ (.load 78 (.tmp 10)) rfl ?_); refine ev_load (Own.blk (w0 := w) (As := [Sep.row kB 78 (.slice A1 i c1) X, Sep.blk gb #[.string x.body, .int .u16 (x.who : Int)] 78]) ?_ 1 rfl) 0 2 [.string x.body, .int .u16 (x.who : Int)] rfl rfl rfl (by rfl) Try.underlying78 rfl (by kernel_rfl) ?_; (focus ((repeat (first | (with_reducible refine Own.alloc ?_ _) | (with_reducible refine Own.drewN ?_ _) | (with_reducible refine Own.drew ?_))); (with_reducible exact HH.out))))
            | (at_builtin; refine ev_append kB (w0 := w) (As := [Sep.row kB 78 (.slice A1 i c1) X, Sep.blk gb #[.string x.body, .int .u16 (x.who : Int)] 78]) ?_ 0 rfl (.tmp 34) (.tmp 36) 22 78 (.agg #[(.string ⟨#[]⟩), (.int .u16 0)]) 24 rfl Try.underlying22 infoR rfl (by decide) (by decide) (.slice A1 i c1) X x [.string x.body, .int .u16 (x.who : Int)] rfl rfl ?_ ?_ ?_ ?_; (focus ((repeat (first | (with_reducible refine Own.alloc ?_ _) | (with_reducible refine Own.drewN ?_ _) | (with_reducible refine Own.drew ?_))); (with_reducible exact HH.out))); (focus first | rfl | (simp [Act.eval]; done)); (focus exact fun _ => kB_mkM _ _ _ x); (focus rw [HLn.out]; omega); intro A9 c9 w3 hh; have HHx : Aside0 (Own [Sep.row kB 78 (.slice A9 (X.length + 1) c9) (X ++ [x]), Sep.blk gb #[.string x.body, .int .u16 (x.who : Int)] 78] w w3) := ⟨hh⟩; clear HH; have HH := HHx; clear HHx; clear hh)
            | fail)
        go_roundw
        case rel => exact ⟨i + 1, A9, c9, vslice (by rw [HLn.out]), by rw [decide_eq_true (by have := HD.out; omega)], by go_num, by omega, ⟨by rw [HT2.out (by have := HD.out; omega)]; have := HH.out.take 1; rw [HLn.out] at this; exact this⟩⟩
        case measure => simp [intOf]; omega
      · have HD := Aside0.mk hd
        have hdt : decide (posN l body < i) = false := decide_eq_false hd
        rw [hdt]
        clear hd hdt
        cases hh : hit body x with
        | true =>
          have HX := Aside0.mk hh
          have hq : (x.body.toList == body.toList) = true := hh
          clear hh
          go_wp2_with (first
            | ((with_reducible refine gate_dst (N := 10) rfl ?_); refine ev_box (w0 := w) (As := [Sep.row kB 78 (.slice A1 i c1) X]) ?_ rfl (cs := #[.string ⟨#[]⟩, .int .u16 0]) (T := 78) ?_ ?_; (focus ((repeat (first | (with_reducible refine Own.alloc ?_ _) | (with_reducible refine Own.drewN ?_ _) | (with_reducible refine Own.drew ?_))); (with_reducible exact HH.out))); (focus first | (go_simp; done) | (go_simp; rfl)); intro gb w1 he hh; clear he; have HHx : Aside0 (Own [Sep.row kB 78 (.slice A1 i c1) X, Sep.blk gb #[.string ⟨#[]⟩, .int .u16 0] 78] w w1) := ⟨hh⟩; clear HH; have HH := HHx; clear HHx; clear hh)
            | ((with_reducible refine gate_ (.store 78 (.tmp 10) (.tmp 20)) rfl ?_); refine ev_store (w0 := w) (As := [Sep.row kB 78 (.slice A1 i c1) X, Sep.blk gb #[.string ⟨#[]⟩, .int .u16 0] 78]) ?_ 1 rfl rfl rfl rfl (by rfl) (.agg #[.string x.body, .int .u16 (x.who : Int)]) (by rfl) [.string x.body, .int .u16 (x.who : Int)] (by rfl) (by kernel_rfl) (by simp) (by simp [Value.oneCell']) ?_; (focus ((repeat (first | (with_reducible refine Own.alloc ?_ _) | (with_reducible refine Own.drewN ?_ _) | (with_reducible refine Own.drew ?_))); (with_reducible exact HH.out))); intro w2 hh; have HHx : Aside0 (Own [Sep.row kB 78 (.slice A1 i c1) X, Sep.blk gb #[.string x.body, .int .u16 (x.who : Int)] 78] w w2) := ⟨hh⟩; clear HH; have HH := HHx; clear HHx; clear hh; have b0 : w2.cell? ⟨gb, 0, none⟩ = some (.string x.body) := blk_cell (Own.blk HH.out 1 rfl) 0)
            | ((with_reducible refine gate_ (.load 26 (.tmp 29)) rfl ?_); refine ev_cell (blk_cell (Own.blk (w0 := w) (As := [Sep.row kB 78 (.slice A1 i c1) X, Sep.blk gb #[.string x.body, .int .u16 (x.who : Int)] 78]) ?_ 1 rfl) 1) rfl rfl (by rfl) Try.underlying26 rfl ?_; (focus ((repeat (first | (with_reducible refine Own.alloc ?_ _) | (with_reducible refine Own.drewN ?_ _) | (with_reducible refine Own.drew ?_))); (with_reducible exact HH.out))))
            | (go_at_call 62; refine (rwith_calls x.who id _ hx1 h0 h1).mono ?_; rintro e wa ⟨rfl, m1, rfl⟩)
            | ((with_reducible refine gate_ (.store 26 (.tmp 33) (.tmp 32)) rfl ?_); refine ev_store (w0 := w) (As := [Sep.row kB 78 (.slice A1 i c1) X, Sep.blk gb #[.string x.body, .int .u16 (x.who : Int)] 78]) ?_ 1 rfl rfl rfl rfl (by rfl) (.int .u16 ((x.who ||| bitN id : Nat) : Int)) (by rfl) [.int .u16 ((x.who ||| bitN id : Nat) : Int)] (by rfl) (by kernel_rfl) (by simp) (by simp [Value.oneCell']) ?_; (focus ((repeat (first | (with_reducible refine Own.alloc ?_ _) | (with_reducible refine Own.drewN ?_ _) | (with_reducible refine Own.drew ?_))); (with_reducible exact HH.out))); intro w3 hh; have HHx : Aside0 (Own [Sep.row kB 78 (.slice A1 i c1) X, Sep.blk gb #[.string x.body, .int .u16 ((x.who ||| bitN id : Nat) : Int)] 78] w w3) := ⟨hh⟩; clear HH; have HH := HHx; clear HHx; clear hh)
            | ((with_reducible refine gate_ (.load 78 (.tmp 10)) rfl ?_); refine ev_load (Own.blk (w0 := w) (As := [Sep.row kB 78 (.slice A1 i c1) X, Sep.blk gb #[.string x.body, .int .u16 ((x.who ||| bitN id : Nat) : Int)] 78]) ?_ 1 rfl) 0 2 [.string x.body, .int .u16 ((x.who ||| bitN id : Nat) : Int)] rfl rfl rfl (by rfl) Try.underlying78 rfl (by kernel_rfl) ?_; (focus ((repeat (first | (with_reducible refine Own.alloc ?_ _) | (with_reducible refine Own.drewN ?_ _) | (with_reducible refine Own.drew ?_))); (with_reducible exact HH.out))))
            | (at_builtin; refine ev_append kB (w0 := w) (As := [Sep.row kB 78 (.slice A1 i c1) X, Sep.blk gb #[.string x.body, .int .u16 ((x.who ||| bitN id : Nat) : Int)] 78]) ?_ 0 rfl (.tmp 34) (.tmp 36) 22 78 (.agg #[(.string ⟨#[]⟩), (.int .u16 0)]) 24 rfl Try.underlying22 infoR rfl (by decide) (by decide) (.slice A1 i c1) X (⟨x.body, x.who ||| bitN id⟩ : Bal) [.string x.body, .int .u16 ((x.who ||| bitN id : Nat) : Int)] rfl rfl ?_ ?_ ?_ ?_; (focus ((repeat (first | (with_reducible refine Own.alloc ?_ _) | (with_reducible refine Own.drewN ?_ _) | (with_reducible refine Own.drew ?_))); (with_reducible exact HH.out))); (focus first | rfl | (simp [Act.eval]; done)); (focus exact fun _ => kB_mkM _ _ _ (⟨x.body, x.who ||| bitN id⟩ : Bal)); (focus rw [HLn.out]; omega); intro A9 c9 w4 hh; have HHx : Aside0 (Own [Sep.row kB 78 (.slice A9 (X.length + 1) c9) (X ++ [(⟨x.body, x.who ||| bitN id⟩ : Bal)]), Sep.blk gb #[.string x.body, .int .u16 ((x.who ||| bitN id : Nat) : Int)] 78] w w4) := ⟨hh⟩; clear HH; have HH := HHx; clear HHx; clear hh)
            | fail)
          go_roundw
          case rel => exact ⟨i + 1, A9, c9, vslice (by rw [HLn.out]), by rw [decide_eq_true (by have := HP1.out HX.out; omega)], by go_num, by omega, ⟨by rw [HT1.out (by have := HD.out; have := HP1.out HX.out; omega)]; have := HH.out.take 1; rw [HLn.out] at this; exact this⟩⟩
          case measure => simp [intOf]; omega
        | false =>
          have HX := Aside0.mk hh
          have hq : (x.body.toList == body.toList) = false := hh
          clear hh
          go_wp2_with (first
            | ((with_reducible refine gate_dst (N := 10) rfl ?_); refine ev_box (w0 := w) (As := [Sep.row kB 78 (.slice A1 i c1) X]) ?_ rfl (cs := #[.string ⟨#[]⟩, .int .u16 0]) (T := 78) ?_ ?_; (focus ((repeat (first | (with_reducible refine Own.alloc ?_ _) | (with_reducible refine Own.drewN ?_ _) | (with_reducible refine Own.drew ?_))); (with_reducible exact HH.out))); (focus first | (go_simp; done) | (go_simp; rfl)); intro gb w1 he hh; clear he; have HHx : Aside0 (Own [Sep.row kB 78 (.slice A1 i c1) X, Sep.blk gb #[.string ⟨#[]⟩, .int .u16 0] 78] w w1) := ⟨hh⟩; clear HH; have HH := HHx; clear HHx; clear hh)
            | ((with_reducible refine gate_ (.store 78 (.tmp 10) (.tmp 20)) rfl ?_); refine ev_store (w0 := w) (As := [Sep.row kB 78 (.slice A1 i c1) X, Sep.blk gb #[.string ⟨#[]⟩, .int .u16 0] 78]) ?_ 1 rfl rfl rfl rfl (by rfl) (.agg #[.string x.body, .int .u16 (x.who : Int)]) (by rfl) [.string x.body, .int .u16 (x.who : Int)] (by rfl) (by kernel_rfl) (by simp) (by simp [Value.oneCell']) ?_; (focus ((repeat (first | (with_reducible refine Own.alloc ?_ _) | (with_reducible refine Own.drewN ?_ _) | (with_reducible refine Own.drew ?_))); (with_reducible exact HH.out))); intro w2 hh; have HHx : Aside0 (Own [Sep.row kB 78 (.slice A1 i c1) X, Sep.blk gb #[.string x.body, .int .u16 (x.who : Int)] 78] w w2) := ⟨hh⟩; clear HH; have HH := HHx; clear HHx; clear hh; have b0 : w2.cell? ⟨gb, 0, none⟩ = some (.string x.body) := blk_cell (Own.blk HH.out 1 rfl) 0)
            | ((with_reducible refine gate_ (.load 78 (.tmp 10)) rfl ?_); refine ev_load (Own.blk (w0 := w) (As := [Sep.row kB 78 (.slice A1 i c1) X, Sep.blk gb #[.string x.body, .int .u16 (x.who : Int)] 78]) ?_ 1 rfl) 0 2 [.string x.body, .int .u16 (x.who : Int)] rfl rfl rfl (by rfl) Try.underlying78 rfl (by kernel_rfl) ?_; (focus ((repeat (first | (with_reducible refine Own.alloc ?_ _) | (with_reducible refine Own.drewN ?_ _) | (with_reducible refine Own.drew ?_))); (with_reducible exact HH.out))))
            | (at_builtin; refine ev_append kB (w0 := w) (As := [Sep.row kB 78 (.slice A1 i c1) X, Sep.blk gb #[.string x.body, .int .u16 (x.who : Int)] 78]) ?_ 0 rfl (.tmp 34) (.tmp 36) 22 78 (.agg #[(.string ⟨#[]⟩), (.int .u16 0)]) 24 rfl Try.underlying22 infoR rfl (by decide) (by decide) (.slice A1 i c1) X x [.string x.body, .int .u16 (x.who : Int)] rfl rfl ?_ ?_ ?_ ?_; (focus ((repeat (first | (with_reducible refine Own.alloc ?_ _) | (with_reducible refine Own.drewN ?_ _) | (with_reducible refine Own.drew ?_))); (with_reducible exact HH.out))); (focus first | rfl | (simp [Act.eval]; done)); (focus exact fun _ => kB_mkM _ _ _ x); (focus rw [HLn.out]; omega); intro A9 c9 w3 hh; have HHx : Aside0 (Own [Sep.row kB 78 (.slice A9 (X.length + 1) c9) (X ++ [x]), Sep.blk gb #[.string x.body, .int .u16 (x.who : Int)] 78] w w3) := ⟨hh⟩; clear HH; have HH := HHx; clear HHx; clear hh)
            | fail)
          go_roundw
          case rel => exact ⟨i + 1, A9, c9, vslice (by rw [HLn.out]), by rw [decide_eq_false (by have := HP2.out HX.out HD.out; omega)], by go_num, by omega, ⟨by rw [HT2.out (by have := HP2.out HX.out HD.out; omega)]; have := HH.out.take 1; rw [HLn.out] at this; exact this⟩⟩
          case measure => simp [intOf]; omega
    · have hie : i = l.length := by omega
      subst hie
      have HLn : Aside0 (((withL l id body).take l.length).length = l.length) := ⟨with_take_len (Nat.le_refl _)⟩
      by_cases hd : posN l body < l.length
      · have HE := Aside0.mk (with_all (id := id) hd)
        rw [decide_eq_true hd]
        rw [HE.out] at HH HLn
        clear hd
        go_wp2_with fail
        go_ret
        exact ⟨A1, c1, ret_slice HLn.out.symm, by rw [HLn.out]; exact HH.out⟩
      · have HE := Aside0.mk (with_end (id := id) hd)
        rw [decide_eq_false hd]
        clear hd
        obtain ⟨X, hX⟩ : ∃ X, (withL l id body).take l.length = X := ⟨_, rfl⟩
        rw [hX] at HH HLn HE
        clear hX
        go_wp2_with (first
          | (go_at_call 62; refine (rwith_calls 0 id _ (by decide) h0 h1).mono ?_; rw [Nat.zero_or]; rintro e wa ⟨rfl, m1, rfl⟩)
          | (at_builtin; refine ev_append kB (w0 := w) (As := [Sep.row kB 78 (.slice A1 l.length c1) X]) ?_ 0 rfl (.tmp 40) (.tmp 45) 22 78 (.agg #[(.string ⟨#[]⟩), (.int .u16 0)]) 24 rfl Try.underlying22 infoR rfl (by decide) (by decide) (.slice A1 l.length c1) X (⟨body, bitN id⟩ : Bal) [.string body, .int .u16 ((bitN id : Nat) : Int)] rfl rfl ?_ ?_ ?_ ?_; (focus ((repeat (first | (with_reducible refine Own.alloc ?_ _) | (with_reducible refine Own.drewN ?_ _) | (with_reducible refine Own.drew ?_))); (with_reducible exact HH.out))); (focus first | rfl | (simp [Act.eval]; done)); (focus exact fun _ => kB_mkM _ _ _ (⟨body, bitN id⟩ : Bal)); (focus rw [HLn.out]; omega); intro A9 c9 w1 hh; have HHx : Aside0 (Own [Sep.row kB 78 (.slice A9 (X.length + 1) c9) (X ++ [(⟨body, bitN id⟩ : Bal)])] w w1) := ⟨hh⟩; clear HH; have HH := HHx; clear HHx; clear hh)
          | fail)
        go_ret
        refine ⟨A9, c9, ret_slice (by rw [← HE.out]; simp), ?_⟩
        have := HH.out
        rw [HE.out] at this
        rw [← HE.out, List.length_append, HE.out]
        exact this
end Go.Proofs.Ytkppilpailbpeaa.Vot
