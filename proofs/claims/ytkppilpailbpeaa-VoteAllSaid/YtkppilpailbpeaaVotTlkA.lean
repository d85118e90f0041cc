/- Talk: agree. -/
import Derived.Test.YtkppilpailbpeaaVotTlkP
namespace Go.Proofs.Ytkppilpailbpeaa.Vot
open Go Go.RowKit Go.Proofs.YtkppilpailbpeaaW.PrintWords Go.Proofs.Ytkppilpailbpeaa.Cnt Go.Proofs.Ytkppilpailbpeaa.Opn Go.Proofs.Ytkppilpailbpeaa.Sep Go.Proofs.Ytkppilpailbpeaa.Obj
set_option linter.unusedVariables false
set_option linter.unusedSimpArgs false

set_option maxHeartbeats 1000000 in
set_option maxRecDepth 100000 in
theorem agree_calls (S : Nat → Prop) (w : World) (g0 gc gt gd n f fr cc ct cd : Nat) (A : Option Addr) (c m : Nat) (us : List Und) (xs : List RC) (td : List ByteArray) (dn : List Bool) (sent : ByteArray) (k p : Nat)
    (h : OwnS S [Sep.blk g0 #[.int .i64 (n : Int), .int .i64 (f : Int), .int .u8 (fr : Int), .slice (some ⟨gc, 0, none⟩) n cc, .slice (some ⟨gt, 0, none⟩) n ct, .slice (some ⟨gd, 0, none⟩) n cd, .slice A m c] 67, wayA (.slice A m c) us, Sep.row kRC 35 (.slice (some ⟨gc, 0, none⟩) n cc) xs, Sep.row kSt 9 (.slice (some ⟨gt, 0, none⟩) n ct) td, Sep.row kBo 4 (.slice (some ⟨gd, 0, none⟩) n cd) dn] w w) (hI : TalkI n f fr sent us xs td dn k p) (hN : Num n f fr) : Calls Try.prog 24 #[.pointer (some ⟨g0, 0, none⟩), .string sent] w (fun e w' => e = .returned (.bool true) ∧ OwnS S [Sep.blk g0 #[.int .i64 (n : Int), .int .i64 (f : Int), .int .u8 (fr : Int), .slice (some ⟨gc, 0, none⟩) n cc, .slice (some ⟨gt, 0, none⟩) n ct, .slice (some ⟨gd, 0, none⟩) n cd, .slice A m c] 67, wayA (.slice A m c) us, Sep.row kRC 35 (.slice (some ⟨gc, 0, none⟩) n cc) xs, Sep.row kSt 9 (.slice (some ⟨gt, 0, none⟩) n ct) td, Sep.row kBo 4 (.slice (some ⟨gd, 0, none⟩) n cd) dn] w w' ∧ Below w.heap.size w w') := by
  have HH : Aside0 (OwnS S [Sep.blk g0 #[.int .i64 (n : Int), .int .i64 (f : Int), .int .u8 (fr : Int), .slice (some ⟨gc, 0, none⟩) n cc, .slice (some ⟨gt, 0, none⟩) n ct, .slice (some ⟨gd, 0, none⟩) n cd, .slice A m c] 67, wayA (.slice A m c) us, Sep.row kRC 35 (.slice (some ⟨gc, 0, none⟩) n cc) xs, Sep.row kSt 9 (.slice (some ⟨gt, 0, none⟩) n ct) td, Sep.row kBo 4 (.slice (some ⟨gd, 0, none⟩) n cd) dn] w w) := ⟨h⟩
  have HW : Aside0 (Below w.heap.size w w) := ⟨Below.refl _ _⟩
  obtain ⟨h1, h2⟩ := hI.agree hN
  have H1 := Aside0.mk h1
  have H2 := Aside0.mk h2
  have HLD := Aside0.mk hI.ld
  have HLT := Aside0.mk hI.lt
  have hn7 := hN.n7
  have hfn : f ≤ n := by have := hN.fn; have := hN.n1; omega
  have hfr8 : fr ≤ 255 := by have := hN.fr; omega
  clear h h1 h2 hI hN
  go_enter Try.func24, Try.ntmps24
  have f1 : w.cell? ⟨g0, 1, none⟩ = some (.int .i64 (f : Int)) := blk_cell (OwnS.blk (S := S) (w0 := w) (As := [Sep.blk g0 #[.int .i64 (n : Int), .int .i64 (f : Int), .int .u8 (fr : Int), .slice (some ⟨gc, 0, none⟩) n cc, .slice (some ⟨gt, 0, none⟩) n ct, .slice (some ⟨gd, 0, none⟩) n cd, .slice A m c] 67, wayA (.slice A m c) us, Sep.row kRC 35 (.slice (some ⟨gc, 0, none⟩) n cc) xs, Sep.row kSt 9 (.slice (some ⟨gt, 0, none⟩) n ct) td, Sep.row kBo 4 (.slice (some ⟨gd, 0, none⟩) n cd) dn]) HH.out 0 rfl) 1
  go_wp2_with fail
  go_loopw [5, 6, 7] (fun v5 v6 v7 W => (∃ (i : Nat) (b : ByteArray) (any : Bool), v5 = .string b ∧ v6 = .bool any ∧ v7 = .int .i64 (i : Int) ∧ f ≤ i ∧ i ≤ n ∧ Aside0 (any = true → ∃ j, Hn n f j ∧ dn[j]? = some true ∧ td[j]? = some b) ∧ Aside0 (OwnS S [Sep.blk g0 #[.int .i64 (n : Int), .int .i64 (f : Int), .int .u8 (fr : Int), .slice (some ⟨gc, 0, none⟩) n cc, .slice (some ⟨gt, 0, none⟩) n ct, .slice (some ⟨gd, 0, none⟩) n cd, .slice A m c] 67, wayA (.slice A m c) us, Sep.row kRC 35 (.slice (some ⟨gc, 0, none⟩) n cc) xs, Sep.row kSt 9 (.slice (some ⟨gt, 0, none⟩) n ct) td, Sep.row kBo 4 (.slice (some ⟨gd, 0, none⟩) n cd) dn] w W)) ∧ Aside0 (Below w.heap.size w W)) (fun _ _ v7 _ => n - (intOf v7).toNat)
  case atStart => exact ⟨⟨f, _, false, rfl, rfl, rfl, Nat.le_refl _, hfn, ⟨fun h => (by cases h)⟩, HH⟩, HW⟩
  case round =>
    clear HH HW f1
    obtain ⟨⟨i, b, any, rfl, rfl, rfl, hfi, hin, HANY, HH⟩, HW⟩ := hrel
    have f0 : wr.cell? ⟨g0, 0, none⟩ = some (.int .i64 (n : Int)) := blk_cell (OwnS.blk (S := S) (w0 := w) (As := [Sep.blk g0 #[.int .i64 (n : Int), .int .i64 (f : Int), .int .u8 (fr : Int), .slice (some ⟨gc, 0, none⟩) n cc, .slice (some ⟨gt, 0, none⟩) n ct, .slice (some ⟨gd, 0, none⟩) n cd, .slice A m c] 67, wayA (.slice A m c) us, Sep.row kRC 35 (.slice (some ⟨gc, 0, none⟩) n cc) xs, Sep.row kSt 9 (.slice (some ⟨gt, 0, none⟩) n ct) td, Sep.row kBo 4 (.slice (some ⟨gd, 0, none⟩) n cd) dn]) HH.out 0 rfl) 0
    by_cases hlt : i < n
    · have q0 : 0 ≤ (i : Int) := by omega
      have q1 : (i : Int) < (n : Int) := by omega
      have f5 : wr.cell? ⟨g0, 5, none⟩ = some (.slice (some ⟨gd, 0, none⟩) n cd) := blk_cell (OwnS.blk (S := S) (w0 := w) (As := [Sep.blk g0 #[.int .i64 (n : Int), .int .i64 (f : Int), .int .u8 (fr : Int), .slice (some ⟨gc, 0, none⟩) n cc, .slice (some ⟨gt, 0, none⟩) n ct, .slice (some ⟨gd, 0, none⟩) n cd, .slice A m c] 67, wayA (.slice A m c) us, Sep.row kRC 35 (.slice (some ⟨gc, 0, none⟩) n cc) xs, Sep.row kSt 9 (.slice (some ⟨gt, 0, none⟩) n ct) td, Sep.row kBo 4 (.slice (some ⟨gd, 0, none⟩) n cd) dn]) HH.out 0 rfl) 5
      obtain ⟨d, hd⟩ : ∃ d, dn[i]? = some d := ⟨_, List.getElem?_eq_getElem (by rw [HLD.out]; exact hlt)⟩
      have HDN := Aside0.mk hd
      have fd : wr.cell? ⟨gd, i, none⟩ = some (.bool d) := row_cell1b (OwnS.C (S := S) (w0 := w) (As := [Sep.blk g0 #[.int .i64 (n : Int), .int .i64 (f : Int), .int .u8 (fr : Int), .slice (some ⟨gc, 0, none⟩) n cc, .slice (some ⟨gt, 0, none⟩) n ct, .slice (some ⟨gd, 0, none⟩) n cd, .slice A m c] 67, wayA (.slice A m c) us, Sep.row kRC 35 (.slice (some ⟨gc, 0, none⟩) n cc) xs, Sep.row kSt 9 (.slice (some ⟨gt, 0, none⟩) n ct) td, Sep.row kBo 4 (.slice (some ⟨gd, 0, none⟩) n cd) dn]) HH.out 4 rfl) HDN.out
      clear hd
      cases d with
      | false =>
        go_wp2_with fail
        go_roundw
        case rel => exact ⟨⟨i + 1, b, any, rfl, rfl, by go_num, by omega, by omega, HANY, HH⟩, HW⟩
        case measure => simp [intOf]; omega
      | true =>
        have f1 : wr.cell? ⟨g0, 1, none⟩ = some (.int .i64 (f : Int)) := blk_cell (OwnS.blk (S := S) (w0 := w) (As := [Sep.blk g0 #[.int .i64 (n : Int), .int .i64 (f : Int), .int .u8 (fr : Int), .slice (some ⟨gc, 0, none⟩) n cc, .slice (some ⟨gt, 0, none⟩) n ct, .slice (some ⟨gd, 0, none⟩) n cd, .slice A m c] 67, wayA (.slice A m c) us, Sep.row kRC 35 (.slice (some ⟨gc, 0, none⟩) n cc) xs, Sep.row kSt 9 (.slice (some ⟨gt, 0, none⟩) n ct) td, Sep.row kBo 4 (.slice (some ⟨gd, 0, none⟩) n cd) dn]) HH.out 0 rfl) 1
        have f2 : wr.cell? ⟨g0, 2, none⟩ = some (.int .u8 (fr : Int)) := blk_cell (OwnS.blk (S := S) (w0 := w) (As := [Sep.blk g0 #[.int .i64 (n : Int), .int .i64 (f : Int), .int .u8 (fr : Int), .slice (some ⟨gc, 0, none⟩) n cc, .slice (some ⟨gt, 0, none⟩) n ct, .slice (some ⟨gd, 0, none⟩) n cd, .slice A m c] 67, wayA (.slice A m c) us, Sep.row kRC 35 (.slice (some ⟨gc, 0, none⟩) n cc) xs, Sep.row kSt 9 (.slice (some ⟨gt, 0, none⟩) n ct) td, Sep.row kBo 4 (.slice (some ⟨gd, 0, none⟩) n cd) dn]) HH.out 0 rfl) 2
        have f4 : wr.cell? ⟨g0, 4, none⟩ = some (.slice (some ⟨gt, 0, none⟩) n ct) := blk_cell (OwnS.blk (S := S) (w0 := w) (As := [Sep.blk g0 #[.int .i64 (n : Int), .int .i64 (f : Int), .int .u8 (fr : Int), .slice (some ⟨gc, 0, none⟩) n cc, .slice (some ⟨gt, 0, none⟩) n ct, .slice (some ⟨gd, 0, none⟩) n cd, .slice A m c] 67, wayA (.slice A m c) us, Sep.row kRC 35 (.slice (some ⟨gc, 0, none⟩) n cc) xs, Sep.row kSt 9 (.slice (some ⟨gt, 0, none⟩) n ct) td, Sep.row kBo 4 (.slice (some ⟨gd, 0, none⟩) n cd) dn]) HH.out 0 rfl) 4
        obtain ⟨s, hs⟩ : ∃ s, td[i]? = some s := ⟨_, List.getElem?_eq_getElem (by rw [HLT.out]; exact hlt)⟩
        have HTD := Aside0.mk hs
        have ft : wr.cell? ⟨gt, i, none⟩ = some (.string s) := row_cell1s (OwnS.C (S := S) (w0 := w) (As := [Sep.blk g0 #[.int .i64 (n : Int), .int .i64 (f : Int), .int .u8 (fr : Int), .slice (some ⟨gc, 0, none⟩) n cc, .slice (some ⟨gt, 0, none⟩) n ct, .slice (some ⟨gd, 0, none⟩) n cd, .slice A m c] 67, wayA (.slice A m c) us, Sep.row kRC 35 (.slice (some ⟨gc, 0, none⟩) n cc) xs, Sep.row kSt 9 (.slice (some ⟨gt, 0, none⟩) n ct) td, Sep.row kBo 4 (.slice (some ⟨gd, 0, none⟩) n cd) dn]) HH.out 3 rfl) HTD.out
        clear hs
        have HIN : Aside0 (Hn n f i) := ⟨⟨hfi, hlt⟩⟩
        have HANY2 : Aside0 (true = true → ∃ j, Hn n f j ∧ dn[j]? = some true ∧ td[j]? = some s) := ⟨fun _ => ⟨i, HIN.out, HDN.out, HTD.out⟩⟩
        have hbs : any = true → b = s := fun e => by
          obtain ⟨j, hj, hj1, hj2⟩ := HANY.out e
          have := H1.out j i hj HIN.out hj1 HDN.out
          rw [hj2, HTD.out] at this
          exact Option.some.inj this
        by_cases hff : f ≤ fr
        · have hs2 := H2.out hff i HIN.out HDN.out
          rw [HTD.out] at hs2
          cases hs2
          have hfd : decide (f ≤ fr) = true := decide_eq_true hff
          cases any with
          | false =>
            clear hbs
            go_wp2_with fail
            go_quiet (fail)
            go_wp2_with fail
            go_roundw
            case rel => exact ⟨⟨i + 1, _, true, rfl, rfl, by go_num, by omega, by omega, ⟨fun _ => HANY2.out trivial⟩, ⟨OwnS.drewN HH.out _⟩⟩, ⟨pw_below_drewN HW.out _⟩⟩
            case measure => simp [intOf]; omega
          | true =>
            have hb2 := hbs rfl
            subst hb2
            clear hbs
            go_wp2_with fail
            go_quiet (fail)
            go_wp2_with fail
            go_roundw
            case rel => exact ⟨⟨i + 1, _, true, rfl, rfl, by go_num, by omega, by omega, ⟨fun _ => HANY2.out trivial⟩, ⟨OwnS.drewN HH.out _⟩⟩, ⟨pw_below_drewN HW.out _⟩⟩
            case measure => simp [intOf]; omega
        · have hfd : decide (f ≤ fr) = false := decide_eq_false hff
          cases any with
          | false =>
            clear hbs
            go_wp2_with fail
            go_quiet (fail)
            go_wp2_with fail
            go_roundw
            case rel => exact ⟨⟨i + 1, _, true, rfl, rfl, by go_num, by omega, by omega, ⟨fun _ => HANY2.out trivial⟩, ⟨OwnS.drewN HH.out _⟩⟩, ⟨pw_below_drewN HW.out _⟩⟩
            case measure => simp [intOf]; omega
          | true =>
            have hb2 := hbs rfl
            subst hb2
            clear hbs
            go_wp2_with fail
            go_quiet (fail)
            go_wp2_with fail
            go_roundw
            case rel => exact ⟨⟨i + 1, _, true, rfl, rfl, by go_num, by omega, by omega, ⟨fun _ => HANY2.out trivial⟩, ⟨OwnS.drewN HH.out _⟩⟩, ⟨pw_below_drewN HW.out _⟩⟩
            case measure => simp [intOf]; omega
    · have q1 : ¬ ((i : Int) < (n : Int)) := by omega
      go_wp2_with fail
      go_ret
      exact ⟨rfl, HH.out, HW.out⟩
end Go.Proofs.Ytkppilpailbpeaa.Vot
