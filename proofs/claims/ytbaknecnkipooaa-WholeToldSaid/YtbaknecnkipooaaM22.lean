/- hold.Right. -/
import Derived.Test.YtbaknecnkipooaaM21
namespace Go.Proofs.Ytbaknecnkipooaa.Hld
open Go Go.RowKit Go.Proofs.YtbaknecnkipooaaW.PrintWords Go.Proofs.Ytbaknecnkipooaa.Sep Go.Proofs.Ytbaknecnkipooaa.Obj
set_option linter.unusedVariables false
set_option linter.unusedSimpArgs false
open Go.Maps Go.Proofs.Ytbaknecnkipooaa.Mp
set_option maxHeartbeats 8000000 in
set_option maxRecDepth 100000 in
theorem right_h (w : World) (told : List Int) (A : Option Addr) (c : Nat) (l : List It) (ht0 : okV told) (hr : kIt.C w A l.length l) (hq0 : ∀ x ∈ l, WI .i64 x.seq) : Calls Try.prog 28 #[.agg (hoC told (.slice A l.length c))] w (Kept (.bool (rightH told l)) w) := by
  have hlm : l.length ≤ 9223372036854775807 := hr.2.1
  have HT := Aside0.mk ht0
  have HR := Aside0.mk hr
  have HQ := Aside0.mk hq0
  clear ht0 hr hq0
  have HH : Aside0 (OwnS (fun _ => False) [] w w) := ⟨OwnS.of_own (Own.start w)⟩
  cases hall : told.all (fun n => decide (n ≤ 1000)) with
  | false =>
    have HALL : Aside0 ((!told.all (fun n => decide (n ≤ 1000))) = true) := ⟨by rw [hall]; rfl⟩
    have HNO : Aside0 (rightH told l = false) := ⟨by unfold rightH; rw [hall]; rfl⟩
    clear hall
    go_enter Try.func28, Try.ntmps28
    go_wp2_with (first
        | ((with_reducible refine gate_dst (N := 1) rfl ?_); refine evS_box (oh HH) rfl (cs := hoC told (.slice A l.length c)) (T := 36) ?_ ?_; (focus first | (go_simp; done) | (go_simp; rfl)); intro g1 w1 he hh; clear he; replace HH : Aside0 (OwnS (fun _ => False) [Sep.blk g1 (hoC told (.slice A l.length c)) 36] w w1) := ⟨hh⟩; clear hh)
        | (go_at_call 62; refine ownS_call (oh HH) ?_; intro ht; refine (max_calls _ g1 told _ _ HT.out.1 (OwnS.blk ht 0 rfl)).mono ?_; rintro e w2 ⟨m, rfl, hm, hb⟩; rw [HALL.out] at hm; have HHx : Aside0 (OwnS (fun _ => False) [Sep.blk g1 (hoC told (.slice A l.length c)) 36] w w2) := ⟨OwnS.step ht hb⟩; clear HH ht hb; have HH := HHx; clear HHx)
        | fail
        | fail)
    go_ret
    exact ⟨by rw [HNO.out]; rfl, below_frm (OwnS.frm HH.out)⟩
  | true =>
    have HALL : Aside0 ((!told.all (fun n => decide (n ≤ 1000))) = false) := ⟨by rw [hall]; rfl⟩
    by_cases h64 : l.length ≤ 64
    case neg =>
      have HNO : Aside0 (rightH told l = false) := ⟨by unfold rightH; rw [decide_eq_false h64]; simp⟩
      have hd : decide ((64 : Int) < (l.length : Int)) = true := decide_eq_true (by omega)
      clear hall
      go_enter Try.func28, Try.ntmps28
      go_wp2_with (first
        | ((with_reducible refine gate_dst (N := 1) rfl ?_); refine evS_box (oh HH) rfl (cs := hoC told (.slice A l.length c)) (T := 36) ?_ ?_; (focus first | (go_simp; done) | (go_simp; rfl)); intro g1 w1 he hh; clear he; replace HH : Aside0 (OwnS (fun _ => False) [Sep.blk g1 (hoC told (.slice A l.length c)) 36] w w1) := ⟨hh⟩; clear hh)
        | (go_at_call 62; refine ownS_call (oh HH) ?_; intro ht; refine (max_calls _ g1 told _ _ HT.out.1 (OwnS.blk ht 0 rfl)).mono ?_; rintro e w2 ⟨m, rfl, hm, hb⟩; rw [HALL.out] at hm; have HHx : Aside0 (OwnS (fun _ => False) [Sep.blk g1 (hoC told (.slice A l.length c)) 36] w w2) := ⟨OwnS.step ht hb⟩; clear HH ht hb; have HH := HHx; clear HHx; have f15 : w2.cell? ⟨g1, 16, none⟩ = some (.slice A l.length c) := (blk_cell (OwnS.blk HH.out 0 rfl) 16).trans (hoC_last _ _ HT.out.1))
        | fail
        | fail)
      go_ret
      exact ⟨by rw [HNO.out]; rfl, below_frm (OwnS.frm HH.out)⟩
    case pos =>
      have HRT : Aside0 (rightH told l = allOk told [] l) := ⟨by unfold rightH; rw [hall, decide_eq_true h64]; simp⟩
      have hd : decide ((64 : Int) < (l.length : Int)) = false := decide_eq_false (by omega)
      have hmm := @run_makeMap Try.prog
      clear hall
      go_enter Try.func28, Try.ntmps28
      go_wp2_with (first
        | ((with_reducible refine gate_dst (N := 1) rfl ?_); refine evS_box (oh HH) rfl (cs := hoC told (.slice A l.length c)) (T := 36) ?_ ?_; (focus first | (go_simp; done) | (go_simp; rfl)); intro g1 w1 he hh; clear he; replace HH : Aside0 (OwnS (fun _ => False) [Sep.blk g1 (hoC told (.slice A l.length c)) 36] w w1) := ⟨hh⟩; clear hh)
        | (go_at_call 62; refine ownS_call (oh HH) ?_; intro ht; refine (max_calls _ g1 told _ _ HT.out.1 (OwnS.blk ht 0 rfl)).mono ?_; rintro e w2 ⟨m, rfl, hm, hb⟩; rw [HALL.out] at hm; have HHx : Aside0 (OwnS (fun _ => False) [Sep.blk g1 (hoC told (.slice A l.length c)) 36] w w2) := ⟨OwnS.step ht hb⟩; clear HH ht hb; have HH := HHx; clear HHx; have f15 : w2.cell? ⟨g1, 16, none⟩ = some (.slice A l.length c) := (blk_cell (OwnS.blk HH.out 0 rfl) 16).trans (hoC_last _ _ HT.out.1))
        | ((with_reducible refine gate_ (.load 34 (.tmp 20)) rfl ?_); refine ev_cell (v := .slice A l.length c) ((blk_cell (OwnS.blk (oh HH) 0 rfl) 16).trans (hoC_last _ _ HT.out.1)) rfl rfl (by rfl) Try.underlying34 rfl ?_)
        | fail
        | fail)
      go_loopw [23] (fun v23 W => ∃ (i : Nat) (G : Int × Int → Option Value), v23 = .int .i64 (i : Int) ∧ i ≤ l.length ∧ Aside0 (allOk told [] l = allOk told (l.take i) (l.drop i)) ∧ Aside0 (∀ s, (G s).isSome = (l.take i).any (fun y => decide ((y.frm, y.seq) = s))) ∧ Aside0 (∀ s, (G s).getD (.agg #[]) = .agg #[]) ∧ Aside0 (OwnS (fun _ => False) [Sep.blk g1 (hoC told (.slice A l.length c)) 36, mapA w2.heap.size i G] w W)) (fun v23 _ => l.length - (intOf v23).toNat)
      case atStart => exact ⟨0, fun _ => none, rfl, by omega, ⟨allOk_start told l⟩, ⟨fun s => by simp⟩, ⟨fun s => rfl⟩, ⟨mapA_made HH.out⟩⟩
      case round =>
        clear HH f15
        obtain ⟨i, G, rfl, hi, HA, HG, HU, HH⟩ := hrel
        by_cases hlt : i < l.length
        · have hb0 := below_frm (OwnS.frm HH.out)
          obtain ⟨g0, o0, ea, hox, hrx⟩ := at_It (Kd.C_below HR.out hb0) i hlt
          cases ea
          clear hb0
          obtain ⟨x, hx⟩ : ∃ x, l[i] = x := ⟨_, rfl⟩
          have HMX : Aside0 (x ∈ l) := ⟨hx ▸ List.getElem_mem _⟩
          rw [hx] at hox hrx
          have HX := Aside0.mk hx
          have HOX := Aside0.mk hox
          have HRX := Aside0.mk hrx
          have HKX : Aside0 (okS (x.frm, x.seq)) := ⟨wi_u8 hox.2.1.1 hox.2.1.2, HQ.out x HMX.out⟩
          have HST : Aside0 (rightH told l = (oneOk told (l.take i) x && allOk told (l.take (i + 1)) (l.drop (i + 1)))) := ⟨by rw [HRT.out, HA.out, allOk_at told l i hlt, hx]⟩
          have HI : Aside0 ((G (x.frm, x.seq)).isSome = isIn (l.take i) x) := ⟨by rw [HG.out]; unfold isIn same; congr; funext y; simp [Bool.decide_and]⟩
          clear hx hox hrx
          have q0 : 0 ≤ (i : Int) := by omega
          have q1 : (i : Int) < (l.length : Int) := by omega
          cases his : isIn (l.take i) x with
          | true =>
            have HIS : Aside0 ((G (x.frm, x.seq)).isSome = true) := ⟨by rw [HI.out, his]⟩
            have HNO : Aside0 (rightH told l = false) := ⟨by rw [HST.out]; unfold oneOk; rw [his]; simp⟩
            clear his
            go_wp2_with (first
        | ((with_reducible refine gate_ (.load 56 (.tmp 25)) rfl ?_); refine ev_loadR (b := g0) (p0 := o0 + i * 20) (n := 20) (cs := itC x) HRX.out rfl rfl (by rfl) Try.underlying56 rfl (itC_size _ HOX.out.1.1) (by kernel_rfl) ?_)
        | ((with_reducible refine gate_dst (N := 5) rfl ?_); refine evS_box (oh HH) rfl (cs := itC zI) (T := 56) ?_ ?_; (focus first | (go_simp; done) | (go_simp; rfl)); intro g2 w41 he hh; clear he; replace HH : Aside0 (OwnS (fun _ => False) [Sep.blk g1 (hoC told (.slice (some ⟨g0, o0, none⟩) l.length c)) 36, mapA w2.heap.size i G, Sep.blk g2 (itC zI) 56] w w41) := ⟨hh⟩; clear hh)
        | ((with_reducible refine gate_ (.store 56 (.tmp 5) (.tmp 26)) rfl ?_); refine evS_storeA (oh HH) 2 rfl rfl rfl rfl (by rfl) (.agg (itC x)) (by rfl) (itC x) (by rfl) 20 20 (itC_size _ HOX.out.1.1) (itC_size _ zI_len) (by kernel_rfl) (by decide) (itC_one _) (itC x) (put_all _ _ (by rw [(itC_size _ HOX.out.1.1), (itC_size _ zI_len)])) ?_; intro w42 hh; replace HH : Aside0 (OwnS (fun _ => False) [Sep.blk g1 (hoC told (.slice (some ⟨g0, o0, none⟩) l.length c)) 36, mapA w2.heap.size i G, Sep.blk g2 (itC x) 56] w w42) := ⟨hh⟩; clear hh)
        | ((with_reducible refine gate_ (.load 5 (.tmp 27)) rfl ?_); refine ev_cell (v := .int .u8 x.frm) ((blk_cell (OwnS.blk (oh HH) 2 rfl) 0).trans rfl) rfl rfl (by rfl) Try.underlying5 rfl ?_)
        | ((with_reducible refine gate_ (.load 3 (.tmp 29)) rfl ?_); refine ev_cell (v := .int .i64 x.seq) ((blk_cell (OwnS.blk (oh HH) 2 rfl) 1).trans rfl) rfl rfl (by rfl) Try.underlying3 rfl ?_)
        | ((with_reducible refine gate_dst (N := 6) rfl ?_); refine evS_box (oh HH) rfl (cs := #[.int .u8 0, .int .i64 0]) (T := 134) ?_ ?_; (focus first | (go_simp; done) | (go_simp; rfl)); intro g3 w43 he hh; clear he; replace HH : Aside0 (OwnS (fun _ => False) [Sep.blk g1 (hoC told (.slice (some ⟨g0, o0, none⟩) l.length c)) 36, mapA w2.heap.size i G, Sep.blk g2 (itC x) 56, Sep.blk g3 #[.int .u8 0, .int .i64 0] 134] w w43) := ⟨hh⟩; clear hh)
        | ((with_reducible refine gate_ (.store 134 (.tmp 6) (.tmp 31)) rfl ?_); refine evS_store (oh HH) 3 rfl rfl rfl rfl (by rfl) (.agg #[.int .u8 x.frm, .int .i64 x.seq]) (by rfl) [.int .u8 x.frm, .int .i64 x.seq] (by rfl) (by kernel_rfl) (by simp) (by simp [Value.oneCell']) ?_; intro w44 hh; replace HH : Aside0 (OwnS (fun _ => False) [Sep.blk g1 (hoC told (.slice (some ⟨g0, o0, none⟩) l.length c)) 36, mapA w2.heap.size i G, Sep.blk g2 (itC x) 56, Sep.blk g3 #[.int .u8 x.frm, .int .i64 x.seq] 134] w w44) := ⟨hh⟩; clear hh)
        | ((with_reducible refine gate_ (.load 134 (.tmp 6)) rfl ?_); refine ev_load (OwnS.blk (oh HH) 3 rfl) 0 2 [.int .u8 x.frm, .int .i64 x.seq] rfl rfl rfl (by rfl) Try.underlying134 rfl (by kernel_rfl) ?_)
        | (at_lookup; refine wpList_look_ok rfl _ _ _ rfl keysSp 123 Try.underlying132 (zeroSp _) rfl (mapA_get (oh HH) 1 rfl) (x.frm, x.seq) HKX.out rfl ?_; rw [HU.out, HIS.out])
        | fail
        | fail)
            have HKV : Aside0 (∀ w' : World, OwnS (fun _ => False) [Sep.blk g1 (hoC told (.slice (some ⟨g0, o0, none⟩) l.length c)) 36, mapA w2.heap.size i G, Sep.blk g2 (itC x) 56, Sep.blk g3 #[.int .u8 x.frm, .int .i64 x.seq] 134] w w' → (w'.rangeAt g2 0 (itC x).toList)) := ⟨fun W h => range_it HOX.out.1.1 (OwnS.blk h 2 rfl)⟩
            refine wp_region_held_drew (S := fun w' => w'.rangeAt g2 0 (itC x).toList) (by kernel_rfl) ?_ (fun hHeld => ?_)
            focus (try dsimp only); (exact HKV.out _ (oh HH))
            (try dsimp only at hHeld)
            refine otk (i := 0) (v := .bool true) ?_; (try simp only [Act.put, jjA, jjZ, jjS])
            refine otk (i := 1) (v := .bool true) ?_; (try simp only [Act.put, jjA, jjZ, jjS])
            refine tk (i := 2) (v := undef) (hy := Or.inr ⟨by rfl, rfl⟩) (h := ?_); (try simp only [Act.put, jjA, jjZ, jjS])
            refine tk (i := 3) (v := undef) (hy := Or.inr ⟨by rfl, rfl⟩) (h := ?_); (try simp only [Act.put, jjA, jjZ, jjS])
            refine tk (i := 4) (v := undef) (hy := Or.inr ⟨by rfl, rfl⟩) (h := ?_); (try simp only [Act.put, jjA, jjZ, jjS])
            refine otk (i := 5) (v := .bool true) ?_; (try simp only [Act.put, jjA, jjZ, jjS])
            refine otk (i := 6) (v := .bool true) ?_; (try simp only [Act.put, jjA, jjZ, jjS])
            refine tk (i := 7) (v := undef) (hy := Or.inr ⟨by rfl, rfl⟩) (h := ?_); (try simp only [Act.put, jjA, jjZ, jjS])
            refine tk (i := 8) (v := undef) (hy := Or.inr ⟨by rfl, rfl⟩) (h := ?_); (try simp only [Act.put, jjA, jjZ, jjS])
            refine tk (i := 9) (v := undef) (hy := Or.inr ⟨by rfl, rfl⟩) (h := ?_); (try simp only [Act.put, jjA, jjZ, jjS])
            refine tk (i := 10) (v := undef) (hy := Or.inr ⟨by rfl, rfl⟩) (h := ?_); (try simp only [Act.put, jjA, jjZ, jjS])
            refine tk (i := 11) (v := undef) (hy := Or.inr ⟨by rfl, rfl⟩) (h := ?_); (try simp only [Act.put, jjA, jjZ, jjS])
            refine tk (i := 12) (v := undef) (hy := Or.inr ⟨by rfl, rfl⟩) (h := ?_); (try simp only [Act.put, jjA, jjZ, jjS])
            refine tk (i := 13) (v := undef) (hy := Or.inr ⟨by rfl, rfl⟩) (h := ?_); (try simp only [Act.put, jjA, jjZ, jjS])
            refine tk (i := 14) (v := undef) (hy := Or.inr ⟨by rfl, rfl⟩) (h := ?_); (try simp only [Act.put, jjA, jjZ, jjS])
            refine tk (i := 15) (v := undef) (hy := Or.inr ⟨by rfl, rfl⟩) (h := ?_); (try simp only [Act.put, jjA, jjZ, jjS])
            refine otk (i := 16) (v := .bool true) ?_; (try simp only [Act.put, jjA, jjZ, jjS])
            refine otk (i := 17) (v := .bool true) ?_; (try simp only [Act.put, jjA, jjZ, jjS])
            refine tk (i := 18) (v := undef) (hy := Or.inr ⟨by rfl, rfl⟩) (h := ?_); (try simp only [Act.put, jjA, jjZ, jjS])
            refine tk (i := 19) (v := undef) (hy := Or.inr ⟨by rfl, rfl⟩) (h := ?_); (try simp only [Act.put, jjA, jjZ, jjS])
            refine tk (i := 20) (v := undef) (hy := Or.inr ⟨by rfl, rfl⟩) (h := ?_); (try simp only [Act.put, jjA, jjZ, jjS])
            refine tk (i := 21) (v := undef) (hy := Or.inr ⟨by rfl, rfl⟩) (h := ?_); (try simp only [Act.put, jjA, jjZ, jjS])
            refine otk (i := 22) (v := .bool true) ?_; (try simp only [Act.put, jjA, jjZ, jjS])
            refine wpAnyH_done (by kernel_rfl) ?_ _
            go_wp2_with fail
            go_ret
            exact ⟨by rw [HNO.out]; rfl, below_frm (OwnS.frm (OwnS.drew (OwnS.alloc HH.out _)))⟩
          | false =>
            have HIS : Aside0 ((G (x.frm, x.seq)).isSome = false) := ⟨by rw [HI.out, his]⟩
            cases hm : rightI x with
            | false =>
              have HM := Aside0.mk hm
              have HNO : Aside0 (rightH told l = false) := ⟨by rw [HST.out]; unfold oneOk; rw [hm]; simp⟩
              clear hm his
              go_wp2_with (first
        | ((with_reducible refine gate_ (.load 56 (.tmp 25)) rfl ?_); refine ev_loadR (b := g0) (p0 := o0 + i * 20) (n := 20) (cs := itC x) HRX.out rfl rfl (by rfl) Try.underlying56 rfl (itC_size _ HOX.out.1.1) (by kernel_rfl) ?_)
        | ((with_reducible refine gate_dst (N := 5) rfl ?_); refine evS_box (oh HH) rfl (cs := itC zI) (T := 56) ?_ ?_; (focus first | (go_simp; done) | (go_simp; rfl)); intro g2 w41 he hh; clear he; replace HH : Aside0 (OwnS (fun _ => False) [Sep.blk g1 (hoC told (.slice (some ⟨g0, o0, none⟩) l.length c)) 36, mapA w2.heap.size i G, Sep.blk g2 (itC zI) 56] w w41) := ⟨hh⟩; clear hh)
        | ((with_reducible refine gate_ (.store 56 (.tmp 5) (.tmp 26)) rfl ?_); refine evS_storeA (oh HH) 2 rfl rfl rfl rfl (by rfl) (.agg (itC x)) (by rfl) (itC x) (by rfl) 20 20 (itC_size _ HOX.out.1.1) (itC_size _ zI_len) (by kernel_rfl) (by decide) (itC_one _) (itC x) (put_all _ _ (by rw [(itC_size _ HOX.out.1.1), (itC_size _ zI_len)])) ?_; intro w42 hh; replace HH : Aside0 (OwnS (fun _ => False) [Sep.blk g1 (hoC told (.slice (some ⟨g0, o0, none⟩) l.length c)) 36, mapA w2.heap.size i G, Sep.blk g2 (itC x) 56] w w42) := ⟨hh⟩; clear hh)
        | ((with_reducible refine gate_ (.load 5 (.tmp 27)) rfl ?_); refine ev_cell (v := .int .u8 x.frm) ((blk_cell (OwnS.blk (oh HH) 2 rfl) 0).trans rfl) rfl rfl (by rfl) Try.underlying5 rfl ?_)
        | ((with_reducible refine gate_ (.load 3 (.tmp 29)) rfl ?_); refine ev_cell (v := .int .i64 x.seq) ((blk_cell (OwnS.blk (oh HH) 2 rfl) 1).trans rfl) rfl rfl (by rfl) Try.underlying3 rfl ?_)
        | ((with_reducible refine gate_dst (N := 6) rfl ?_); refine evS_box (oh HH) rfl (cs := #[.int .u8 0, .int .i64 0]) (T := 134) ?_ ?_; (focus first | (go_simp; done) | (go_simp; rfl)); intro g3 w43 he hh; clear he; replace HH : Aside0 (OwnS (fun _ => False) [Sep.blk g1 (hoC told (.slice (some ⟨g0, o0, none⟩) l.length c)) 36, mapA w2.heap.size i G, Sep.blk g2 (itC x) 56, Sep.blk g3 #[.int .u8 0, .int .i64 0] 134] w w43) := ⟨hh⟩; clear hh)
        | ((with_reducible refine gate_ (.store 134 (.tmp 6) (.tmp 31)) rfl ?_); refine evS_store (oh HH) 3 rfl rfl rfl rfl (by rfl) (.agg #[.int .u8 x.frm, .int .i64 x.seq]) (by rfl) [.int .u8 x.frm, .int .i64 x.seq] (by rfl) (by kernel_rfl) (by simp) (by simp [Value.oneCell']) ?_; intro w44 hh; replace HH : Aside0 (OwnS (fun _ => False) [Sep.blk g1 (hoC told (.slice (some ⟨g0, o0, none⟩) l.length c)) 36, mapA w2.heap.size i G, Sep.blk g2 (itC x) 56, Sep.blk g3 #[.int .u8 x.frm, .int .i64 x.seq] 134] w w44) := ⟨hh⟩; clear hh)
        | ((with_reducible refine gate_ (.load 134 (.tmp 6)) rfl ?_); refine ev_load (OwnS.blk (oh HH) 3 rfl) 0 2 [.int .u8 x.frm, .int .i64 x.seq] rfl rfl rfl (by rfl) Try.underlying134 rfl (by kernel_rfl) ?_)
        | (at_lookup; refine wpList_look_ok rfl _ _ _ rfl keysSp 123 Try.underlying132 (zeroSp _) rfl (mapA_get (oh HH) 1 rfl) (x.frm, x.seq) HKX.out rfl ?_; rw [HU.out, HIS.out])
        | fail
        | fail)
              have HKV : Aside0 (∀ w' : World, OwnS (fun _ => False) [Sep.blk g1 (hoC told (.slice (some ⟨g0, o0, none⟩) l.length c)) 36, mapA w2.heap.size i G, Sep.blk g2 (itC x) 56, Sep.blk g3 #[.int .u8 x.frm, .int .i64 x.seq] 134] w w' → (w'.rangeAt g2 0 (itC x).toList)) := ⟨fun W h => range_it HOX.out.1.1 (OwnS.blk h 2 rfl)⟩
              refine wp_region_held_drew (S := fun w' => w'.rangeAt g2 0 (itC x).toList) (by kernel_rfl) ?_ (fun hHeld => ?_)
              focus (try dsimp only); (exact HKV.out _ (oh HH))
              (try dsimp only at hHeld)
              refine otk (i := 0) (v := .bool false) ?_; (try simp only [Act.put, jjA, jjZ, jjS])
              refine otk (i := 1) (v := .bool false) ?_; (try simp only [Act.put, jjA, jjZ, jjS])
              refine tk (i := 2) (hy := yieldsIf_load_mid (by rfl) _ _ rfl _ _ rfl ((itC x).toList) _ ?_ Try.underlying56 rfl (by rw [Array.length_toList, (itC_size _ HOX.out.1.1)]; kernel_rfl)) (h := ?_); (focus (intro w hSw; (try dsimp only at hSw); go_split_ands; assumption)); (try simp only [Act.put, jjA, jjZ, jjS])
              refine wpAnyH_ready (rs := [3]) (by kernel_rfl) (by simp) ?_; refine AllReadyH.cons (by simp only [List.getElem?_toArray, List.getElem?_cons_succ, List.getElem?_cons_zero]; rfl) (fun K hK => ?_) AllReadyH.nil; go_simp; go_at_call 29; refine ownS_call (oh HH) ?_; intro ht; refine (imay_calls _ x HOX.out).mono ?_; rintro e w45 ⟨rfl, hb⟩; rw [HM.out]; replace HH : Aside0 (OwnS (fun _ => False) [Sep.blk g1 (hoC told (.slice (some ⟨g0, o0, none⟩) l.length c)) 36, mapA w2.heap.size i G, Sep.blk g2 (itC x) 56, Sep.blk g3 #[.int .u8 x.frm, .int .i64 x.seq] 134] w w45) := ⟨OwnS.step ht hb⟩; clear hb; clear ht; refine hK.out _ _ ?_ (fun hHeld2 => ?_); (focus (try dsimp only); (exact HKV.out _ (oh HH))); clear hK K hHeld; rename _ => hHeld; (try dsimp only at hHeld); (try simp only [Act.put, jjA, jjZ, jjS])
              refine otk (i := 4) (v := .bool true) ?_; (try simp only [Act.put, jjA, jjZ, jjS])
              refine otk (i := 5) (v := .bool true) ?_; (try simp only [Act.put, jjA, jjZ, jjS])
              refine otk (i := 6) (v := .bool true) ?_; (try simp only [Act.put, jjA, jjZ, jjS])
              refine tk (i := 7) (v := undef) (hy := Or.inr ⟨by rfl, rfl⟩) (h := ?_); (try simp only [Act.put, jjA, jjZ, jjS])
              refine tk (i := 8) (v := undef) (hy := Or.inr ⟨by rfl, rfl⟩) (h := ?_); (try simp only [Act.put, jjA, jjZ, jjS])
              refine tk (i := 9) (v := undef) (hy := Or.inr ⟨by rfl, rfl⟩) (h := ?_); (try simp only [Act.put, jjA, jjZ, jjS])
              refine tk (i := 10) (v := undef) (hy := Or.inr ⟨by rfl, rfl⟩) (h := ?_); (try simp only [Act.put, jjA, jjZ, jjS])
              refine tk (i := 11) (v := undef) (hy := Or.inr ⟨by rfl, rfl⟩) (h := ?_); (try simp only [Act.put, jjA, jjZ, jjS])
              refine tk (i := 12) (v := undef) (hy := Or.inr ⟨by rfl, rfl⟩) (h := ?_); (try simp only [Act.put, jjA, jjZ, jjS])
              refine tk (i := 13) (v := undef) (hy := Or.inr ⟨by rfl, rfl⟩) (h := ?_); (try simp only [Act.put, jjA, jjZ, jjS])
              refine tk (i := 14) (v := undef) (hy := Or.inr ⟨by rfl, rfl⟩) (h := ?_); (try simp only [Act.put, jjA, jjZ, jjS])
              refine tk (i := 15) (v := undef) (hy := Or.inr ⟨by rfl, rfl⟩) (h := ?_); (try simp only [Act.put, jjA, jjZ, jjS])
              refine otk (i := 16) (v := .bool true) ?_; (try simp only [Act.put, jjA, jjZ, jjS])
              refine otk (i := 17) (v := .bool true) ?_; (try simp only [Act.put, jjA, jjZ, jjS])
              refine tk (i := 18) (v := undef) (hy := Or.inr ⟨by rfl, rfl⟩) (h := ?_); (try simp only [Act.put, jjA, jjZ, jjS])
              refine tk (i := 19) (v := undef) (hy := Or.inr ⟨by rfl, rfl⟩) (h := ?_); (try simp only [Act.put, jjA, jjZ, jjS])
              refine tk (i := 20) (v := undef) (hy := Or.inr ⟨by rfl, rfl⟩) (h := ?_); (try simp only [Act.put, jjA, jjZ, jjS])
              refine tk (i := 21) (v := undef) (hy := Or.inr ⟨by rfl, rfl⟩) (h := ?_); (try simp only [Act.put, jjA, jjZ, jjS])
              refine otk (i := 22) (v := .bool true) ?_; (try simp only [Act.put, jjA, jjZ, jjS])
              refine wpAnyH_done (by kernel_rfl) ?_ _
              go_wp2_with fail
              go_ret
              exact ⟨by rw [HNO.out]; rfl, below_frm (OwnS.frm HH.out)⟩
            | true =>
              have HM := Aside0.mk hm
              have hf0 : 0 ≤ x.frm := HOX.out.2.1.1
              obtain ⟨f, hfx⟩ : ∃ f, x.frm = f := ⟨_, rfl⟩
              obtain ⟨q, hqx⟩ : ∃ q, x.seq = q := ⟨_, rfl⟩
              have HFX := Aside0.mk hfx
              have HQX := Aside0.mk hqx
              have hf16 : f < 16 := by
                have hm2 := hm
                unfold rightI rightB at hm2
                rw [Bool.and_eq_true, Bool.and_eq_true] at hm2
                rw [← hfx]
                exact of_decide_eq_true hm2.1.2
              rw [hfx] at hf0
              have HF : Aside0 (f.toNat < 16) := ⟨by omega⟩
              obtain ⟨n, hn⟩ : ∃ n, told.getD f.toNat 0 = n := ⟨_, rfl⟩
              have hr := okV_at HT.out f.toNat HF.out
              rw [hn] at hr
              have HN := Aside0.mk hn
              have hw := wrap_u16 hr.1 hr.2
              have hnn : 0 ≤ n := hr.1
              have HOF : Aside0 (ofT told x = n) := ⟨by unfold ofT; rw [hfx, hn]⟩
              have HQ1 : Aside0 (x.seq = q) := ⟨hqx⟩
              clear hn hr hfx hqx
              by_cases hlq : q < n
              · have hb1 : decide (q < n) = true := decide_eq_true hlq
                have HNO : Aside0 (rightH told l = false) := ⟨by rw [HST.out]; unfold oneOk; rw [HOF.out, HQ1.out, hb1]; simp⟩
                clear hm his
                go_wp2_with (first
        | ((with_reducible refine gate_ (.load 56 (.tmp 25)) rfl ?_); refine ev_loadR (b := g0) (p0 := o0 + i * 20) (n := 20) (cs := itC x) HRX.out rfl rfl (by rfl) Try.underlying56 rfl (itC_size _ HOX.out.1.1) (by kernel_rfl) ?_)
        | ((with_reducible refine gate_dst (N := 5) rfl ?_); refine evS_box (oh HH) rfl (cs := itC zI) (T := 56) ?_ ?_; (focus first | (go_simp; done) | (go_simp; rfl)); intro g2 w41 he hh; clear he; replace HH : Aside0 (OwnS (fun _ => False) [Sep.blk g1 (hoC told (.slice (some ⟨g0, o0, none⟩) l.length c)) 36, mapA w2.heap.size i G, Sep.blk g2 (itC zI) 56] w w41) := ⟨hh⟩; clear hh)
        | ((with_reducible refine gate_ (.store 56 (.tmp 5) (.tmp 26)) rfl ?_); refine evS_storeA (oh HH) 2 rfl rfl rfl rfl (by rfl) (.agg (itC x)) (by rfl) (itC x) (by rfl) 20 20 (itC_size _ HOX.out.1.1) (itC_size _ zI_len) (by kernel_rfl) (by decide) (itC_one _) (itC x) (put_all _ _ (by rw [(itC_size _ HOX.out.1.1), (itC_size _ zI_len)])) ?_; intro w42 hh; replace HH : Aside0 (OwnS (fun _ => False) [Sep.blk g1 (hoC told (.slice (some ⟨g0, o0, none⟩) l.length c)) 36, mapA w2.heap.size i G, Sep.blk g2 (itC x) 56] w w42) := ⟨hh⟩; clear hh)
        | ((with_reducible refine gate_ (.load 5 (.tmp 27)) rfl ?_); refine ev_cell (v := .int .u8 x.frm) ((blk_cell (OwnS.blk (oh HH) 2 rfl) 0).trans rfl) rfl rfl (by rfl) Try.underlying5 rfl ?_)
        | ((with_reducible refine gate_ (.load 3 (.tmp 29)) rfl ?_); refine ev_cell (v := .int .i64 x.seq) ((blk_cell (OwnS.blk (oh HH) 2 rfl) 1).trans rfl) rfl rfl (by rfl) Try.underlying3 rfl ?_)
        | ((with_reducible refine gate_dst (N := 6) rfl ?_); refine evS_box (oh HH) rfl (cs := #[.int .u8 0, .int .i64 0]) (T := 134) ?_ ?_; (focus first | (go_simp; done) | (go_simp; rfl)); intro g3 w43 he hh; clear he; replace HH : Aside0 (OwnS (fun _ => False) [Sep.blk g1 (hoC told (.slice (some ⟨g0, o0, none⟩) l.length c)) 36, mapA w2.heap.size i G, Sep.blk g2 (itC x) 56, Sep.blk g3 #[.int .u8 0, .int .i64 0] 134] w w43) := ⟨hh⟩; clear hh)
        | ((with_reducible refine gate_ (.store 134 (.tmp 6) (.tmp 31)) rfl ?_); refine evS_store (oh HH) 3 rfl rfl rfl rfl (by rfl) (.agg #[.int .u8 x.frm, .int .i64 x.seq]) (by rfl) [.int .u8 x.frm, .int .i64 x.seq] (by rfl) (by kernel_rfl) (by simp) (by simp [Value.oneCell']) ?_; intro w44 hh; replace HH : Aside0 (OwnS (fun _ => False) [Sep.blk g1 (hoC told (.slice (some ⟨g0, o0, none⟩) l.length c)) 36, mapA w2.heap.size i G, Sep.blk g2 (itC x) 56, Sep.blk g3 #[.int .u8 x.frm, .int .i64 x.seq] 134] w w44) := ⟨hh⟩; clear hh)
        | ((with_reducible refine gate_ (.load 134 (.tmp 6)) rfl ?_); refine ev_load (OwnS.blk (oh HH) 3 rfl) 0 2 [.int .u8 x.frm, .int .i64 x.seq] rfl rfl rfl (by rfl) Try.underlying134 rfl (by kernel_rfl) ?_)
        | (at_lookup; refine wpList_look_ok rfl _ _ _ rfl keysSp 123 Try.underlying132 (zeroSp _) rfl (mapA_get (oh HH) 1 rfl) (x.frm, x.seq) HKX.out rfl ?_; rw [HU.out, HIS.out])
        | fail
        | fail)
                have HKV : Aside0 (∀ w' : World, OwnS (fun _ => False) [Sep.blk g1 (hoC told (.slice (some ⟨g0, o0, none⟩) l.length c)) 36, mapA w2.heap.size i G, Sep.blk g2 (itC x) 56, Sep.blk g3 #[.int .u8 x.frm, .int .i64 x.seq] 134] w w' → (w'.rangeAt g2 0 (itC x).toList ∧ w'.cell? ⟨g2, 0, none⟩ = some (.int .u8 f) ∧ w'.cell? ⟨g2, 1, none⟩ = some (.int .i64 q) ∧ w'.rangeAt g1 0 (nums .u16 told) ∧ w'.cell? ⟨g1, f.toNat, none⟩ = some (.int .u16 n))) := ⟨fun W h => ⟨range_it HOX.out.1.1 (OwnS.blk h 2 rfl), (by rw [← HFX.out]; exact blk_cell (OwnS.blk h 2 rfl) 0), (by rw [← HQX.out]; exact blk_cell (OwnS.blk h 2 rfl) 1), range_ho HT.out.1 (OwnS.blk h 0 rfl), (by rw [← HN.out]; exact (blk_cell (OwnS.blk h 0 rfl) f.toNat).trans (hoC_at _ _ f.toNat (by rw [HT.out.1]; exact HF.out)))⟩⟩
                refine wp_region_held_drew (S := fun w' => w'.rangeAt g2 0 (itC x).toList ∧ w'.cell? ⟨g2, 0, none⟩ = some (.int .u8 f) ∧ w'.cell? ⟨g2, 1, none⟩ = some (.int .i64 q) ∧ w'.rangeAt g1 0 (nums .u16 told) ∧ w'.cell? ⟨g1, f.toNat, none⟩ = some (.int .u16 n)) (by kernel_rfl) ?_ (fun hHeld => ?_)
                focus (try dsimp only); (exact HKV.out _ (oh HH))
                (try dsimp only at hHeld)
                refine otk (i := 0) (v := .bool false) ?_; (try simp only [Act.put, jjA, jjZ, jjS])
                refine otk (i := 1) (v := .bool false) ?_; (try simp only [Act.put, jjA, jjZ, jjS])
                refine tk (i := 2) (hy := yieldsIf_load_mid (by rfl) _ _ rfl _ _ rfl ((itC x).toList) _ ?_ Try.underlying56 rfl (by rw [Array.length_toList, (itC_size _ HOX.out.1.1)]; kernel_rfl)) (h := ?_); (focus (intro w hSw; (try dsimp only at hSw); go_split_ands; assumption)); (try simp only [Act.put, jjA, jjZ, jjS])
                refine wpAnyH_ready (rs := [3]) (by kernel_rfl) (by simp) ?_; refine AllReadyH.cons (by simp only [List.getElem?_toArray, List.getElem?_cons_succ, List.getElem?_cons_zero]; rfl) (fun K hK => ?_) AllReadyH.nil; go_simp; go_at_call 29; refine ownS_call (oh HH) ?_; intro ht; refine (imay_calls _ x HOX.out).mono ?_; rintro e w45 ⟨rfl, hb⟩; rw [HM.out]; replace HH : Aside0 (OwnS (fun _ => False) [Sep.blk g1 (hoC told (.slice (some ⟨g0, o0, none⟩) l.length c)) 36, mapA w2.heap.size i G, Sep.blk g2 (itC x) 56, Sep.blk g3 #[.int .u8 x.frm, .int .i64 x.seq] 134] w w45) := ⟨OwnS.step ht hb⟩; clear hb; clear ht; refine hK.out _ _ ?_ (fun hHeld2 => ?_); (focus (try dsimp only); (exact HKV.out _ (oh HH))); clear hK K hHeld; rename _ => hHeld; (try dsimp only at hHeld); (try simp only [Act.put, jjA, jjZ, jjS])
                refine otk (i := 4) (v := .bool false) ?_; (try simp only [Act.put, jjA, jjZ, jjS])
                refine otk (i := 5) (v := .bool false) ?_; (try simp only [Act.put, jjA, jjZ, jjS])
                refine otk (i := 6) (v := .bool false) ?_; (try simp only [Act.put, jjA, jjZ, jjS])
                refine otk (i := 7) ?_; (try simp only [Act.put, jjA, jjZ, jjS])
                refine otk (i := 8) (v := .int .i64 q) ?_; (try simp only [Act.put, jjA, jjZ, jjS])
                refine otk (i := 9) ?_; (try simp only [Act.put, jjA, jjZ, jjS])
                refine otk (i := 10) (v := .int .u8 f) ?_; (try simp only [Act.put, jjA, jjZ, jjS])
                refine otk (i := 11) ?_; (try simp only [Act.put, jjA, jjZ, jjS])
                refine otk (i := 12) ?_; (try simp only [Act.put, jjA, jjZ, jjS])
                refine otk (i := 13) (v := .int .u16 n) ?_; (try simp only [Act.put, jjA, jjZ, jjS])
                refine otk (i := 14) (v := .int .i64 n) ?_; (try simp only [Act.put, jjA, jjZ, jjS])
                refine otk (i := 15) (v := .bool true) ?_; (try simp only [Act.put, jjA, jjZ, jjS])
                refine otk (i := 16) (v := .bool true) ?_; (try simp only [Act.put, jjA, jjZ, jjS])
                refine otk (i := 17) (v := .bool true) ?_; (try simp only [Act.put, jjA, jjZ, jjS])
                refine tk (i := 18) (v := undef) (hy := Or.inr ⟨by rfl, rfl⟩) (h := ?_); (try simp only [Act.put, jjA, jjZ, jjS])
                refine tk (i := 19) (v := undef) (hy := Or.inr ⟨by rfl, rfl⟩) (h := ?_); (try simp only [Act.put, jjA, jjZ, jjS])
                refine tk (i := 20) (v := undef) (hy := Or.inr ⟨by rfl, rfl⟩) (h := ?_); (try simp only [Act.put, jjA, jjZ, jjS])
                refine tk (i := 21) (v := undef) (hy := Or.inr ⟨by rfl, rfl⟩) (h := ?_); (try simp only [Act.put, jjA, jjZ, jjS])
                refine otk (i := 22) (v := .bool true) ?_; (try simp only [Act.put, jjA, jjZ, jjS])
                refine wpAnyH_done (by kernel_rfl) ?_ _
                go_wp2_with fail
                go_ret
                exact ⟨by rw [HNO.out]; rfl, below_frm (OwnS.frm HH.out)⟩
              · have hb1 : decide (q < n) = false := decide_eq_false hlq
                cases hrd : readyB told x with
                | true =>
                  have HRD := Aside0.mk hrd
                  have HNO : Aside0 (rightH told l = false) := ⟨by rw [HST.out]; unfold oneOk; rw [hrd]; simp⟩
                  clear hm his hrd
                  go_wp2_with (first
        | ((with_reducible refine gate_ (.load 56 (.tmp 25)) rfl ?_); refine ev_loadR (b := g0) (p0 := o0 + i * 20) (n := 20) (cs := itC x) HRX.out rfl rfl (by rfl) Try.underlying56 rfl (itC_size _ HOX.out.1.1) (by kernel_rfl) ?_)
        | ((with_reducible refine gate_dst (N := 5) rfl ?_); refine evS_box (oh HH) rfl (cs := itC zI) (T := 56) ?_ ?_; (focus first | (go_simp; done) | (go_simp; rfl)); intro g2 w41 he hh; clear he; replace HH : Aside0 (OwnS (fun _ => False) [Sep.blk g1 (hoC told (.slice (some ⟨g0, o0, none⟩) l.length c)) 36, mapA w2.heap.size i G, Sep.blk g2 (itC zI) 56] w w41) := ⟨hh⟩; clear hh)
        | ((with_reducible refine gate_ (.store 56 (.tmp 5) (.tmp 26)) rfl ?_); refine evS_storeA (oh HH) 2 rfl rfl rfl rfl (by rfl) (.agg (itC x)) (by rfl) (itC x) (by rfl) 20 20 (itC_size _ HOX.out.1.1) (itC_size _ zI_len) (by kernel_rfl) (by decide) (itC_one _) (itC x) (put_all _ _ (by rw [(itC_size _ HOX.out.1.1), (itC_size _ zI_len)])) ?_; intro w42 hh; replace HH : Aside0 (OwnS (fun _ => False) [Sep.blk g1 (hoC told (.slice (some ⟨g0, o0, none⟩) l.length c)) 36, mapA w2.heap.size i G, Sep.blk g2 (itC x) 56] w w42) := ⟨hh⟩; clear hh)
        | ((with_reducible refine gate_ (.load 5 (.tmp 27)) rfl ?_); refine ev_cell (v := .int .u8 x.frm) ((blk_cell (OwnS.blk (oh HH) 2 rfl) 0).trans rfl) rfl rfl (by rfl) Try.underlying5 rfl ?_)
        | ((with_reducible refine gate_ (.load 3 (.tmp 29)) rfl ?_); refine ev_cell (v := .int .i64 x.seq) ((blk_cell (OwnS.blk (oh HH) 2 rfl) 1).trans rfl) rfl rfl (by rfl) Try.underlying3 rfl ?_)
        | ((with_reducible refine gate_dst (N := 6) rfl ?_); refine evS_box (oh HH) rfl (cs := #[.int .u8 0, .int .i64 0]) (T := 134) ?_ ?_; (focus first | (go_simp; done) | (go_simp; rfl)); intro g3 w43 he hh; clear he; replace HH : Aside0 (OwnS (fun _ => False) [Sep.blk g1 (hoC told (.slice (some ⟨g0, o0, none⟩) l.length c)) 36, mapA w2.heap.size i G, Sep.blk g2 (itC x) 56, Sep.blk g3 #[.int .u8 0, .int .i64 0] 134] w w43) := ⟨hh⟩; clear hh)
        | ((with_reducible refine gate_ (.store 134 (.tmp 6) (.tmp 31)) rfl ?_); refine evS_store (oh HH) 3 rfl rfl rfl rfl (by rfl) (.agg #[.int .u8 x.frm, .int .i64 x.seq]) (by rfl) [.int .u8 x.frm, .int .i64 x.seq] (by rfl) (by kernel_rfl) (by simp) (by simp [Value.oneCell']) ?_; intro w44 hh; replace HH : Aside0 (OwnS (fun _ => False) [Sep.blk g1 (hoC told (.slice (some ⟨g0, o0, none⟩) l.length c)) 36, mapA w2.heap.size i G, Sep.blk g2 (itC x) 56, Sep.blk g3 #[.int .u8 x.frm, .int .i64 x.seq] 134] w w44) := ⟨hh⟩; clear hh)
        | ((with_reducible refine gate_ (.load 134 (.tmp 6)) rfl ?_); refine ev_load (OwnS.blk (oh HH) 3 rfl) 0 2 [.int .u8 x.frm, .int .i64 x.seq] rfl rfl rfl (by rfl) Try.underlying134 rfl (by kernel_rfl) ?_)
        | (at_lookup; refine wpList_look_ok rfl _ _ _ rfl keysSp 123 Try.underlying132 (zeroSp _) rfl (mapA_get (oh HH) 1 rfl) (x.frm, x.seq) HKX.out rfl ?_; rw [HU.out, HIS.out])
        | fail
        | fail)
                  have HKV : Aside0 (∀ w' : World, OwnS (fun _ => False) [Sep.blk g1 (hoC told (.slice (some ⟨g0, o0, none⟩) l.length c)) 36, mapA w2.heap.size i G, Sep.blk g2 (itC x) 56, Sep.blk g3 #[.int .u8 x.frm, .int .i64 x.seq] 134] w w' → (w'.rangeAt g2 0 (itC x).toList ∧ w'.cell? ⟨g2, 0, none⟩ = some (.int .u8 f) ∧ w'.cell? ⟨g2, 1, none⟩ = some (.int .i64 q) ∧ w'.rangeAt g1 0 (nums .u16 told) ∧ w'.cell? ⟨g1, f.toNat, none⟩ = some (.int .u16 n))) := ⟨fun W h => ⟨range_it HOX.out.1.1 (OwnS.blk h 2 rfl), (by rw [← HFX.out]; exact blk_cell (OwnS.blk h 2 rfl) 0), (by rw [← HQX.out]; exact blk_cell (OwnS.blk h 2 rfl) 1), range_ho HT.out.1 (OwnS.blk h 0 rfl), (by rw [← HN.out]; exact (blk_cell (OwnS.blk h 0 rfl) f.toNat).trans (hoC_at _ _ f.toNat (by rw [HT.out.1]; exact HF.out)))⟩⟩
                  refine wp_region_held_drew (S := fun w' => w'.rangeAt g2 0 (itC x).toList ∧ w'.cell? ⟨g2, 0, none⟩ = some (.int .u8 f) ∧ w'.cell? ⟨g2, 1, none⟩ = some (.int .i64 q) ∧ w'.rangeAt g1 0 (nums .u16 told) ∧ w'.cell? ⟨g1, f.toNat, none⟩ = some (.int .u16 n)) (by kernel_rfl) ?_ (fun hHeld => ?_)
                  focus (try dsimp only); (exact HKV.out _ (oh HH))
                  (try dsimp only at hHeld)
                  refine otk (i := 0) (v := .bool false) ?_; (try simp only [Act.put, jjA, jjZ, jjS])
                  refine otk (i := 1) (v := .bool false) ?_; (try simp only [Act.put, jjA, jjZ, jjS])
                  refine tk (i := 2) (hy := yieldsIf_load_mid (by rfl) _ _ rfl _ _ rfl ((itC x).toList) _ ?_ Try.underlying56 rfl (by rw [Array.length_toList, (itC_size _ HOX.out.1.1)]; kernel_rfl)) (h := ?_); (focus (intro w hSw; (try dsimp only at hSw); go_split_ands; assumption)); (try simp only [Act.put, jjA, jjZ, jjS])
                  refine wpAnyH_ready (rs := [3]) (by kernel_rfl) (by simp) ?_; refine AllReadyH.cons (by simp only [List.getElem?_toArray, List.getElem?_cons_succ, List.getElem?_cons_zero]; rfl) (fun K hK => ?_) AllReadyH.nil; go_simp; go_at_call 29; refine ownS_call (oh HH) ?_; intro ht; refine (imay_calls _ x HOX.out).mono ?_; rintro e w45 ⟨rfl, hb⟩; rw [HM.out]; replace HH : Aside0 (OwnS (fun _ => False) [Sep.blk g1 (hoC told (.slice (some ⟨g0, o0, none⟩) l.length c)) 36, mapA w2.heap.size i G, Sep.blk g2 (itC x) 56, Sep.blk g3 #[.int .u8 x.frm, .int .i64 x.seq] 134] w w45) := ⟨OwnS.step ht hb⟩; clear hb; clear ht; refine hK.out _ _ ?_ (fun hHeld2 => ?_); (focus (try dsimp only); (exact HKV.out _ (oh HH))); clear hK K hHeld; rename _ => hHeld; (try dsimp only at hHeld); (try simp only [Act.put, jjA, jjZ, jjS])
                  refine otk (i := 4) (v := .bool false) ?_; (try simp only [Act.put, jjA, jjZ, jjS])
                  refine otk (i := 5) (v := .bool false) ?_; (try simp only [Act.put, jjA, jjZ, jjS])
                  refine otk (i := 6) (v := .bool false) ?_; (try simp only [Act.put, jjA, jjZ, jjS])
                  refine otk (i := 7) ?_; (try simp only [Act.put, jjA, jjZ, jjS])
                  refine otk (i := 8) (v := .int .i64 q) ?_; (try simp only [Act.put, jjA, jjZ, jjS])
                  refine otk (i := 9) ?_; (try simp only [Act.put, jjA, jjZ, jjS])
                  refine otk (i := 10) (v := .int .u8 f) ?_; (try simp only [Act.put, jjA, jjZ, jjS])
                  refine otk (i := 11) ?_; (try simp only [Act.put, jjA, jjZ, jjS])
                  refine otk (i := 12) ?_; (try simp only [Act.put, jjA, jjZ, jjS])
                  refine otk (i := 13) (v := .int .u16 n) ?_; (try simp only [Act.put, jjA, jjZ, jjS])
                  refine otk (i := 14) (v := .int .i64 n) ?_; (try simp only [Act.put, jjA, jjZ, jjS])
                  refine otk (i := 15) (v := .bool false) ?_; (try simp only [Act.put, jjA, jjZ, jjS])
                  refine otk (i := 16) (v := .bool false) ?_; (try simp only [Act.put, jjA, jjZ, jjS])
                  refine otk (i := 17) (v := .bool false) ?_; (try simp only [Act.put, jjA, jjZ, jjS])
                  refine otk (i := 18) ?_; (try simp only [Act.put, jjA, jjZ, jjS])
                  refine tk (i := 19) (hy := yieldsIf_load_mid (by rfl) _ _ rfl _ _ rfl (nums .u16 told) _ ?_ Try.underlying30 rfl (infoV HT.out.1)) (h := ?_); (focus (intro w hSw; (try dsimp only at hSw); go_split_ands; assumption)); (try simp only [Act.put, jjA, jjZ, jjS])
                  refine tk (i := 20) (hy := yieldsIf_load_mid (by rfl) _ _ rfl _ _ rfl ((itC x).toList) _ ?_ Try.underlying56 rfl (by rw [Array.length_toList, (itC_size _ HOX.out.1.1)]; kernel_rfl)) (h := ?_); (focus (intro w hSw; (try dsimp only at hSw); go_split_ands; assumption)); (try simp only [Act.put, jjA, jjZ, jjS])
                  refine wpAnyH_ready (rs := [21]) (by kernel_rfl) (by simp) ?_; refine AllReadyH.cons (by simp only [List.getElem?_toArray, List.getElem?_cons_succ, List.getElem?_cons_zero]; rfl) (fun K hK => ?_) AllReadyH.nil; go_simp; go_at_call 31; refine ownS_call (oh HH) ?_; intro ht; refine (ready_calls _ told x HT.out HOX.out).mono ?_; rintro e w46 ⟨rfl, hb⟩; rw [HRD.out]; replace HH : Aside0 (OwnS (fun _ => False) [Sep.blk g1 (hoC told (.slice (some ⟨g0, o0, none⟩) l.length c)) 36, mapA w2.heap.size i G, Sep.blk g2 (itC x) 56, Sep.blk g3 #[.int .u8 x.frm, .int .i64 x.seq] 134] w w46) := ⟨OwnS.step ht hb⟩; clear hb; clear ht; refine hK.out _ _ ?_ (fun hHeld2 => ?_); (focus (try dsimp only); (exact HKV.out _ (oh HH))); clear hK K hHeld; rename _ => hHeld; (try dsimp only at hHeld); (try simp only [Act.put, jjA, jjZ, jjS])
                  refine otk (i := 22) (v := .bool true) ?_; (try simp only [Act.put, jjA, jjZ, jjS])
                  refine wpAnyH_done (by kernel_rfl) ?_ _
                  go_wp2_with fail
                  go_ret
                  exact ⟨by rw [HNO.out]; rfl, below_frm (OwnS.frm HH.out)⟩
                | false =>
                  have HRD := Aside0.mk hrd
                  have HYE : Aside0 (rightH told l = allOk told (l.take (i + 1)) (l.drop (i + 1))) := ⟨by rw [HST.out]; unfold oneOk; rw [hrd, hm, his, HOF.out, HQ1.out, hb1]; simp⟩
                  clear hm his hrd
                  go_wp2_with (first
        | ((with_reducible refine gate_ (.load 56 (.tmp 25)) rfl ?_); refine ev_loadR (b := g0) (p0 := o0 + i * 20) (n := 20) (cs := itC x) HRX.out rfl rfl (by rfl) Try.underlying56 rfl (itC_size _ HOX.out.1.1) (by kernel_rfl) ?_)
        | ((with_reducible refine gate_dst (N := 5) rfl ?_); refine evS_box (oh HH) rfl (cs := itC zI) (T := 56) ?_ ?_; (focus first | (go_simp; done) | (go_simp; rfl)); intro g2 w41 he hh; clear he; replace HH : Aside0 (OwnS (fun _ => False) [Sep.blk g1 (hoC told (.slice (some ⟨g0, o0, none⟩) l.length c)) 36, mapA w2.heap.size i G, Sep.blk g2 (itC zI) 56] w w41) := ⟨hh⟩; clear hh)
        | ((with_reducible refine gate_ (.store 56 (.tmp 5) (.tmp 26)) rfl ?_); refine evS_storeA (oh HH) 2 rfl rfl rfl rfl (by rfl) (.agg (itC x)) (by rfl) (itC x) (by rfl) 20 20 (itC_size _ HOX.out.1.1) (itC_size _ zI_len) (by kernel_rfl) (by decide) (itC_one _) (itC x) (put_all _ _ (by rw [(itC_size _ HOX.out.1.1), (itC_size _ zI_len)])) ?_; intro w42 hh; replace HH : Aside0 (OwnS (fun _ => False) [Sep.blk g1 (hoC told (.slice (some ⟨g0, o0, none⟩) l.length c)) 36, mapA w2.heap.size i G, Sep.blk g2 (itC x) 56] w w42) := ⟨hh⟩; clear hh)
        | ((with_reducible refine gate_ (.load 5 (.tmp 27)) rfl ?_); refine ev_cell (v := .int .u8 x.frm) ((blk_cell (OwnS.blk (oh HH) 2 rfl) 0).trans rfl) rfl rfl (by rfl) Try.underlying5 rfl ?_)
        | ((with_reducible refine gate_ (.load 3 (.tmp 29)) rfl ?_); refine ev_cell (v := .int .i64 x.seq) ((blk_cell (OwnS.blk (oh HH) 2 rfl) 1).trans rfl) rfl rfl (by rfl) Try.underlying3 rfl ?_)
        | ((with_reducible refine gate_dst (N := 6) rfl ?_); refine evS_box (oh HH) rfl (cs := #[.int .u8 0, .int .i64 0]) (T := 134) ?_ ?_; (focus first | (go_simp; done) | (go_simp; rfl)); intro g3 w43 he hh; clear he; replace HH : Aside0 (OwnS (fun _ => False) [Sep.blk g1 (hoC told (.slice (some ⟨g0, o0, none⟩) l.length c)) 36, mapA w2.heap.size i G, Sep.blk g2 (itC x) 56, Sep.blk g3 #[.int .u8 0, .int .i64 0] 134] w w43) := ⟨hh⟩; clear hh)
        | ((with_reducible refine gate_ (.store 134 (.tmp 6) (.tmp 31)) rfl ?_); refine evS_store (oh HH) 3 rfl rfl rfl rfl (by rfl) (.agg #[.int .u8 x.frm, .int .i64 x.seq]) (by rfl) [.int .u8 x.frm, .int .i64 x.seq] (by rfl) (by kernel_rfl) (by simp) (by simp [Value.oneCell']) ?_; intro w44 hh; replace HH : Aside0 (OwnS (fun _ => False) [Sep.blk g1 (hoC told (.slice (some ⟨g0, o0, none⟩) l.length c)) 36, mapA w2.heap.size i G, Sep.blk g2 (itC x) 56, Sep.blk g3 #[.int .u8 x.frm, .int .i64 x.seq] 134] w w44) := ⟨hh⟩; clear hh)
        | ((with_reducible refine gate_ (.load 134 (.tmp 6)) rfl ?_); refine ev_load (OwnS.blk (oh HH) 3 rfl) 0 2 [.int .u8 x.frm, .int .i64 x.seq] rfl rfl rfl (by rfl) Try.underlying134 rfl (by kernel_rfl) ?_)
        | (at_lookup; refine wpList_look_ok rfl _ _ _ rfl keysSp 123 Try.underlying132 (zeroSp _) rfl (mapA_get (oh HH) 1 rfl) (x.frm, x.seq) HKX.out rfl ?_; rw [HU.out, HIS.out])
        | fail
        | fail)
                  have HKV : Aside0 (∀ w' : World, OwnS (fun _ => False) [Sep.blk g1 (hoC told (.slice (some ⟨g0, o0, none⟩) l.length c)) 36, mapA w2.heap.size i G, Sep.blk g2 (itC x) 56, Sep.blk g3 #[.int .u8 x.frm, .int .i64 x.seq] 134] w w' → (w'.rangeAt g2 0 (itC x).toList ∧ w'.cell? ⟨g2, 0, none⟩ = some (.int .u8 f) ∧ w'.cell? ⟨g2, 1, none⟩ = some (.int .i64 q) ∧ w'.rangeAt g1 0 (nums .u16 told) ∧ w'.cell? ⟨g1, f.toNat, none⟩ = some (.int .u16 n))) := ⟨fun W h => ⟨range_it HOX.out.1.1 (OwnS.blk h 2 rfl), (by rw [← HFX.out]; exact blk_cell (OwnS.blk h 2 rfl) 0), (by rw [← HQX.out]; exact blk_cell (OwnS.blk h 2 rfl) 1), range_ho HT.out.1 (OwnS.blk h 0 rfl), (by rw [← HN.out]; exact (blk_cell (OwnS.blk h 0 rfl) f.toNat).trans (hoC_at _ _ f.toNat (by rw [HT.out.1]; exact HF.out)))⟩⟩
                  refine wp_region_held_drew (S := fun w' => w'.rangeAt g2 0 (itC x).toList ∧ w'.cell? ⟨g2, 0, none⟩ = some (.int .u8 f) ∧ w'.cell? ⟨g2, 1, none⟩ = some (.int .i64 q) ∧ w'.rangeAt g1 0 (nums .u16 told) ∧ w'.cell? ⟨g1, f.toNat, none⟩ = some (.int .u16 n)) (by kernel_rfl) ?_ (fun hHeld => ?_)
                  focus (try dsimp only); (exact HKV.out _ (oh HH))
                  (try dsimp only at hHeld)
                  refine otk (i := 0) (v := .bool false) ?_; (try simp only [Act.put, jjA, jjZ, jjS])
                  refine otk (i := 1) (v := .bool false) ?_; (try simp only [Act.put, jjA, jjZ, jjS])
                  refine tk (i := 2) (hy := yieldsIf_load_mid (by rfl) _ _ rfl _ _ rfl ((itC x).toList) _ ?_ Try.underlying56 rfl (by rw [Array.length_toList, (itC_size _ HOX.out.1.1)]; kernel_rfl)) (h := ?_); (focus (intro w hSw; (try dsimp only at hSw); go_split_ands; assumption)); (try simp only [Act.put, jjA, jjZ, jjS])
                  refine wpAnyH_ready (rs := [3]) (by kernel_rfl) (by simp) ?_; refine AllReadyH.cons (by simp only [List.getElem?_toArray, List.getElem?_cons_succ, List.getElem?_cons_zero]; rfl) (fun K hK => ?_) AllReadyH.nil; go_simp; go_at_call 29; refine ownS_call (oh HH) ?_; intro ht; refine (imay_calls _ x HOX.out).mono ?_; rintro e w45 ⟨rfl, hb⟩; rw [HM.out]; replace HH : Aside0 (OwnS (fun _ => False) [Sep.blk g1 (hoC told (.slice (some ⟨g0, o0, none⟩) l.length c)) 36, mapA w2.heap.size i G, Sep.blk g2 (itC x) 56, Sep.blk g3 #[.int .u8 x.frm, .int .i64 x.seq] 134] w w45) := ⟨OwnS.step ht hb⟩; clear hb; clear ht; refine hK.out _ _ ?_ (fun hHeld2 => ?_); (focus (try dsimp only); (exact HKV.out _ (oh HH))); clear hK K hHeld; rename _ => hHeld; (try dsimp only at hHeld); (try simp only [Act.put, jjA, jjZ, jjS])
                  refine otk (i := 4) (v := .bool false) ?_; (try simp only [Act.put, jjA, jjZ, jjS])
                  refine otk (i := 5) (v := .bool false) ?_; (try simp only [Act.put, jjA, jjZ, jjS])
                  refine otk (i := 6) (v := .bool false) ?_; (try simp only [Act.put, jjA, jjZ, jjS])
                  refine otk (i := 7) ?_; (try simp only [Act.put, jjA, jjZ, jjS])
                  refine otk (i := 8) (v := .int .i64 q) ?_; (try simp only [Act.put, jjA, jjZ, jjS])
                  refine otk (i := 9) ?_; (try simp only [Act.put, jjA, jjZ, jjS])
                  refine otk (i := 10) (v := .int .u8 f) ?_; (try simp only [Act.put, jjA, jjZ, jjS])
                  refine otk (i := 11) ?_; (try simp only [Act.put, jjA, jjZ, jjS])
                  refine otk (i := 12) ?_; (try simp only [Act.put, jjA, jjZ, jjS])
                  refine otk (i := 13) (v := .int .u16 n) ?_; (try simp only [Act.put, jjA, jjZ, jjS])
                  refine otk (i := 14) (v := .int .i64 n) ?_; (try simp only [Act.put, jjA, jjZ, jjS])
                  refine otk (i := 15) (v := .bool false) ?_; (try simp only [Act.put, jjA, jjZ, jjS])
                  refine otk (i := 16) (v := .bool false) ?_; (try simp only [Act.put, jjA, jjZ, jjS])
                  refine otk (i := 17) (v := .bool false) ?_; (try simp only [Act.put, jjA, jjZ, jjS])
                  refine otk (i := 18) ?_; (try simp only [Act.put, jjA, jjZ, jjS])
                  refine tk (i := 19) (hy := yieldsIf_load_mid (by rfl) _ _ rfl _ _ rfl (nums .u16 told) _ ?_ Try.underlying30 rfl (infoV HT.out.1)) (h := ?_); (focus (intro w hSw; (try dsimp only at hSw); go_split_ands; assumption)); (try simp only [Act.put, jjA, jjZ, jjS])
                  refine tk (i := 20) (hy := yieldsIf_load_mid (by rfl) _ _ rfl _ _ rfl ((itC x).toList) _ ?_ Try.underlying56 rfl (by rw [Array.length_toList, (itC_size _ HOX.out.1.1)]; kernel_rfl)) (h := ?_); (focus (intro w hSw; (try dsimp only at hSw); go_split_ands; assumption)); (try simp only [Act.put, jjA, jjZ, jjS])
                  refine wpAnyH_ready (rs := [21]) (by kernel_rfl) (by simp) ?_; refine AllReadyH.cons (by simp only [List.getElem?_toArray, List.getElem?_cons_succ, List.getElem?_cons_zero]; rfl) (fun K hK => ?_) AllReadyH.nil; go_simp; go_at_call 31; refine ownS_call (oh HH) ?_; intro ht; refine (ready_calls _ told x HT.out HOX.out).mono ?_; rintro e w46 ⟨rfl, hb⟩; rw [HRD.out]; replace HH : Aside0 (OwnS (fun _ => False) [Sep.blk g1 (hoC told (.slice (some ⟨g0, o0, none⟩) l.length c)) 36, mapA w2.heap.size i G, Sep.blk g2 (itC x) 56, Sep.blk g3 #[.int .u8 x.frm, .int .i64 x.seq] 134] w w46) := ⟨OwnS.step ht hb⟩; clear hb; clear ht; refine hK.out _ _ ?_ (fun hHeld2 => ?_); (focus (try dsimp only); (exact HKV.out _ (oh HH))); clear hK K hHeld; rename _ => hHeld; (try dsimp only at hHeld); (try simp only [Act.put, jjA, jjZ, jjS])
                  refine otk (i := 22) (v := .bool false) ?_; (try simp only [Act.put, jjA, jjZ, jjS])
                  refine wpAnyH_done (by kernel_rfl) ?_ _
                  go_wp2_with (first
                  | ((with_reducible refine gate_ (.load 134 (.tmp 6)) rfl ?_); refine ev_load (OwnS.blk (oh HH) 3 rfl) 0 2 [.int .u8 x.frm, .int .i64 x.seq] rfl rfl rfl (by rfl) Try.underlying134 rfl (by kernel_rfl) ?_)
                  | (at_mapUpdate; refine wpList_put rfl _ _ _ _ rfl keysSp 123 Try.underlying132 rfl (mapA_get (oh HH) 1 rfl) (by unfold maxLen; omega) (x.frm, x.seq) HKX.out rfl _ rfl ?_; intro w70 hm2 hg2; replace HH : Aside0 (OwnS (fun _ => False) [Sep.blk g1 (hoC told (.slice (some ⟨g0, o0, none⟩) l.length c)) 36, mapA w2.heap.size (i + 1) (upd G (x.frm, x.seq) (.agg #[])), Sep.blk g2 (itC x) 56, Sep.blk g3 #[.int .u8 x.frm, .int .i64 x.seq] 134] w w70) := ⟨mapA_put (oh HH) 1 rfl hm2 hg2⟩; clear hm2 hg2)
                  | fail
                  | fail)
                  go_roundw
                  case rel => exact ⟨i + 1, _, by go_num, by omega, ⟨by rw [← HRT.out]; exact HYE.out⟩, ⟨fun s => upd_in hlt HX.out HG.out s⟩, ⟨fun s => upd_agg HU.out _ s⟩, ⟨OwnS.take HH.out 2⟩⟩
                  case measure => simp [intOf]; omega
        · have hge : i = l.length := by omega
          subst hge
          have HYES : Aside0 (rightH told l = true) := ⟨by rw [HRT.out, HA.out, allOk_end]⟩
          go_wp2_with fail
          go_ret
          exact ⟨by rw [HYES.out]; rfl, below_frm (OwnS.frm HH.out)⟩
end Go.Proofs.Ytbaknecnkipooaa.Hld
