/- table's Right: there may be such a table. -/
import Derived.Test.YtbaknecnkipooaaM28
namespace Go.Proofs.Ytbaknecnkipooaa.Tld
open Go Go.RowKit Go.Proofs.YtbaknecnkipooaaW.PrintWords Go.Proofs.Ytbaknecnkipooaa.Sep Go.Proofs.Ytbaknecnkipooaa.Obj Go.Proofs.Ytbaknecnkipooaa.Vot Go.Proofs.Ytbaknecnkipooaa.Hld
set_option linter.unusedVariables false
set_option linter.unusedSimpArgs false
structure OkT (b : List Int) (xs : List OP) : Prop where
  base : OkB b
  o : ∀ x ∈ xs, OkO b x.frm x.seq x.x.c
  s : SortedO (xs.map OP.o)
  l : xs.length ≤ 1000
set_option maxHeartbeats 1000000 in
set_option maxRecDepth 100000 in
theorem Right_calls (w : World) (b : List Int) (A : Option Addr) (c : Nat) (xs : List OP) (hk : OkT b xs) (hC : kOP.C w A xs.length xs) (hR : ∀ x ∈ xs, RBs w x.x) : Calls Try.prog 52 #[.agg (tabC b (.slice A xs.length c))] w (Kp (.bool true) w) := by
  have HH : Aside0 (OwnS (fun _ => False) [] w w) := ⟨OwnS.of_own (Own.start w)⟩
  have HV : Aside0 (b.length = 16) := ⟨hk.base.v.1⟩
  have HOB : Aside0 (OkB b) := ⟨hk.base⟩
  have HOS : Aside0 (∀ x ∈ xs, OkO b x.frm x.seq x.x.c) := ⟨hk.o⟩
  have HSR : Aside0 (SortedO (xs.map OP.o)) := ⟨hk.s⟩
  have HR := Aside0.mk hR
  have HCC := Aside0.mk hC
  have hl : xs.length ≤ 1000 := hk.l
  clear hk hC hR
  go_enter Try.func52, Try.ntmps52
  go_wp2_with (first
  | ((with_reducible refine gate_dst (N := 1) rfl ?_); refine evS_box (oh HH) rfl (cs := tabC b (.slice A xs.length c)) (T := 33) ?_ ?_; (focus first | (go_simp; done) | (go_simp; rfl)); intro g1 w1 he hh; clear he; replace HH : Aside0 (OwnS (fun _ => False) [Sep.blk g1 (tabC b (.slice A xs.length c)) 33] w w1) := ⟨hh⟩; clear hh)
  | ((with_reducible refine gate_ (.load 3 (.tmp 7)) rfl ?_); refine ev_cell (v := .int .i64 0) ((blk_cell (OwnS.blk (oh HH) 0 rfl) 0).trans rfl) rfl rfl (by rfl) Try.underlying3 rfl ?_; have fc1 : w1.cell? ⟨g1, 0, none⟩ = some (.int .i64 0) := ((blk_cell (OwnS.blk HH.out 0 rfl) 0).trans rfl))
  | ((with_reducible refine gate_ (.load 30 (.tmp 15)) rfl ?_); refine ev_loadA (OwnS.blk (oh HH) 0 rfl) 2 16 (vecC b) (tabC_vec _ _ HV.out) rfl rfl (by rfl) Try.underlying30 rfl (vecC_size _ HV.out) (by kernel_rfl) ?_)
  | fail
  | fail)
  go_loopw [17] (fun v17 W => ∃ (i : Nat), v17 = .int .i64 (i : Int) ∧ i ≤ 16 ∧ Aside0 (OwnS (fun _ => False) [Sep.blk g1 (tabC b (.slice A xs.length c)) 33] w W)) (fun v17 _ => 16 - (intOf v17).toNat)
  case atStart => exact ⟨0, rfl, by omega, HH⟩
  case round =>
    clear HH
    obtain ⟨i, rfl, hi, HH⟩ := hrel
    by_cases hlt : i < 16
    · obtain ⟨n, hn⟩ : ∃ n, b.getD i 0 = n := ⟨_, rfl⟩
      have hix := vec_index b i HV.out hlt
      rw [hn] at hix
      have hnb : n ≤ 1000 := by rw [← hn]; exact HOB.out.le i hlt
      have hb1 : ¬ 1000 < n := by omega
      have q0 : 0 ≤ (i : Int) := by omega
      have q1 : (i : Int) < 16 := by omega
      have hw : IntKind.u8.wrap (i : Int) = (i : Int) := by rw [IntKind.wrap_u8]; omega
      by_cases hp : 0 < n
      · have h4 : i < 4 := by
          rcases Nat.lt_or_ge i 4 with h | h
          · exact h
          · have := HOB.out.z i h hlt
            omega
        have H15 : Aside0 (Cnt.hasB 15 (i : Int) = true) := ⟨has15 i h4⟩
        have fm : World.cell? _ ⟨g1, 1, none⟩ = some (.int .u16 15) := blk_cell (OwnS.blk HH.out 0 rfl) 1
        clear hn
        go_wp2_with (first
          | (go_at_call 39; refine ownS_call (oh HH) ?_; intro ht; refine (Cnt.has_calls 15 (i : Int) _ (by decide) q0).mono ?_; rintro e w11 hq; obtain ⟨rfl, hb⟩ := ret_kept hq; clear hq; rw [H15.out]; replace HH : Aside0 (OwnS (fun _ => False) [Sep.blk g1 (tabC b (.slice A xs.length c)) 33] w w11) := ⟨OwnS.step ht hb⟩; clear hb; clear ht)
          | fail
          | fail)
        go_roundw
        case rel => exact ⟨i + 1, by go_num, by omega, HH⟩
        case measure => simp [intOf]; omega
      · clear hn
        go_wp2_with fail
        go_roundw
        case rel => exact ⟨i + 1, by go_num, by omega, HH⟩
        case measure => simp [intOf]; omega
    · have q16 : ¬ (i : Int) < 16 := by omega
      clear hlt hi
      have fs : World.cell? _ ⟨g1, 18, none⟩ = some (.slice A xs.length c) := (blk_cell (OwnS.blk HH.out 0 rfl) 18).trans (tabC_last _ _ HV.out)
      go_wp2_with fail
      go_loopw [39] (fun v39 W => ∃ (i : Nat), v39 = .int .i64 (i : Int) ∧ i ≤ xs.length ∧ Aside0 (OwnS (fun _ => False) [Sep.blk g1 (tabC b (.slice A xs.length c)) 33] w W)) (fun v39 _ => xs.length - (intOf v39).toNat)
      case atStart => exact ⟨0, rfl, by omega, HH⟩
      case round =>
        clear HH fs
        obtain ⟨i, rfl, hi, HH⟩ := hrel
        by_cases hlt : i < xs.length
        · have hb0 := frm_below (OwnS.frm HH.out)
          obtain ⟨ga, oa, ea, _⟩ := at_OP (Kd.C_below HCC.out hb0) i hlt
          cases ea
          clear hb0
          have HPA : Aside0 (∀ j (hj : j < xs.length) W, Below w.heap.size w W → W.rangeAt ga (oa + j * 7) (opC xs[j])) := ⟨fun j hj W hb => by
            obtain ⟨g', o', e', hr'⟩ := at_OP (Kd.C_below HCC.out hb) j hj
            cases e'
            exact hr'⟩
          obtain ⟨x, hx⟩ : ∃ x, xs[i] = x := ⟨_, rfl⟩
          have hxm : x ∈ xs := by rw [← hx]; exact List.getElem_mem _
          have HPX : Aside0 (∀ W, Below w.heap.size w W → W.rangeAt ga (oa + i * 7) [.int .u8 (x.frm : Int), .int .i64 (x.seq : Int), .bool x.x.c.echoed, .bool x.x.c.readied, .bool x.x.c.done, .slice x.x.A1 x.x.c.echoes.length x.x.c1, .slice x.x.A2 x.x.c.readies.length x.x.c2]) := ⟨fun W hb => by
            have := HPA.out i hlt W hb
            rw [hx] at this
            exact this⟩
          have HOX : Aside0 (OkO b x.frm x.seq x.x.c) := ⟨HOS.out x hxm⟩
          have HRX : Aside0 (∀ W, Below w.heap.size w W → RBs W x.x) := ⟨fun W hb => RBs_below (HR.out x hxm) hb⟩
          have q0 : 0 ≤ (i : Int) := by omega
          have q1 : (i : Int) < (xs.length : Int) := by omega
          cases i with
          | zero =>
            have HPY : Aside0 (∀ W, Below w.heap.size w W → W.rangeAt ga oa [.int .u8 (x.frm : Int), .int .i64 (x.seq : Int), .bool x.x.c.echoed, .bool x.x.c.readied, .bool x.x.c.done, .slice x.x.A1 x.x.c.echoes.length x.x.c1, .slice x.x.A2 x.x.c.readies.length x.x.c2]) := ⟨fun W hb => by simpa using HPX.out W hb⟩
            clear HPX
            have HPX := HPY
            clear hx hxm HPY
            go_wp2_with (first
        | ((with_reducible refine gate_ (.load 79 (.tmp 42)) rfl ?_); refine ev_loadR (b := ga) (p0 := oa) (n := 7) (vs := [.int .u8 (x.frm : Int), .int .i64 (x.seq : Int), .bool x.x.c.echoed, .bool x.x.c.readied, .bool x.x.c.done, .slice x.x.A1 x.x.c.echoes.length x.x.c1, .slice x.x.A2 x.x.c.readies.length x.x.c2]) (HPX.out _ (frm_below (OwnS.frm HH.out))) rfl rfl (by rfl) Try.underlying79 rfl rfl (by kernel_rfl) ?_)
        | ((with_reducible refine gate_dst (N := 6) rfl ?_); refine evS_box (oh HH) rfl (cs := #[.int .u8 0, .int .i64 0, .bool false, .bool false, .bool false, .slice none 0 0, .slice none 0 0]) (T := 79) ?_ ?_; (focus first | (go_simp; done) | (go_simp; rfl)); intro g2 w21 he hh; clear he; replace HH : Aside0 (OwnS (fun _ => False) [Sep.blk g1 (tabC b (.slice (some ⟨ga, oa, none⟩) xs.length c)) 33, Sep.blk g2 #[.int .u8 0, .int .i64 0, .bool false, .bool false, .bool false, .slice none 0 0, .slice none 0 0] 79] w w21) := ⟨hh⟩; clear hh)
        | ((with_reducible refine gate_ (.store 79 (.tmp 6) (.tmp 43)) rfl ?_); refine evS_store (oh HH) 1 rfl rfl rfl rfl (by rfl) (.agg #[.int .u8 (x.frm : Int), .int .i64 (x.seq : Int), .bool x.x.c.echoed, .bool x.x.c.readied, .bool x.x.c.done, .slice x.x.A1 x.x.c.echoes.length x.x.c1, .slice x.x.A2 x.x.c.readies.length x.x.c2]) (by rfl) [.int .u8 (x.frm : Int), .int .i64 (x.seq : Int), .bool x.x.c.echoed, .bool x.x.c.readied, .bool x.x.c.done, .slice x.x.A1 x.x.c.echoes.length x.x.c1, .slice x.x.A2 x.x.c.readies.length x.x.c2] (by rfl) (by kernel_rfl) (by simp) (by simp [Value.oneCell']) ?_; intro w22 hh; replace HH : Aside0 (OwnS (fun _ => False) [Sep.blk g1 (tabC b (.slice (some ⟨ga, oa, none⟩) xs.length c)) 33, Sep.blk g2 #[.int .u8 (x.frm : Int), .int .i64 (x.seq : Int), .bool x.x.c.echoed, .bool x.x.c.readied, .bool x.x.c.done, .slice x.x.A1 x.x.c.echoes.length x.x.c1, .slice x.x.A2 x.x.c.readies.length x.x.c2] 79] w w22) := ⟨hh⟩; clear hh)
        | fail
        | fail)
            have HKV : Aside0 (∀ w' : World, OwnS (fun _ => False) [Sep.blk g1 (tabC b (.slice (some ⟨ga, oa, none⟩) xs.length c)) 33, Sep.blk g2 #[.int .u8 (x.frm : Int), .int .i64 (x.seq : Int), .bool x.x.c.echoed, .bool x.x.c.readied, .bool x.x.c.done, .slice x.x.A1 x.x.c.echoes.length x.x.c1, .slice x.x.A2 x.x.c.readies.length x.x.c2] 79] w w' → (w'.rangeAt g1 0 (tabC b (.slice (some ⟨ga, oa, none⟩) xs.length c)).toList ∧ w'.rangeAt g2 0 [.int .u8 (x.frm : Int), .int .i64 (x.seq : Int), .bool x.x.c.echoed, .bool x.x.c.readied, .bool x.x.c.done, .slice x.x.A1 x.x.c.echoes.length x.x.c1, .slice x.x.A2 x.x.c.readies.length x.x.c2])) := ⟨fun W h => ⟨(range_tab HV.out (OwnS.blk h 0 rfl)).1, range_blk (OwnS.blk h 1 rfl)⟩⟩
            refine wp_region_held_drew (S := fun w' => w'.rangeAt g1 0 (tabC b (.slice (some ⟨ga, oa, none⟩) xs.length c)).toList ∧ w'.rangeAt g2 0 [.int .u8 (x.frm : Int), .int .i64 (x.seq : Int), .bool x.x.c.echoed, .bool x.x.c.readied, .bool x.x.c.done, .slice x.x.A1 x.x.c.echoes.length x.x.c1, .slice x.x.A2 x.x.c.readies.length x.x.c2]) (by kernel_rfl) ?_ (fun hHeld => ?_)
            focus (try dsimp only); (exact HKV.out _ (oh HH))
            (try dsimp only at hHeld)
            refine tk (i := 0) (hy := yieldsIf_load_mid (by rfl) _ _ rfl _ _ rfl ((tabC b (.slice (some ⟨ga, oa, none⟩) xs.length c)).toList) _ ?_ Try.underlying33 rfl (by rw [Array.length_toList, (tabC_size _ _ HV.out)]; kernel_rfl)) (h := ?_); (focus (intro w hSw; (try dsimp only at hSw); go_split_ands; assumption)); (try simp only [Act.put, jjA, jjZ, jjS])
            refine tk (i := 1) (hy := yieldsIf_load_mid (by rfl) _ _ rfl _ _ rfl ([.int .u8 (x.frm : Int), .int .i64 (x.seq : Int), .bool x.x.c.echoed, .bool x.x.c.readied, .bool x.x.c.done, .slice x.x.A1 x.x.c.echoes.length x.x.c1, .slice x.x.A2 x.x.c.readies.length x.x.c2]) _ ?_ Try.underlying79 rfl (by kernel_rfl)) (h := ?_); (focus (intro w hSw; (try dsimp only at hSw); go_split_ands; assumption)); (try simp only [Act.put, jjA, jjZ, jjS])
            refine wpAnyH_ready (rs := [2]) (by kernel_rfl) (by simp) ?_
            refine AllReadyH.cons (by simp only [List.getElem?_toArray, List.getElem?_cons_succ, List.getElem?_cons_zero]; rfl) (fun K hK => ?_) AllReadyH.nil; go_simp; go_at_call 70; refine ownS_call (oh HH) ?_; intro ht; refine (right_calls _ b (.slice (some ⟨ga, oa, none⟩) xs.length c) x HOB.out rfl HOX.out (HRX.out _ ?_)).mono ?_; (focus exact frm_below (OwnS.frm ht)); rintro e w23 ⟨rfl, hb⟩; replace HH : Aside0 (OwnS (fun _ => False) [Sep.blk g1 (tabC b (.slice (some ⟨ga, oa, none⟩) xs.length c)) 33, Sep.blk g2 #[.int .u8 (x.frm : Int), .int .i64 (x.seq : Int), .bool x.x.c.echoed, .bool x.x.c.readied, .bool x.x.c.done, .slice x.x.A1 x.x.c.echoes.length x.x.c1, .slice x.x.A2 x.x.c.readies.length x.x.c2] 79] w w23) := ⟨OwnS.step ht hb⟩; clear hb; clear ht; refine hK.out _ _ ?_ (fun hHeld2 => ?_); (focus (try dsimp only); (exact HKV.out _ (oh HH))); clear hK K hHeld; rename _ => hHeld; (try dsimp only at hHeld); (try simp only [Act.put, jjA, jjZ, jjS])
            refine otk (i := 3) (v := .bool false) ?_; (try simp only [Act.put, jjA, jjZ, jjS])
            refine otk (i := 4) (v := .bool false) ?_; (try simp only [Act.put, jjA, jjZ, jjS])
            refine otk (i := 5) (v := .int .i64 0) ?_; (try simp only [Act.put, jjA, jjZ, jjS])
            refine otk (i := 6) (v := .bool false) ?_; (try simp only [Act.put, jjA, jjZ, jjS])
            refine otk (i := 7) (v := .bool false) ?_; (try simp only [Act.put, jjA, jjZ, jjS])
            refine tk (i := 8) (v := undef) (hy := Or.inr ⟨by rfl, rfl⟩) (h := ?_); (try simp only [Act.put, jjA, jjZ, jjS])
            refine tk (i := 9) (v := undef) (hy := Or.inr ⟨by rfl, rfl⟩) (h := ?_); (try simp only [Act.put, jjA, jjZ, jjS])
            refine tk (i := 10) (v := undef) (hy := Or.inr ⟨by rfl, rfl⟩) (h := ?_); (try simp only [Act.put, jjA, jjZ, jjS])
            refine tk (i := 11) (v := undef) (hy := Or.inr ⟨by rfl, rfl⟩) (h := ?_); (try simp only [Act.put, jjA, jjZ, jjS])
            refine tk (i := 12) (v := undef) (hy := Or.inr ⟨by rfl, rfl⟩) (h := ?_); (try simp only [Act.put, jjA, jjZ, jjS])
            refine tk (i := 13) (v := undef) (hy := Or.inr ⟨by rfl, rfl⟩) (h := ?_); (try simp only [Act.put, jjA, jjZ, jjS])
            refine tk (i := 14) (v := undef) (hy := Or.inr ⟨by rfl, rfl⟩) (h := ?_); (try simp only [Act.put, jjA, jjZ, jjS])
            refine tk (i := 15) (v := undef) (hy := Or.inr ⟨by rfl, rfl⟩) (h := ?_); (try simp only [Act.put, jjA, jjZ, jjS])
            refine tk (i := 16) (v := undef) (hy := Or.inr ⟨by rfl, rfl⟩) (h := ?_); (try simp only [Act.put, jjA, jjZ, jjS])
            refine otk (i := 17) (v := .bool false) ?_; (try simp only [Act.put, jjA, jjZ, jjS])
            refine otk (i := 18) (v := .bool false) ?_; (try simp only [Act.put, jjA, jjZ, jjS])
            refine wpAnyH_done (by kernel_rfl) ?_ _
            go_wp2_with fail
            go_roundw
            case rel => exact ⟨1, by go_num, by omega, ⟨OwnS.picks (oh HH) [0] (by decide)⟩⟩
            case measure => simp [intOf]; omega
          | succ k =>
            have q2 : ((k + 1 : Nat) : Int) = (k : Int) + 1 := by omega
            obtain ⟨p, hp⟩ : ∃ p, xs[k]'(by omega) = p := ⟨_, rfl⟩
            have HPP : Aside0 (∀ W, Below w.heap.size w W → W.rangeAt ga (oa + k * 7) [.int .u8 (p.frm : Int), .int .i64 (p.seq : Int), .bool p.x.c.echoed, .bool p.x.c.readied, .bool p.x.c.done, .slice p.x.A1 p.x.c.echoes.length p.x.c1, .slice p.x.A2 p.x.c.readies.length p.x.c2]) := ⟨fun W hb => by
              have := HPA.out k (by omega) W hb
              rw [hp] at this
              exact this⟩
            have hord : ¬ 0 ≤ ordI p.frm p.seq x.frm x.seq := by
              have h1 := HSR.out k (k + 1) (by simpa using hlt) (by omega)
              rw [List.getElem_map, List.getElem_map, hx, hp] at h1
              have := ord_lt.2 h1
              show ¬ _
              intro h2
              have h3 : ordI p.frm p.seq x.frm x.seq < 0 := this
              omega
            have hk1 : 0 ≤ (k : Int) := by omega
            have hwk : IntKind.i64.wrap (k : Int) = (k : Int) := by rw [IntKind.wrap_i64]; omega
            have hk2 : (k : Int) < (xs.length : Int) := by omega
            clear hx hxm hp
            go_wp2_with (first
        | ((with_reducible refine gate_ (.load 79 (.tmp 42)) rfl ?_); refine ev_loadR (b := ga) (p0 := oa + (k + 1) * 7) (n := 7) (vs := [.int .u8 (x.frm : Int), .int .i64 (x.seq : Int), .bool x.x.c.echoed, .bool x.x.c.readied, .bool x.x.c.done, .slice x.x.A1 x.x.c.echoes.length x.x.c1, .slice x.x.A2 x.x.c.readies.length x.x.c2]) (HPX.out _ (frm_below (OwnS.frm HH.out))) rfl rfl (by rfl) Try.underlying79 rfl rfl (by kernel_rfl) ?_)
        | ((with_reducible refine gate_dst (N := 6) rfl ?_); refine evS_box (oh HH) rfl (cs := #[.int .u8 0, .int .i64 0, .bool false, .bool false, .bool false, .slice none 0 0, .slice none 0 0]) (T := 79) ?_ ?_; (focus first | (go_simp; done) | (go_simp; rfl)); intro g2 w21 he hh; clear he; replace HH : Aside0 (OwnS (fun _ => False) [Sep.blk g1 (tabC b (.slice (some ⟨ga, oa, none⟩) xs.length c)) 33, Sep.blk g2 #[.int .u8 0, .int .i64 0, .bool false, .bool false, .bool false, .slice none 0 0, .slice none 0 0] 79] w w21) := ⟨hh⟩; clear hh)
        | ((with_reducible refine gate_ (.store 79 (.tmp 6) (.tmp 43)) rfl ?_); refine evS_store (oh HH) 1 rfl rfl rfl rfl (by rfl) (.agg #[.int .u8 (x.frm : Int), .int .i64 (x.seq : Int), .bool x.x.c.echoed, .bool x.x.c.readied, .bool x.x.c.done, .slice x.x.A1 x.x.c.echoes.length x.x.c1, .slice x.x.A2 x.x.c.readies.length x.x.c2]) (by rfl) [.int .u8 (x.frm : Int), .int .i64 (x.seq : Int), .bool x.x.c.echoed, .bool x.x.c.readied, .bool x.x.c.done, .slice x.x.A1 x.x.c.echoes.length x.x.c1, .slice x.x.A2 x.x.c.readies.length x.x.c2] (by rfl) (by kernel_rfl) (by simp) (by simp [Value.oneCell']) ?_; intro w22 hh; replace HH : Aside0 (OwnS (fun _ => False) [Sep.blk g1 (tabC b (.slice (some ⟨ga, oa, none⟩) xs.length c)) 33, Sep.blk g2 #[.int .u8 (x.frm : Int), .int .i64 (x.seq : Int), .bool x.x.c.echoed, .bool x.x.c.readied, .bool x.x.c.done, .slice x.x.A1 x.x.c.echoes.length x.x.c1, .slice x.x.A2 x.x.c.readies.length x.x.c2] 79] w w22) := ⟨hh⟩; clear hh)
        | fail
        | fail)
            have HKV : Aside0 (∀ w' : World, OwnS (fun _ => False) [Sep.blk g1 (tabC b (.slice (some ⟨ga, oa, none⟩) xs.length c)) 33, Sep.blk g2 #[.int .u8 (x.frm : Int), .int .i64 (x.seq : Int), .bool x.x.c.echoed, .bool x.x.c.readied, .bool x.x.c.done, .slice x.x.A1 x.x.c.echoes.length x.x.c1, .slice x.x.A2 x.x.c.readies.length x.x.c2] 79] w w' → (w'.rangeAt g1 0 (tabC b (.slice (some ⟨ga, oa, none⟩) xs.length c)).toList ∧ w'.rangeAt g2 0 [.int .u8 (x.frm : Int), .int .i64 (x.seq : Int), .bool x.x.c.echoed, .bool x.x.c.readied, .bool x.x.c.done, .slice x.x.A1 x.x.c.echoes.length x.x.c1, .slice x.x.A2 x.x.c.readies.length x.x.c2] ∧ w'.cell? ⟨g1, 18, none⟩ = some (.slice (some ⟨ga, oa, none⟩) xs.length c) ∧ w'.rangeAt ga (oa + k * 7) [.int .u8 (p.frm : Int), .int .i64 (p.seq : Int), .bool p.x.c.echoed, .bool p.x.c.readied, .bool p.x.c.done, .slice p.x.A1 p.x.c.echoes.length p.x.c1, .slice p.x.A2 p.x.c.readies.length p.x.c2])) := ⟨fun W h => ⟨(range_tab HV.out (OwnS.blk h 0 rfl)).1, range_blk (OwnS.blk h 1 rfl), (blk_cell (OwnS.blk h 0 rfl) 18).trans (tabC_last _ _ HV.out), HPP.out _ (frm_below (OwnS.frm h))⟩⟩
            refine wp_region_held_drew (S := fun w' => w'.rangeAt g1 0 (tabC b (.slice (some ⟨ga, oa, none⟩) xs.length c)).toList ∧ w'.rangeAt g2 0 [.int .u8 (x.frm : Int), .int .i64 (x.seq : Int), .bool x.x.c.echoed, .bool x.x.c.readied, .bool x.x.c.done, .slice x.x.A1 x.x.c.echoes.length x.x.c1, .slice x.x.A2 x.x.c.readies.length x.x.c2] ∧ w'.cell? ⟨g1, 18, none⟩ = some (.slice (some ⟨ga, oa, none⟩) xs.length c) ∧ w'.rangeAt ga (oa + k * 7) [.int .u8 (p.frm : Int), .int .i64 (p.seq : Int), .bool p.x.c.echoed, .bool p.x.c.readied, .bool p.x.c.done, .slice p.x.A1 p.x.c.echoes.length p.x.c1, .slice p.x.A2 p.x.c.readies.length p.x.c2]) (by kernel_rfl) ?_ (fun hHeld => ?_)
            focus (try dsimp only); (exact HKV.out _ (oh HH))
            (try dsimp only at hHeld)
            refine tk (i := 0) (hy := yieldsIf_load_mid (by rfl) _ _ rfl _ _ rfl ((tabC b (.slice (some ⟨ga, oa, none⟩) xs.length c)).toList) _ ?_ Try.underlying33 rfl (by rw [Array.length_toList, (tabC_size _ _ HV.out)]; kernel_rfl)) (h := ?_); (focus (intro w hSw; (try dsimp only at hSw); go_split_ands; assumption)); (try simp only [Act.put, jjA, jjZ, jjS])
            refine tk (i := 1) (hy := yieldsIf_load_mid (by rfl) _ _ rfl _ _ rfl ([.int .u8 (x.frm : Int), .int .i64 (x.seq : Int), .bool x.x.c.echoed, .bool x.x.c.readied, .bool x.x.c.done, .slice x.x.A1 x.x.c.echoes.length x.x.c1, .slice x.x.A2 x.x.c.readies.length x.x.c2]) _ ?_ Try.underlying79 rfl (by kernel_rfl)) (h := ?_); (focus (intro w hSw; (try dsimp only at hSw); go_split_ands; assumption)); (try simp only [Act.put, jjA, jjZ, jjS])
            refine wpAnyH_ready (rs := [2]) (by kernel_rfl) (by simp) ?_
            refine AllReadyH.cons (by simp only [List.getElem?_toArray, List.getElem?_cons_succ, List.getElem?_cons_zero]; rfl) (fun K hK => ?_) AllReadyH.nil; go_simp; go_at_call 70; refine ownS_call (oh HH) ?_; intro ht; refine (right_calls _ b (.slice (some ⟨ga, oa, none⟩) xs.length c) x HOB.out rfl HOX.out (HRX.out _ ?_)).mono ?_; (focus exact frm_below (OwnS.frm ht)); rintro e w23 ⟨rfl, hb⟩; replace HH : Aside0 (OwnS (fun _ => False) [Sep.blk g1 (tabC b (.slice (some ⟨ga, oa, none⟩) xs.length c)) 33, Sep.blk g2 #[.int .u8 (x.frm : Int), .int .i64 (x.seq : Int), .bool x.x.c.echoed, .bool x.x.c.readied, .bool x.x.c.done, .slice x.x.A1 x.x.c.echoes.length x.x.c1, .slice x.x.A2 x.x.c.readies.length x.x.c2] 79] w w23) := ⟨OwnS.step ht hb⟩; clear hb; clear ht; refine hK.out _ _ ?_ (fun hHeld2 => ?_); (focus (try dsimp only); (exact HKV.out _ (oh HH))); clear hK K hHeld; rename _ => hHeld; (try dsimp only at hHeld); (try simp only [Act.put, jjA, jjZ, jjS])
            refine otk (i := 3) (v := .bool false) ?_; (try simp only [Act.put, jjA, jjZ, jjS])
            refine otk (i := 4) (v := .bool false) ?_; (try simp only [Act.put, jjA, jjZ, jjS])
            refine otk (i := 5) (v := .int .i64 ((k : Int) + 1)) ?_; (try simp only [Act.put, jjA, jjZ, jjS])
            refine otk (i := 6) (v := .bool true) ?_; (try simp only [Act.put, jjA, jjZ, jjS])
            refine otk (i := 7) (v := .bool true) ?_; (try simp only [Act.put, jjA, jjZ, jjS])
            refine otk (i := 8) ?_; (try simp only [Act.put, jjA, jjZ, jjS])
            refine otk (i := 9) (v := .slice (some ⟨ga, oa, none⟩) xs.length c) ?_; (try simp only [Act.put, jjA, jjZ, jjS])
            refine otk (i := 10) (v := .int .i64 ((k : Int) + 1)) ?_; (try simp only [Act.put, jjA, jjZ, jjS])
            refine otk (i := 11) (v := .int .i64 (k : Int)) ?_; (try simp only [Act.put, jjA, jjZ, jjS])
            refine otk (i := 12) (v := .pointer (some ⟨ga, oa + k * 7, none⟩)) ?_; (try simp only [Act.put, jjA, jjZ, jjS])
            refine tk (i := 13) (hy := yieldsIf_load_mid (by rfl) _ _ rfl _ _ rfl ([.int .u8 (p.frm : Int), .int .i64 (p.seq : Int), .bool p.x.c.echoed, .bool p.x.c.readied, .bool p.x.c.done, .slice p.x.A1 p.x.c.echoes.length p.x.c1, .slice p.x.A2 p.x.c.readies.length p.x.c2]) _ ?_ Try.underlying79 rfl (by kernel_rfl)) (h := ?_); (focus (intro w hSw; (try dsimp only at hSw); go_split_ands; assumption)); (try simp only [Act.put, jjA, jjZ, jjS])
            refine tk (i := 14) (hy := yieldsIf_load_mid (by rfl) _ _ rfl _ _ rfl ([.int .u8 (x.frm : Int), .int .i64 (x.seq : Int), .bool x.x.c.echoed, .bool x.x.c.readied, .bool x.x.c.done, .slice x.x.A1 x.x.c.echoes.length x.x.c1, .slice x.x.A2 x.x.c.readies.length x.x.c2]) _ ?_ Try.underlying79 rfl (by kernel_rfl)) (h := ?_); (focus (intro w hSw; (try dsimp only at hSw); go_split_ands; assumption)); (try simp only [Act.put, jjA, jjZ, jjS])
            refine wpAnyH_ready (rs := [15]) (by kernel_rfl) (by simp) ?_
            refine AllReadyH.cons (by simp only [List.getElem?_toArray, List.getElem?_cons_succ, List.getElem?_cons_zero]; rfl) (fun K hK => ?_) AllReadyH.nil; go_simp; go_at_call 20; refine ownS_call (oh HH) ?_; intro ht; refine (order_calls _ p x).mono ?_; rintro e w24 ⟨rfl, hb⟩; replace HH : Aside0 (OwnS (fun _ => False) [Sep.blk g1 (tabC b (.slice (some ⟨ga, oa, none⟩) xs.length c)) 33, Sep.blk g2 #[.int .u8 (x.frm : Int), .int .i64 (x.seq : Int), .bool x.x.c.echoed, .bool x.x.c.readied, .bool x.x.c.done, .slice x.x.A1 x.x.c.echoes.length x.x.c1, .slice x.x.A2 x.x.c.readies.length x.x.c2] 79] w w24) := ⟨OwnS.step ht hb⟩; clear hb; clear ht; refine hK.out _ _ ?_ (fun hHeld2 => ?_); (focus (try dsimp only); (exact HKV.out _ (oh HH))); clear hK K hHeld; rename _ => hHeld; (try dsimp only at hHeld); (try simp only [Act.put, jjA, jjZ, jjS])
            refine otk (i := 16) (v := .bool false) ?_; (try simp only [Act.put, jjA, jjZ, jjS])
            refine otk (i := 17) (v := .bool false) ?_; (try simp only [Act.put, jjA, jjZ, jjS])
            refine otk (i := 18) (v := .bool false) ?_; (try simp only [Act.put, jjA, jjZ, jjS])
            refine wpAnyH_done (by kernel_rfl) ?_ _
            go_wp2_with fail
            go_roundw
            case rel => exact ⟨k + 2, by go_num, by omega, ⟨OwnS.picks (oh HH) [0] (by decide)⟩⟩
            case measure => simp [intOf]; omega
        · go_wp2_with fail
          go_ret
          exact ⟨rfl, frm_below (OwnS.frm (oh HH))⟩
end Go.Proofs.Ytbaknecnkipooaa.Tld
