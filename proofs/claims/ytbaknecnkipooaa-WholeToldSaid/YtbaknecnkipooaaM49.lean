/- History. -/
import Derived.Test.YtbaknecnkipooaaM47
import Derived.Test.YtbaknecnkipooaaM48
namespace Go.Proofs.Ytbaknecnkipooaa.Hld
open Go Go.RowKit Go.Proofs.YtbaknecnkipooaaW.PrintWords Go.Proofs.Ytbaknecnkipooaa.Sep Go.Proofs.Ytbaknecnkipooaa.Obj
set_option linter.unusedVariables false
set_option linter.unusedSimpArgs false
def mkS (m : Nat) (s : Int) (v : List Int) (r : Nat) : It := ⟨(m : Int), s, 1, v, runeB r⟩
theorem build_bodR (v : List Int) (h : v.length = 16) (t : ByteArray) (w : World) : (Instr.build 38 #[(0, .int .i64 1), (1, .agg (vecC v)), (2, .string t)]).run Try.prog w = .ok (.agg (bodC 1 v t)) w := by
  obtain ⟨a0, a1, a2, a3, a4, a5, a6, a7, a8, a9, a10, a11, a12, a13, a14, a15, rfl⟩ := list16 v h
  kernel_rfl
theorem range_kn {Kw : List Int} (hK : Kw.length = 64) {m : Nat} (hm : m < 4) {w : World} {g : Nat} {T : TypeId} (h : w.heap[g]? = some (.cells (knC Kw) T (0, 0))) : w.rangeAt g (m * 16) (nums .u16 (hisK Kw m)) := by
  have := World.rangeAt_of_block h (m * 16) 16
  rw [knC_vec hK hm] at this
  simpa [vecC] using this
set_option maxHeartbeats 1000000 in
set_option maxRecDepth 100000 in
theorem his_calls (w : World) (A : Option Addr) (c : Nat) (l : List (Int × Int)) (hr : kSe.C w A l.length l) (hl : ∀ x ∈ l, WI .u8 x.1 ∧ WI .u8 x.2) : Calls Try.prog 5 #[.slice A l.length c] w (fun e w' => ∃ A' c' Kw H, e = .returned (.slice A' H.length c') ∧ Own [Sep.row kIt 40 (.slice A' H.length c') H] w w' ∧ HisI Kw H ∧ H.length ≤ 40) := by
  have hlm : l.length ≤ 9223372036854775807 := hr.2.1
  have HR := Aside0.mk hr
  have HL := Aside0.mk hl
  have HH : Aside0 (OwnS (fun _ => False) [] w w) := ⟨OwnS.of_own (Own.start w)⟩
  clear hr hl
  go_enter Try.func5, Try.ntmps5
  go_wp2_with (first
    | ((with_reducible refine gate_dst (N := 4) rfl ?_); refine evS_box (oh HH) rfl (cs := knC (List.replicate 64 (0 : Int))) (T := 65) ?_ ?_; (focus first | (go_simp; done) | (go_simp; rfl)); intro g1 w1 he hh; clear he; replace HH : Aside0 (OwnS (fun _ => False) [Sep.blk g1 (knC (List.replicate 64 (0 : Int))) 65] w w1) := ⟨hh⟩; clear hh)
    | fail
    | fail)
  go_loopw [3, 5] (fun v3 vi W => ∃ (i : Nat) (Kw : List Int) (out : List It) (B : Option Addr) (d : Nat), v3 = .slice B i d ∧ vi = .int .i64 (i : Int) ∧ i ≤ 40 ∧ i ≤ l.length ∧ Aside0 (out.length = i) ∧ Aside0 (HisI Kw out) ∧ Aside0 (OwnS (fun _ => False) [Sep.blk g1 (knC Kw) 65, Sep.row kIt 40 (.slice B i d) out] w W)) (fun _ vi _ => l.length - (intOf vi).toNat)
  case atStart => exact ⟨0, _, [], none, 0, rfl, rfl, by omega, by omega, ⟨rfl⟩, ⟨HisI.start⟩, ⟨OwnS.joinL HH.out (Bs := [Sep.row kIt 40 (.slice none 0 0) []]) (Own.nil (Own.start _))⟩⟩
  case round =>
    clear HH
    obtain ⟨i, Kw, out, B, d, rfl, rfl, hi, hil, HLEN, HI, HH⟩ := hrel
    by_cases hlt : i < l.length
    · by_cases h40 : i < 40
      · obtain ⟨g0, o0, ea, f0, f1⟩ := at_Se (Kd.C_below HR.out (below_frm (OwnS.frm HH.out))) i hlt
        subst ea
        obtain ⟨s1, hs1⟩ : ∃ s, l[i].1 = s := ⟨_, rfl⟩
        obtain ⟨s2, hs2⟩ : ∃ s, l[i].2 = s := ⟨_, rfl⟩
        obtain ⟨w1, w2⟩ := HL.out l[i] (List.getElem_mem hlt)
        rw [hs1] at f0 w1
        rw [hs2] at f1 w2
        obtain ⟨s10, s11⟩ := Go.Proofs.Ytbaknecnkipooaa.Opn.wf_u8 w1
        obtain ⟨s20, s21⟩ := Go.Proofs.Ytbaknecnkipooaa.Opn.wf_u8 w2
        obtain ⟨m, hm⟩ : ∃ m : Nat, s1 % 4 = (m : Int) := ⟨(s1 % 4).toNat, by omega⟩
        have HM4 : Aside0 (m < 4) := ⟨by omega⟩
        obtain ⟨r, hrn⟩ : ∃ r : Nat, i % 26 = r := ⟨_, rfl⟩
        have hr : (i : Int) % 26 = (r : Int) := by omega
        have hrt : Int.tmod (i : Int) 26 = (r : Int) := by rw [Int.tmod_eq_emod_of_nonneg (by omega)]; exact hr
        have HR26 : Aside0 (r < 26) := ⟨by omega⟩
        have HMM : Aside0 (m * 16 + m < 64) := ⟨by have := HM4.out; omega⟩
        have HFM : Aside0 (m * 16 + m + 1 ≤ 64) := ⟨by have := HM4.out; omega⟩
        have HFM2 : Aside0 (m * 16 + 16 ≤ 64) := ⟨by have := HM4.out; omega⟩
        have q0 : 0 ≤ (i : Int) := by omega
        have q1 : (i : Int) < (l.length : Int) := by omega
        have q2 : (i : Int) < 40 := by omega
        have m0 : 0 ≤ (m : Int) := by omega
        have m1 : (m : Int) < 4 := by omega
        have m2 : (m : Int) < 16 := by omega
        have r0 : 0 ≤ (r : Int) := by omega
        have r1 : (r : Int) < 26 := by omega
        have hwa : IntKind.i64.wrap (97 + (r : Int)) = 97 + (r : Int) := by rw [IntKind.wrap_i64]; omega
        have hwb : IntKind.i32.wrap (97 + (r : Int)) = 97 + (r : Int) := by rw [IntKind.wrap_i32]; omega
        clear w1 w2 hs1 hs2
        by_cases hi0 : i = 0
        · have hd : decide (0 < i) = false := decide_eq_false (by omega)
          clear hi0
          obtain ⟨s, hs⟩ : ∃ s, Kw.getD (m * 16 + m) 0 = s := ⟨_, rfl⟩
          have HS := Aside0.mk hs
          have hsc := HI.out.self m HM4.out
          rw [hs] at hsc
          have hs1 := cnt_le out out.length m
          have hs0 := cnt_nonneg out out.length m
          rw [← hsc] at hs0 hs1
          rw [HLEN.out] at hs1
          have hw1 := wrap_u16 (n := s) (by omega) (by omega)
          have hw2 : IntKind.u16.wrap (s + 1) = s + 1 := by rw [IntKind.wrap_u16]; omega
          have HSAY : Aside0 (HisI (Kw.set (m * 16 + m) (s + 1)) (out ++ [(mkS m s (hisK Kw m) r)])) := ⟨by have := HI.out.say (by rw [HLEN.out]; omega) HM4.out (runeB_size r); rw [hs] at this; unfold mkS; exact this⟩
          have HOX9 : Aside0 (okI (mkS m s (hisK Kw m) r)) := ⟨HSAY.out.caus.ok _ (List.mem_append_right _ (List.mem_singleton.2 rfl))⟩
          have HK2 : Aside0 ((Kw.set (m * 16 + m) (s + 1)).length = 64) := ⟨HSAY.out.len⟩
          have hs2 : s ≤ 40 := by omega
          clear hs hsc hs1
          go_upto_region 12 with fail
          have HKV : Aside0 (∀ w' : World, OwnS (fun _ => False) [Sep.blk g1 (knC Kw) 65, Sep.row kIt 40 (.slice B i d) out] w w' → (w'.cell? ⟨g1, m * 16 + m, none⟩ = some (.int .u16 s) ∧ w'.rangeAt g1 (m * 16) (nums .u16 (hisK Kw m)))) := ⟨fun W h => ⟨(by rw [← HS.out]; exact (blk_cell (OwnS.blk h 0 rfl) (m * 16 + m)).trans (knC_at (by rw [HI.out.len]; exact HMM.out))), range_kn HI.out.len HM4.out (OwnS.blk h 0 rfl)⟩⟩
          refine wp_region_held_drew (S := fun w' => w'.cell? ⟨g1, m * 16 + m, none⟩ = some (.int .u16 s) ∧ w'.rangeAt g1 (m * 16) (nums .u16 (hisK Kw m))) (by kernel_rfl) ?_ (fun hHeld => ?_)
          focus (try dsimp only); (exact HKV.out _ (oh HH))
          (try dsimp only at hHeld)
          refine otk (i := 0) (v := .int .u8 (m : Int)) ?_; (try simp only [Act.put, jjA, jjZ, jjS])
          refine otk (i := 1) (v := .int .u8 (m : Int)) ?_; (try simp only [Act.put, jjA, jjZ, jjS])
          refine otk (i := 2) (v := .int .u8 (m : Int)) ?_; (try simp only [Act.put, jjA, jjZ, jjS])
          refine otk (i := 3) ?_; (try simp only [Act.put, jjA, jjZ, jjS])
          refine otk (i := 4) ?_; (try simp only [Act.put, jjA, jjZ, jjS])
          refine otk (i := 5) (v := .int .u16 s) ?_; (try simp only [Act.put, jjA, jjZ, jjS])
          refine otk (i := 6) (v := .int .i64 s) ?_; (try simp only [Act.put, jjA, jjZ, jjS])
          refine otk (i := 7) (v := .int .u8 (m : Int)) ?_; (try simp only [Act.put, jjA, jjZ, jjS])
          refine otk (i := 8) ?_; (try simp only [Act.put, jjA, jjZ, jjS])
          refine tk (i := 9) (hy := yieldsIf_load_mid (by rfl) _ _ rfl _ _ rfl (nums .u16 (hisK Kw m)) _ ?_ Try.underlying30 rfl (infoV (HI.out.vec HM4.out).1)) (h := ?_); (focus (intro w hSw; (try dsimp only at hSw); go_split_ands; assumption)); (try simp only [Act.put, jjA, jjZ, jjS])
          refine otk (i := 10) (v := .int .i64 (i : Int)) ?_; (try simp only [Act.put, jjA, jjZ, jjS])
          refine otk (i := 11) (v := .int .i64 (r : Int)) ?_; (try simp only [Act.put, jjA, jjZ, jjS])
          refine otk (i := 12) (v := .int .i64 (97 + (r : Int))) ?_; (try simp only [Act.put, jjA, jjZ, jjS])
          refine otk (i := 13) (v := .int .i32 (97 + (r : Int))) ?_; (try simp only [Act.put, jjA, jjZ, jjS])
          refine tk (i := 14) (v := .string (runeB r)) (hy := (Or.inl ⟨by rfl, fun w _ => rune_run rfl r HR26.out rfl w⟩)) (h := ?_); (try simp only [Act.put, jjA, jjZ, jjS])
          refine tk (i := 15) (v := ?_) (hy := (Or.inl ⟨by rfl, fun w _ => build_take rfl (by simp only [List.map_toArray, List.map_cons, List.map_nil]; exact build_bodR _ (HI.out.vec HM4.out).1 _ _)⟩)) (h := ?_); (try simp only [Act.put, jjA, jjZ, jjS])
          refine tk (i := 16) (v := ?_) (hy := (Or.inl ⟨by rfl, fun w _ => build_take rfl (by simp only [List.map_toArray, List.map_cons, List.map_nil]; exact buildR_it (mkS m s (hisK Kw m) r) (HI.out.vec HM4.out).1 _)⟩)) (h := ?_); (try simp only [Act.put, jjA, jjZ, jjS])
          refine wpAnyH_ready (rs := [17]) (by kernel_rfl) (by simp) ?_
          refine AllReadyH.cons (by simp only [List.getElem?_toArray, List.getElem?_cons_succ, List.getElem?_cons_zero]; rfl) (fun K hK => ?_) AllReadyH.nil; refine evS_box_step (oh HH) (by rfl) (cs := itC zI) (T := 40) ?_ ?_; (focus first | (go_simp; done) | (go_simp; rfl)); intro g2 w41 he hh; clear he; replace HH : Aside0 (OwnS (fun _ => False) [Sep.blk g1 (knC Kw) 65, Sep.row kIt 40 (.slice B i d) out, Sep.blk g2 (itC zI) 40] w w41) := ⟨hh⟩; clear hh; clear HKV; have HKV : Aside0 (∀ w' : World, OwnS (fun _ => False) [Sep.blk g1 (knC Kw) 65, Sep.row kIt 40 (.slice B i d) out, Sep.blk g2 (itC zI) 40] w w' → (w'.cell? ⟨g1, m * 16 + m, none⟩ = some (.int .u16 s) ∧ w'.rangeAt g1 (m * 16) (nums .u16 (hisK Kw m)))) := ⟨fun W h => ⟨(by rw [← HS.out]; exact (blk_cell (OwnS.blk h 0 rfl) (m * 16 + m)).trans (knC_at (by rw [HI.out.len]; exact HMM.out))), range_kn HI.out.len HM4.out (OwnS.blk h 0 rfl)⟩⟩; refine hK.out _ _ ?_ (fun hHeld2 => ?_); (focus (try dsimp only); (exact HKV.out _ (oh HH))); clear hK K hHeld; rename _ => hHeld; (try dsimp only at hHeld); (try simp only [Act.put, jjA, jjZ, jjS])
          refine wpAnyH_ready (rs := [18]) (by kernel_rfl) (by simp) ?_
          refine AllReadyH.cons (by simp only [List.getElem?_toArray, List.getElem?_cons_succ, List.getElem?_cons_zero]; rfl) (fun K hK => ?_) AllReadyH.nil; refine evS_storeA_step (oh HH) 2 (by rfl) rfl rfl rfl (by rfl) (.agg (itC (mkS m s (hisK Kw m) r))) (by rfl) (itC (mkS m s (hisK Kw m) r)) (by rfl) 20 20 (itC_size _ (HI.out.vec HM4.out).1) (itC_size _ zI_len) (by kernel_rfl) (by decide) (itC_one _) (itC (mkS m s (hisK Kw m) r)) (put_all _ _ (by rw [(itC_size _ (HI.out.vec HM4.out).1), (itC_size _ zI_len)])) ?_; intro w42 hh; replace HH : Aside0 (OwnS (fun _ => False) [Sep.blk g1 (knC Kw) 65, Sep.row kIt 40 (.slice B i d) out, Sep.blk g2 (itC (mkS m s (hisK Kw m) r)) 40] w w42) := ⟨hh⟩; clear hh; clear HKV; have HKV : Aside0 (∀ w' : World, OwnS (fun _ => False) [Sep.blk g1 (knC Kw) 65, Sep.row kIt 40 (.slice B i d) out, Sep.blk g2 (itC (mkS m s (hisK Kw m) r)) 40] w w' → (w'.cell? ⟨g1, m * 16 + m, none⟩ = some (.int .u16 s) ∧ w'.rangeAt g1 (m * 16) (nums .u16 (hisK Kw m)))) := ⟨fun W h => ⟨(by rw [← HS.out]; exact (blk_cell (OwnS.blk h 0 rfl) (m * 16 + m)).trans (knC_at (by rw [HI.out.len]; exact HMM.out))), range_kn HI.out.len HM4.out (OwnS.blk h 0 rfl)⟩⟩; refine hK.out _ _ ?_ (fun hHeld2 => ?_); (focus (try dsimp only); (exact HKV.out _ (oh HH))); clear hK K hHeld; rename _ => hHeld; (try dsimp only at hHeld); (try simp only [Act.put, jjA, jjZ, jjS])
          refine wpAnyH_done (by kernel_rfl) ?_ _
          go_upto_region 14 with (first
          | ((with_reducible refine gate_ (.load 40 (.tmp 9)) rfl ?_); refine ev_loadA (OwnS.blk (oh HH) 2 rfl) 0 20 (itC (mkS m s (hisK Kw m) r)) (all_of _ 20 (itC_size _ (HI.out.vec HM4.out).1)) rfl rfl (by rfl) Try.underlying40 rfl (itC_size _ (HI.out.vec HM4.out).1) (by kernel_rfl) ?_)
          | ((with_reducible refine gate_dst (N := 76) rfl ?_); refine litR1 rfl (mkS m s (hisK Kw m) r) (HI.out.vec HM4.out).1 rfl rfl ?_)
          | (at_builtin; refine evS_appendR kIt (oh HH) 1 rfl (.tmp 74) (.tmp 76) 25 40 (.agg (itC zI)) 72 rfl Try.underlying25 infoR rfl (by first | decide | exact Nat.succ_pos _) (by decide) (.slice B i d) out (mkS m s (hisK Kw m) r) (itL (mkS m s (hisK Kw m) r)) rfl rfl ?_ ?_ ?_ ?_; (focus first | rfl | (simp [Act.eval]; done)); (focus exact fun _ => kIt_M HOX9.out); (focus rw [HLEN.out]; omega); intro A9 c9 w61 hh; replace HH : Aside0 (OwnS (fun _ => False) [Sep.blk g1 (knC Kw) 65, Sep.row kIt 40 (.slice A9 (out.length + 1) c9) (out ++ [(mkS m s (hisK Kw m) r)]), Sep.blk g2 (itC (mkS m s (hisK Kw m) r)) 40] w w61) := ⟨hh⟩; clear hh)
          | fail
          | fail)
          have HCS : Aside0 (∀ W, OwnS (fun _ => False) [Sep.blk g1 (knC Kw) 65, Sep.row kIt 40 (.slice A9 (out.length + 1) c9) (out ++ [(mkS m s (hisK Kw m) r)]), Sep.blk g2 (itC (mkS m s (hisK Kw m) r)) 40] w W → W.cell? ⟨g1, m * 16 + m, none⟩ = some (.int .u16 s)) := ⟨fun W h => by rw [← HS.out]; exact (blk_cell (OwnS.blk h 0 rfl) (m * 16 + m)).trans (knC_at (by rw [HI.out.len]; exact HMM.out))⟩
          have HKV : Aside0 (∀ w' : World, OwnS (fun _ => False) [Sep.blk g1 (knC Kw) 65, Sep.row kIt 40 (.slice A9 (out.length + 1) c9) (out ++ [(mkS m s (hisK Kw m) r)]), Sep.blk g2 (itC (mkS m s (hisK Kw m) r)) 40] w w' → (True)) := ⟨fun W h => trivial⟩
          refine wp_region_held_drew (S := fun w' => True) (by kernel_rfl) ?_ (fun hHeld => ?_)
          focus trivial
          (try dsimp only at hHeld)
          refine otk (i := 0) (v := .int .u8 (m : Int)) ?_; (try simp only [Act.put, jjA, jjZ, jjS])
          refine otk (i := 1) (v := .int .u8 (m : Int)) ?_; (try simp only [Act.put, jjA, jjZ, jjS])
          refine otk (i := 2) ?_; (try simp only [Act.put, jjA, jjZ, jjS])
          refine otk (i := 3) ?_; (try simp only [Act.put, jjA, jjZ, jjS])
          refine otk (i := 6) ?_; (try simp only [Act.put, jjA, jjZ, jjS])
          refine wpAnyH_ready (rs := [4]) (by kernel_rfl) (by simp) ?_
          refine AllReadyH.cons (by simp only [List.getElem?_toArray, List.getElem?_cons_succ, List.getElem?_cons_zero]; rfl) (fun K hK => ?_) AllReadyH.nil; refine ev_cell_step (v := .int .u16 s) (HCS.out _ ?_) (by rfl) rfl (by rfl) Try.underlying27 rfl ?_; (focus first | with_reducible exact HH.out | ((with_reducible repeat first | refine OwnS.alloc ?_ _ | refine OwnS.drewN ?_ _ | refine OwnS.drew ?_); with_reducible exact HH.out)); refine hK.out _ _ ?_ (fun hHeld2 => ?_); (focus trivial); clear hK K hHeld; rename _ => hHeld; (try dsimp only at hHeld); (try simp only [Act.put, jjA, jjZ, jjS])
          refine otk (i := 5) (v := .int .u16 (s + 1)) ?_; (try simp only [Act.put, jjA, jjZ, jjS])
          refine otk (i := 7) ?_; (try simp only [Act.put, jjA, jjZ, jjS])
          refine wpAnyH_ready (rs := [8]) (by kernel_rfl) (by simp) ?_
          refine AllReadyH.cons (by simp only [List.getElem?_toArray, List.getElem?_cons_succ, List.getElem?_cons_zero]; rfl) (fun K hK => ?_) AllReadyH.nil; refine evS_storeA_step (oh HH) 0 (by rfl) rfl rfl rfl (by rfl) (.int .u16 (s + 1)) (by rfl) (#[.int .u16 (s + 1)]) (by rfl) 1 64 rfl (knC_size HI.out.len) (by kernel_rfl) HFM.out (by simp [Value.oneCell']) (knC (Kw.set (m * 16 + m) (s + 1))) (knC_set (by rw [HI.out.len]; exact HMM.out) _) ?_; intro w81 hh; replace HH : Aside0 (OwnS (fun _ => False) [Sep.blk g1 (knC (Kw.set (m * 16 + m) (s + 1))) 65, Sep.row kIt 40 (.slice A9 (out.length + 1) c9) (out ++ [(mkS m s (hisK Kw m) r)]), Sep.blk g2 (itC (mkS m s (hisK Kw m) r)) 40] w w81) := ⟨hh⟩; clear hh; clear HKV; have HKV : Aside0 (∀ w' : World, OwnS (fun _ => False) [Sep.blk g1 (knC (Kw.set (m * 16 + m) (s + 1))) 65, Sep.row kIt 40 (.slice A9 (out.length + 1) c9) (out ++ [(mkS m s (hisK Kw m) r)]), Sep.blk g2 (itC (mkS m s (hisK Kw m) r)) 40] w w' → (True)) := ⟨fun W h => trivial⟩; refine hK.out _ _ ?_ (fun hHeld2 => ?_); (focus trivial); clear hK K hHeld; rename _ => hHeld; (try dsimp only at hHeld); (try simp only [Act.put, jjA, jjZ, jjS])
          refine wpAnyH_done (by kernel_rfl) ?_ _
          go_wp2_with fail
          go_roundw
          case rel =>
            have h8 := OwnS.picks HH.out [0, 1] (by decide)
            rw [HLEN.out] at h8
            exact ⟨i + 1, _, out ++ [(mkS m s (hisK Kw m) r)], A9, c9, by first | rfl | rw [HLEN.out], by go_num, by omega, by omega, ⟨by rw [List.length_append, HLEN.out]; rfl⟩, HSAY, ⟨h8⟩⟩
          case measure => simp [intOf]; omega
        · have hd : decide (0 < i) = true := decide_eq_true (by omega)
          have hi1 : 0 < (i : Int) := by omega
          have hine : ¬ ((i : Int) = 0) := by omega
          obtain ⟨q, hqm⟩ : ∃ q : Nat, s2 % (i : Int) = (q : Int) := ⟨(s2 % (i : Int)).toNat, by have := Int.emod_nonneg s2 hine; omega⟩
          have hqlt : (q : Int) < (i : Int) := by rw [← hqm]; exact Int.emod_lt_of_pos s2 hi1
          have hqt : Int.tmod s2 (i : Int) = (q : Int) := by rw [Int.tmod_eq_emod_of_nonneg s20]; exact hqm
          have hqn : 0 ≤ (q : Int) := by omega
          have hq : q < out.length := by have := HLEN.out; omega
          have hrr := OwnS.row HH.out 1 rfl
          obtain ⟨gb, ob, ea, hox, _⟩ := at_It (OwnS.C HH.out 1 rfl) q hq
          subst ea
          obtain ⟨x, hx⟩ : ∃ x, out[q] = x := ⟨_, rfl⟩
          rw [hx] at hox
          have HOX := Aside0.mk hox
          have HXM : Aside0 (x ∈ out) := ⟨hx ▸ List.getElem_mem hq⟩
          have HROW : Aside0 (∀ W, OwnS (fun _ => False) [Sep.blk g1 (knC Kw) 65, Sep.row kIt 40 (.slice (some ⟨gb, ob, none⟩) i d) out] w W → W.rangeAt gb (ob + q * 20) (itC x).toList) := ⟨fun W h => by
          obtain ⟨g', o', ea', _, hr'⟩ := at_It (OwnS.C h 1 rfl) q hq
          cases ea'
          rw [hx] at hr'
          exact hr'⟩
          obtain ⟨hiv, hil2, hps, hpf⟩ := past_inc HI.out.caus HXM.out
          have HIX := Aside0.mk hiv
          obtain ⟨f, hfx⟩ : ∃ f, x.frm = f := ⟨_, rfl⟩
          obtain ⟨n, hn⟩ : ∃ n, x.past.getD x.frm.toNat 0 = n := ⟨_, rfl⟩
          have hf0 : 0 ≤ x.frm := HOX.out.2.1.1
          have hn2 := okV_at HOX.out.1 x.frm.toNat hpf
          have hn3 : n ≤ 1000 := by
            have h9 := hil2 x.frm.toNat hpf
            rw [inc_at HOX.out.1.1 hpf, if_pos rfl, hn] at h9
            have := cnt_le out out.length x.frm.toNat
            have := HLEN.out
            omega
          have HPS : Aside0 ((putL (vecC x.past).toList f.toNat (#[Value.int .u16 (n + 1)]).toList).toArray = vecC (inc x.past x)) := ⟨by unfold inc ofT; rw [hn, hfx]; exact vecC_put _ _ _ HOX.out.1.1 (hfx ▸ hpf)⟩
          have HNC : Aside0 ((vecC x.past)[f.toNat]? = some (.int .u16 n)) := ⟨by rw [← hn, hfx]; exact vecC_at _ _ (by rw [HOX.out.1.1]; exact hfx ▸ hpf)⟩
          have HFC : Aside0 ((itC x)[0]? = some (.int .u8 f)) := ⟨by rw [← hfx]; rfl⟩
          rw [hfx] at hf0 hpf
          have HFS : Aside0 (f.toNat + 1 ≤ 16) := ⟨by omega⟩
          have hf16 : f < 16 := by omega
          rw [hn] at hn2
          obtain ⟨hn0, hn1⟩ := hn2
          have hwn : IntKind.u16.wrap (n + 1) = n + 1 := by rw [IntKind.wrap_u16]; omega
          obtain ⟨K1, hK1⟩ : ∃ K1, putK Kw m (joinL (hisK Kw m) (inc x.past x)) = K1 := ⟨_, rfl⟩
          have HI1 : Aside0 (HisI K1 out) := ⟨hK1 ▸ HI.out.hear HM4.out HXM.out⟩
          have HKP : Aside0 ((putL (knC Kw).toList (m * 16) (vecC (joinL (hisK Kw m) (inc x.past x))).toList).toArray = knC K1) := ⟨by rw [← hK1]; exact knC_put HI.out.len (joinL_len _ _) HM4.out⟩
          clear hi0 hrr hox hx hiv hil2 hps hfx hn hn3 hK1 hpf
          go_upto_region 11 with (first
        | ((with_reducible refine gate_ (.load 40 (.tmp 39)) rfl ?_); refine ev_loadR (b := gb) (p0 := ob + q * 20) (n := 20) (cs := itC x) (HROW.out _ ?_) rfl rfl (by rfl) Try.underlying40 rfl (itC_size _ HOX.out.1.1) (by kernel_rfl) ?_; (focus first | with_reducible exact HH.out | ((with_reducible repeat first | refine OwnS.alloc ?_ _ | refine OwnS.drewN ?_ _ | refine OwnS.drew ?_); with_reducible exact HH.out)))
        | ((with_reducible refine gate_dst (N := 7) rfl ?_); refine evS_box (oh HH) rfl (cs := itC zI) (T := 40) ?_ ?_; (focus first | (go_simp; done) | (go_simp; rfl)); intro g2 w101 he hh; clear he; replace HH : Aside0 (OwnS (fun _ => False) [Sep.blk g1 (knC Kw) 65, Sep.row kIt 40 (.slice (some ⟨gb, ob, none⟩) i d) out, Sep.blk g2 (itC zI) 40] w w101) := ⟨hh⟩; clear hh)
        | ((with_reducible refine gate_ (.store 40 (.tmp 7) (.tmp 40)) rfl ?_); refine evS_storeA (oh HH) 2 rfl rfl rfl rfl (by rfl) (.agg (itC x)) (by rfl) (itC x) (by rfl) 20 20 (itC_size _ HOX.out.1.1) (itC_size _ zI_len) (by kernel_rfl) (by decide) (itC_one _) (itC x) (put_all _ _ (by rw [(itC_size _ HOX.out.1.1), (itC_size _ zI_len)])) ?_; intro w102 hh; replace HH : Aside0 (OwnS (fun _ => False) [Sep.blk g1 (knC Kw) 65, Sep.row kIt 40 (.slice (some ⟨gb, ob, none⟩) i d) out, Sep.blk g2 (itC x) 40] w w102) := ⟨hh⟩; clear hh)
        | ((with_reducible refine gate_ (.load 30 (.tmp 42)) rfl ?_); refine ev_loadA (OwnS.blk (oh HH) 2 rfl) 3 16 (vecC (x.past)) (itC_vec _ HOX.out.1.1) rfl rfl (by rfl) Try.underlying30 rfl (vecC_size _ HOX.out.1.1) (by kernel_rfl) ?_)
        | ((with_reducible refine gate_dst (N := 8) rfl ?_); refine evS_box (oh HH) rfl (cs := vecC (List.replicate 16 (0 : Int))) (T := 30) ?_ ?_; (focus first | (go_simp; done) | (go_simp; rfl)); intro g3 w103 he hh; clear he; replace HH : Aside0 (OwnS (fun _ => False) [Sep.blk g1 (knC Kw) 65, Sep.row kIt 40 (.slice (some ⟨gb, ob, none⟩) i d) out, Sep.blk g2 (itC x) 40, Sep.blk g3 (vecC (List.replicate 16 (0 : Int))) 30] w w103) := ⟨hh⟩; clear hh)
        | ((with_reducible refine gate_ (.store 30 (.tmp 8) (.tmp 43)) rfl ?_); refine evS_storeA (oh HH) 3 rfl rfl rfl rfl (by rfl) (.agg (vecC (x.past))) (by rfl) (vecC (x.past)) (by rfl) 16 16 (vecC_size _ HOX.out.1.1) (vecC_size _ (by rfl)) (by kernel_rfl) (by decide) (vecC_one _) (vecC (x.past)) (put_all _ _ (by rw [(vecC_size _ HOX.out.1.1), (vecC_size _ (by rfl))])) ?_; intro w104 hh; replace HH : Aside0 (OwnS (fun _ => False) [Sep.blk g1 (knC Kw) 65, Sep.row kIt 40 (.slice (some ⟨gb, ob, none⟩) i d) out, Sep.blk g2 (itC x) 40, Sep.blk g3 (vecC (x.past)) 30] w w104) := ⟨hh⟩; clear hh)
        | ((with_reducible refine gate_ (.load 5 (.tmp 44)) rfl ?_); refine ev_cell (v := .int .u8 f) ((blk_cell (OwnS.blk (oh HH) 2 rfl) 0).trans HFC.out) rfl rfl (by rfl) Try.underlying5 rfl ?_)
        | ((with_reducible refine gate_ (.load 27 (.tmp 46)) rfl ?_); refine ev_cell (v := .int .u16 n) ((blk_cell (OwnS.blk (oh HH) 3 rfl) f.toNat).trans HNC.out) rfl rfl (by rfl) Try.underlying27 rfl ?_)
        | ((with_reducible refine gate_ (.store 27 (.tmp 49) (.tmp 48)) rfl ?_); refine evS_storeA (oh HH) 3 rfl rfl rfl rfl (by rfl) (.int .u16 (n + 1)) (by rfl) (#[.int .u16 (n + 1)]) (by rfl) 1 16 rfl (vecC_size _ HOX.out.1.1) (by kernel_rfl) HFS.out (by simp [Value.oneCell']) (vecC (inc x.past x)) HPS.out ?_; intro w105 hh; replace HH : Aside0 (OwnS (fun _ => False) [Sep.blk g1 (knC Kw) 65, Sep.row kIt 40 (.slice (some ⟨gb, ob, none⟩) i d) out, Sep.blk g2 (itC x) 40, Sep.blk g3 (vecC (inc x.past x)) 30] w w105) := ⟨hh⟩; clear hh)
        | fail
        | fail)
          have HKV : Aside0 (∀ w' : World, OwnS (fun _ => False) [Sep.blk g1 (knC Kw) 65, Sep.row kIt 40 (.slice (some ⟨gb, ob, none⟩) i d) out, Sep.blk g2 (itC x) 40, Sep.blk g3 (vecC (inc x.past x)) 30] w w' → (w'.rangeAt g3 0 (nums .u16 (inc x.past x)))) := ⟨fun W h => range_vec HIX.out.1 (OwnS.blk h 3 rfl)⟩
          refine wp_region_held_drew (S := fun w' => w'.rangeAt g3 0 (nums .u16 (inc x.past x))) (by kernel_rfl) ?_ (fun hHeld => ?_)
          focus (try dsimp only); (exact HKV.out _ (oh HH))
          (try dsimp only at hHeld)
          refine otk (i := 0) (v := .int .u8 (m : Int)) ?_; (try simp only [Act.put, jjA, jjZ, jjS])
          refine otk (i := 1) (v := .int .u8 (m : Int)) ?_; (try simp only [Act.put, jjA, jjZ, jjS])
          refine otk (i := 2) ?_; (try simp only [Act.put, jjA, jjZ, jjS])
          refine tk (i := 4) (hy := yieldsIf_load_mid (by rfl) _ _ rfl _ _ rfl (nums .u16 (inc x.past x)) _ ?_ Try.underlying30 rfl (infoV HIX.out.1)) (h := ?_); (focus (intro w hSw; (try dsimp only at hSw); go_split_ands; assumption)); (try simp only [Act.put, jjA, jjZ, jjS])
          refine wpAnyH_ready (rs := [3]) (by kernel_rfl) (by simp) ?_
          refine AllReadyH.cons (by simp only [List.getElem?_toArray, List.getElem?_cons_succ, List.getElem?_cons_zero]; rfl) (fun K hK => ?_) AllReadyH.nil; refine ev_loadA_step (OwnS.blk (oh HH) 0 rfl) (m * 16) 16 (vecC (hisK Kw m)) (knC_vec HI.out.len HM4.out) (by rfl) rfl (by rfl) Try.underlying30 rfl (vecC_size _ (HI.out.vec HM4.out).1) (by kernel_rfl) ?_; refine hK.out _ _ ?_ (fun hHeld2 => ?_); (focus (try dsimp only); (exact HKV.out _ (oh HH))); clear hK K hHeld; rename _ => hHeld; (try dsimp only at hHeld); (try simp only [Act.put, jjA, jjZ, jjS])
          refine wpAnyH_ready (rs := [5]) (by kernel_rfl) (by simp) ?_
          refine AllReadyH.cons (by simp only [List.getElem?_toArray, List.getElem?_cons_succ, List.getElem?_cons_zero]; rfl) (fun K hK => ?_) AllReadyH.nil; go_simp; go_at_call 14; refine ownS_call (oh HH) ?_; intro ht; refine (rjoin_calls _ (hisK Kw m) (inc x.past x) (HI.out.vec HM4.out).1 HIX.out.1).mono ?_; rintro e w131 ⟨rfl, hb⟩; replace HH : Aside0 (OwnS (fun _ => False) [Sep.blk g1 (knC Kw) 65, Sep.row kIt 40 (.slice (some ⟨gb, ob, none⟩) i d) out, Sep.blk g2 (itC x) 40, Sep.blk g3 (vecC (inc x.past x)) 30] w w131) := ⟨OwnS.step ht hb⟩; clear hb; clear ht; refine hK.out _ _ ?_ (fun hHeld2 => ?_); (focus (try dsimp only); (exact HKV.out _ (oh HH))); clear hK K hHeld; rename _ => hHeld; (try dsimp only at hHeld); (try simp only [Act.put, jjA, jjZ, jjS])
          refine otk (i := 6) ?_; (try simp only [Act.put, jjA, jjZ, jjS])
          refine wpAnyH_ready (rs := [7]) (by kernel_rfl) (by simp) ?_
          refine AllReadyH.cons (by simp only [List.getElem?_toArray, List.getElem?_cons_succ, List.getElem?_cons_zero]; rfl) (fun K hK => ?_) AllReadyH.nil; refine evS_storeA_step (oh HH) 0 (by rfl) rfl rfl rfl (by rfl) (.agg (vecC (joinL (hisK Kw m) (inc x.past x)))) (by rfl) (vecC (joinL (hisK Kw m) (inc x.past x))) (by rfl) 16 64 (vecC_size _ (joinL_len _ _)) (knC_size HI.out.len) (by kernel_rfl) HFM2.out (vecC_one _) (knC K1) HKP.out ?_; intro w132 hh; replace HH : Aside0 (OwnS (fun _ => False) [Sep.blk g1 (knC K1) 65, Sep.row kIt 40 (.slice (some ⟨gb, ob, none⟩) i d) out, Sep.blk g2 (itC x) 40, Sep.blk g3 (vecC (inc x.past x)) 30] w w132) := ⟨hh⟩; clear hh; clear HKV; have HKV : Aside0 (∀ w' : World, OwnS (fun _ => False) [Sep.blk g1 (knC K1) 65, Sep.row kIt 40 (.slice (some ⟨gb, ob, none⟩) i d) out, Sep.blk g2 (itC x) 40, Sep.blk g3 (vecC (inc x.past x)) 30] w w' → (w'.rangeAt g3 0 (nums .u16 (inc x.past x)))) := ⟨fun W h => range_vec HIX.out.1 (OwnS.blk h 3 rfl)⟩; refine hK.out _ _ ?_ (fun hHeld2 => ?_); (focus (try dsimp only); (exact HKV.out _ (oh HH))); clear hK K hHeld; rename _ => hHeld; (try dsimp only at hHeld); (try simp only [Act.put, jjA, jjZ, jjS])
          refine wpAnyH_done (by kernel_rfl) ?_ _
          obtain ⟨s, hs⟩ : ∃ s, K1.getD (m * 16 + m) 0 = s := ⟨_, rfl⟩
          have HS := Aside0.mk hs
          have hsc := HI1.out.self m HM4.out
          rw [hs] at hsc
          have hs1 := cnt_le out out.length m
          have hs0 := cnt_nonneg out out.length m
          rw [← hsc] at hs0 hs1
          rw [HLEN.out] at hs1
          have hw1 := wrap_u16 (n := s) (by omega) (by omega)
          have hw2 : IntKind.u16.wrap (s + 1) = s + 1 := by rw [IntKind.wrap_u16]; omega
          have HSAY : Aside0 (HisI (K1.set (m * 16 + m) (s + 1)) (out ++ [(mkS m s (hisK K1 m) r)])) := ⟨by have := HI1.out.say (by rw [HLEN.out]; omega) HM4.out (runeB_size r); rw [hs] at this; unfold mkS; exact this⟩
          have HOX9 : Aside0 (okI (mkS m s (hisK K1 m) r)) := ⟨HSAY.out.caus.ok _ (List.mem_append_right _ (List.mem_singleton.2 rfl))⟩
          have HK2 : Aside0 ((K1.set (m * 16 + m) (s + 1)).length = 64) := ⟨HSAY.out.len⟩
          have hs2 : s ≤ 40 := by omega
          clear hs hsc hs1
          go_upto_region 12 with fail
          have HKV : Aside0 (∀ w' : World, OwnS (fun _ => False) [Sep.blk g1 (knC K1) 65, Sep.row kIt 40 (.slice (some ⟨gb, ob, none⟩) i d) out, Sep.blk g2 (itC x) 40, Sep.blk g3 (vecC (inc x.past x)) 30] w w' → (w'.cell? ⟨g1, m * 16 + m, none⟩ = some (.int .u16 s) ∧ w'.rangeAt g1 (m * 16) (nums .u16 (hisK K1 m)))) := ⟨fun W h => ⟨(by rw [← HS.out]; exact (blk_cell (OwnS.blk h 0 rfl) (m * 16 + m)).trans (knC_at (by rw [HI1.out.len]; exact HMM.out))), range_kn HI1.out.len HM4.out (OwnS.blk h 0 rfl)⟩⟩
          refine wp_region_held_drew (S := fun w' => w'.cell? ⟨g1, m * 16 + m, none⟩ = some (.int .u16 s) ∧ w'.rangeAt g1 (m * 16) (nums .u16 (hisK K1 m))) (by kernel_rfl) ?_ (fun hHeld => ?_)
          focus (try dsimp only); (exact HKV.out _ (oh HH))
          (try dsimp only at hHeld)
          refine otk (i := 0) (v := .int .u8 (m : Int)) ?_; (try simp only [Act.put, jjA, jjZ, jjS])
          refine otk (i := 1) (v := .int .u8 (m : Int)) ?_; (try simp only [Act.put, jjA, jjZ, jjS])
          refine otk (i := 2) (v := .int .u8 (m : Int)) ?_; (try simp only [Act.put, jjA, jjZ, jjS])
          refine otk (i := 3) ?_; (try simp only [Act.put, jjA, jjZ, jjS])
          refine otk (i := 4) ?_; (try simp only [Act.put, jjA, jjZ, jjS])
          refine otk (i := 5) (v := .int .u16 s) ?_; (try simp only [Act.put, jjA, jjZ, jjS])
          refine otk (i := 6) (v := .int .i64 s) ?_; (try simp only [Act.put, jjA, jjZ, jjS])
          refine otk (i := 7) (v := .int .u8 (m : Int)) ?_; (try simp only [Act.put, jjA, jjZ, jjS])
          refine otk (i := 8) ?_; (try simp only [Act.put, jjA, jjZ, jjS])
          refine tk (i := 9) (hy := yieldsIf_load_mid (by rfl) _ _ rfl _ _ rfl (nums .u16 (hisK K1 m)) _ ?_ Try.underlying30 rfl (infoV (HI1.out.vec HM4.out).1)) (h := ?_); (focus (intro w hSw; (try dsimp only at hSw); go_split_ands; assumption)); (try simp only [Act.put, jjA, jjZ, jjS])
          refine otk (i := 10) (v := .int .i64 (i : Int)) ?_; (try simp only [Act.put, jjA, jjZ, jjS])
          refine otk (i := 11) (v := .int .i64 (r : Int)) ?_; (try simp only [Act.put, jjA, jjZ, jjS])
          refine otk (i := 12) (v := .int .i64 (97 + (r : Int))) ?_; (try simp only [Act.put, jjA, jjZ, jjS])
          refine otk (i := 13) (v := .int .i32 (97 + (r : Int))) ?_; (try simp only [Act.put, jjA, jjZ, jjS])
          refine tk (i := 14) (v := .string (runeB r)) (hy := (Or.inl ⟨by rfl, fun w _ => rune_run rfl r HR26.out rfl w⟩)) (h := ?_); (try simp only [Act.put, jjA, jjZ, jjS])
          refine tk (i := 15) (v := ?_) (hy := (Or.inl ⟨by rfl, fun w _ => build_take rfl (by simp only [List.map_toArray, List.map_cons, List.map_nil]; exact build_bodR _ (HI1.out.vec HM4.out).1 _ _)⟩)) (h := ?_); (try simp only [Act.put, jjA, jjZ, jjS])
          refine tk (i := 16) (v := ?_) (hy := (Or.inl ⟨by rfl, fun w _ => build_take rfl (by simp only [List.map_toArray, List.map_cons, List.map_nil]; exact buildR_it (mkS m s (hisK K1 m) r) (HI1.out.vec HM4.out).1 _)⟩)) (h := ?_); (try simp only [Act.put, jjA, jjZ, jjS])
          refine wpAnyH_ready (rs := [17]) (by kernel_rfl) (by simp) ?_
          refine AllReadyH.cons (by simp only [List.getElem?_toArray, List.getElem?_cons_succ, List.getElem?_cons_zero]; rfl) (fun K hK => ?_) AllReadyH.nil; refine evS_box_step (oh HH) (by rfl) (cs := itC zI) (T := 40) ?_ ?_; (focus first | (go_simp; done) | (go_simp; rfl)); intro g4 w161 he hh; clear he; replace HH : Aside0 (OwnS (fun _ => False) [Sep.blk g1 (knC K1) 65, Sep.row kIt 40 (.slice (some ⟨gb, ob, none⟩) i d) out, Sep.blk g2 (itC x) 40, Sep.blk g3 (vecC (inc x.past x)) 30, Sep.blk g4 (itC zI) 40] w w161) := ⟨hh⟩; clear hh; clear HKV; have HKV : Aside0 (∀ w' : World, OwnS (fun _ => False) [Sep.blk g1 (knC K1) 65, Sep.row kIt 40 (.slice (some ⟨gb, ob, none⟩) i d) out, Sep.blk g2 (itC x) 40, Sep.blk g3 (vecC (inc x.past x)) 30, Sep.blk g4 (itC zI) 40] w w' → (w'.cell? ⟨g1, m * 16 + m, none⟩ = some (.int .u16 s) ∧ w'.rangeAt g1 (m * 16) (nums .u16 (hisK K1 m)))) := ⟨fun W h => ⟨(by rw [← HS.out]; exact (blk_cell (OwnS.blk h 0 rfl) (m * 16 + m)).trans (knC_at (by rw [HI1.out.len]; exact HMM.out))), range_kn HI1.out.len HM4.out (OwnS.blk h 0 rfl)⟩⟩; refine hK.out _ _ ?_ (fun hHeld2 => ?_); (focus (try dsimp only); (exact HKV.out _ (oh HH))); clear hK K hHeld; rename _ => hHeld; (try dsimp only at hHeld); (try simp only [Act.put, jjA, jjZ, jjS])
          refine wpAnyH_ready (rs := [18]) (by kernel_rfl) (by simp) ?_
          refine AllReadyH.cons (by simp only [List.getElem?_toArray, List.getElem?_cons_succ, List.getElem?_cons_zero]; rfl) (fun K hK => ?_) AllReadyH.nil; refine evS_storeA_step (oh HH) 4 (by rfl) rfl rfl rfl (by rfl) (.agg (itC (mkS m s (hisK K1 m) r))) (by rfl) (itC (mkS m s (hisK K1 m) r)) (by rfl) 20 20 (itC_size _ (HI1.out.vec HM4.out).1) (itC_size _ zI_len) (by kernel_rfl) (by decide) (itC_one _) (itC (mkS m s (hisK K1 m) r)) (put_all _ _ (by rw [(itC_size _ (HI1.out.vec HM4.out).1), (itC_size _ zI_len)])) ?_; intro w162 hh; replace HH : Aside0 (OwnS (fun _ => False) [Sep.blk g1 (knC K1) 65, Sep.row kIt 40 (.slice (some ⟨gb, ob, none⟩) i d) out, Sep.blk g2 (itC x) 40, Sep.blk g3 (vecC (inc x.past x)) 30, Sep.blk g4 (itC (mkS m s (hisK K1 m) r)) 40] w w162) := ⟨hh⟩; clear hh; clear HKV; have HKV : Aside0 (∀ w' : World, OwnS (fun _ => False) [Sep.blk g1 (knC K1) 65, Sep.row kIt 40 (.slice (some ⟨gb, ob, none⟩) i d) out, Sep.blk g2 (itC x) 40, Sep.blk g3 (vecC (inc x.past x)) 30, Sep.blk g4 (itC (mkS m s (hisK K1 m) r)) 40] w w' → (w'.cell? ⟨g1, m * 16 + m, none⟩ = some (.int .u16 s) ∧ w'.rangeAt g1 (m * 16) (nums .u16 (hisK K1 m)))) := ⟨fun W h => ⟨(by rw [← HS.out]; exact (blk_cell (OwnS.blk h 0 rfl) (m * 16 + m)).trans (knC_at (by rw [HI1.out.len]; exact HMM.out))), range_kn HI1.out.len HM4.out (OwnS.blk h 0 rfl)⟩⟩; refine hK.out _ _ ?_ (fun hHeld2 => ?_); (focus (try dsimp only); (exact HKV.out _ (oh HH))); clear hK K hHeld; rename _ => hHeld; (try dsimp only at hHeld); (try simp only [Act.put, jjA, jjZ, jjS])
          refine wpAnyH_done (by kernel_rfl) ?_ _
          go_upto_region 14 with (first
          | ((with_reducible refine gate_ (.load 40 (.tmp 9)) rfl ?_); refine ev_loadA (OwnS.blk (oh HH) 4 rfl) 0 20 (itC (mkS m s (hisK K1 m) r)) (all_of _ 20 (itC_size _ (HI1.out.vec HM4.out).1)) rfl rfl (by rfl) Try.underlying40 rfl (itC_size _ (HI1.out.vec HM4.out).1) (by kernel_rfl) ?_)
          | ((with_reducible refine gate_dst (N := 76) rfl ?_); refine litR1 rfl (mkS m s (hisK K1 m) r) (HI1.out.vec HM4.out).1 rfl rfl ?_)
          | (at_builtin; refine evS_appendR kIt (oh HH) 1 rfl (.tmp 74) (.tmp 76) 25 40 (.agg (itC zI)) 72 rfl Try.underlying25 infoR rfl (by first | decide | exact Nat.succ_pos _) (by decide) (.slice (some ⟨gb, ob, none⟩) i d) out (mkS m s (hisK K1 m) r) (itL (mkS m s (hisK K1 m) r)) rfl rfl ?_ ?_ ?_ ?_; (focus first | rfl | (simp [Act.eval]; done)); (focus exact fun _ => kIt_M HOX9.out); (focus rw [HLEN.out]; omega); intro A9 c9 w181 hh; replace HH : Aside0 (OwnS (fun _ => False) [Sep.blk g1 (knC K1) 65, Sep.row kIt 40 (.slice A9 (out.length + 1) c9) (out ++ [(mkS m s (hisK K1 m) r)]), Sep.blk g2 (itC x) 40, Sep.blk g3 (vecC (inc x.past x)) 30, Sep.blk g4 (itC (mkS m s (hisK K1 m) r)) 40] w w181) := ⟨hh⟩; clear hh)
          | fail
          | fail)
          have HCS : Aside0 (∀ W, OwnS (fun _ => False) [Sep.blk g1 (knC K1) 65, Sep.row kIt 40 (.slice A9 (out.length + 1) c9) (out ++ [(mkS m s (hisK K1 m) r)]), Sep.blk g2 (itC x) 40, Sep.blk g3 (vecC (inc x.past x)) 30, Sep.blk g4 (itC (mkS m s (hisK K1 m) r)) 40] w W → W.cell? ⟨g1, m * 16 + m, none⟩ = some (.int .u16 s)) := ⟨fun W h => by rw [← HS.out]; exact (blk_cell (OwnS.blk h 0 rfl) (m * 16 + m)).trans (knC_at (by rw [HI1.out.len]; exact HMM.out))⟩
          have HKV : Aside0 (∀ w' : World, OwnS (fun _ => False) [Sep.blk g1 (knC K1) 65, Sep.row kIt 40 (.slice A9 (out.length + 1) c9) (out ++ [(mkS m s (hisK K1 m) r)]), Sep.blk g2 (itC x) 40, Sep.blk g3 (vecC (inc x.past x)) 30, Sep.blk g4 (itC (mkS m s (hisK K1 m) r)) 40] w w' → (True)) := ⟨fun W h => trivial⟩
          refine wp_region_held_drew (S := fun w' => True) (by kernel_rfl) ?_ (fun hHeld => ?_)
          focus trivial
          (try dsimp only at hHeld)
          refine otk (i := 0) (v := .int .u8 (m : Int)) ?_; (try simp only [Act.put, jjA, jjZ, jjS])
          refine otk (i := 1) (v := .int .u8 (m : Int)) ?_; (try simp only [Act.put, jjA, jjZ, jjS])
          refine otk (i := 2) ?_; (try simp only [Act.put, jjA, jjZ, jjS])
          refine otk (i := 3) ?_; (try simp only [Act.put, jjA, jjZ, jjS])
          refine otk (i := 6) ?_; (try simp only [Act.put, jjA, jjZ, jjS])
          refine wpAnyH_ready (rs := [4]) (by kernel_rfl) (by simp) ?_
          refine AllReadyH.cons (by simp only [List.getElem?_toArray, List.getElem?_cons_succ, List.getElem?_cons_zero]; rfl) (fun K hK => ?_) AllReadyH.nil; refine ev_cell_step (v := .int .u16 s) (HCS.out _ ?_) (by rfl) rfl (by rfl) Try.underlying27 rfl ?_; (focus first | with_reducible exact HH.out | ((with_reducible repeat first | refine OwnS.alloc ?_ _ | refine OwnS.drewN ?_ _ | refine OwnS.drew ?_); with_reducible exact HH.out)); refine hK.out _ _ ?_ (fun hHeld2 => ?_); (focus trivial); clear hK K hHeld; rename _ => hHeld; (try dsimp only at hHeld); (try simp only [Act.put, jjA, jjZ, jjS])
          refine otk (i := 5) (v := .int .u16 (s + 1)) ?_; (try simp only [Act.put, jjA, jjZ, jjS])
          refine otk (i := 7) ?_; (try simp only [Act.put, jjA, jjZ, jjS])
          refine wpAnyH_ready (rs := [8]) (by kernel_rfl) (by simp) ?_
          refine AllReadyH.cons (by simp only [List.getElem?_toArray, List.getElem?_cons_succ, List.getElem?_cons_zero]; rfl) (fun K hK => ?_) AllReadyH.nil; refine evS_storeA_step (oh HH) 0 (by rfl) rfl rfl rfl (by rfl) (.int .u16 (s + 1)) (by rfl) (#[.int .u16 (s + 1)]) (by rfl) 1 64 rfl (knC_size HI1.out.len) (by kernel_rfl) HFM.out (by simp [Value.oneCell']) (knC (K1.set (m * 16 + m) (s + 1))) (knC_set (by rw [HI1.out.len]; exact HMM.out) _) ?_; intro w201 hh; replace HH : Aside0 (OwnS (fun _ => False) [Sep.blk g1 (knC (K1.set (m * 16 + m) (s + 1))) 65, Sep.row kIt 40 (.slice A9 (out.length + 1) c9) (out ++ [(mkS m s (hisK K1 m) r)]), Sep.blk g2 (itC x) 40, Sep.blk g3 (vecC (inc x.past x)) 30, Sep.blk g4 (itC (mkS m s (hisK K1 m) r)) 40] w w201) := ⟨hh⟩; clear hh; clear HKV; have HKV : Aside0 (∀ w' : World, OwnS (fun _ => False) [Sep.blk g1 (knC (K1.set (m * 16 + m) (s + 1))) 65, Sep.row kIt 40 (.slice A9 (out.length + 1) c9) (out ++ [(mkS m s (hisK K1 m) r)]), Sep.blk g2 (itC x) 40, Sep.blk g3 (vecC (inc x.past x)) 30, Sep.blk g4 (itC (mkS m s (hisK K1 m) r)) 40] w w' → (True)) := ⟨fun W h => trivial⟩; refine hK.out _ _ ?_ (fun hHeld2 => ?_); (focus trivial); clear hK K hHeld; rename _ => hHeld; (try dsimp only at hHeld); (try simp only [Act.put, jjA, jjZ, jjS])
          refine wpAnyH_done (by kernel_rfl) ?_ _
          go_wp2_with fail
          go_roundw
          case rel =>
            have h8 := OwnS.picks HH.out [0, 1] (by decide)
            rw [HLEN.out] at h8
            exact ⟨i + 1, _, out ++ [(mkS m s (hisK K1 m) r)], A9, c9, by first | rfl | rw [HLEN.out], by go_num, by omega, by omega, ⟨by rw [List.length_append, HLEN.out]; rfl⟩, HSAY, ⟨h8⟩⟩
          case measure => simp [intOf]; omega
      · have q1 : (i : Int) < (l.length : Int) := by omega
        have q2 : ¬ ((i : Int) < 40) := by omega
        go_wp2_with fail
        go_ret
        have h8 := Own.pick (OwnS.own HH.out) 1 rfl
        rw [← HLEN.out] at h8
        exact ⟨B, d, Kw, out, by rw [HLEN.out]; rfl, h8, HI.out, by rw [HLEN.out]; omega⟩
    · have q1 : ¬ ((i : Int) < (l.length : Int)) := by omega
      go_wp2_with fail
      go_ret
      have h8 := Own.pick (OwnS.own HH.out) 1 rfl
      rw [← HLEN.out] at h8
      exact ⟨B, d, Kw, out, by rw [HLEN.out]; rfl, h8, HI.out, by rw [HLEN.out]; omega⟩
end Go.Proofs.Ytbaknecnkipooaa.Hld
