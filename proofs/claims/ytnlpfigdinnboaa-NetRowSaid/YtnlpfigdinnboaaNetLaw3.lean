/- The walk of NetRow. -/
import Derived.Test.YtnlpfigdinnboaaNetShape
namespace Go.Proofs.Ytnlpfigdinnboaa.Net
open Go Go.RowKit Go.Proofs.YtnlpfigdinnboaaW.PrintWords Go.Proofs.Ytnlpfigdinnboaa.Sep Go.Proofs.Ytnlpfigdinnboaa.Obj
set_option linter.unusedVariables false
set_option linter.unusedSimpArgs false

set_option maxHeartbeats 16000000 in
set_option maxRecDepth 100000 in
theorem netrow_calls (w : World) (A : Option Addr) (c : Nat) (ls : List Lt) (hr : kLt.C w A ls.length ls) : Calls Try.prog 4 #[.slice A ls.length c] w (Kept (.bool true) w) := by
  have HR := Aside0.mk hr
  clear hr
  have HH : Aside0 (OwnS (fun _ => False) [] w w) := ⟨OwnS.of_own (Own.start w)⟩
  by_cases hf : fewL ls = true
  · have hlen : ls.length ≤ 60 := fewL_len hf
    have HLB : Aside0 (∀ x ∈ ls, x.body.length ≤ 1000000) := ⟨fun x hx => Nat.le_trans (fewL_body hf x hx) (by decide)⟩
    have HLS : Aside0 (ls.length ≤ 1000000) := ⟨by omega⟩
    have HKK : Aside0 (ls.length = min ls.length ((5000 : Int).toNat - ([] : List Lt).length)) := ⟨by simp; omega⟩
    go_enter Try.func4, Try.ntmps4
    go_wp2_with (first
      | (go_at_call 8; refine ownS_call (S := fun _ => False) (w0 := w) (As := []) ?_ ?_; (focus first | (with_reducible exact HH.out) | ((repeat (first | (with_reducible refine OwnS.alloc ?_ _) | (with_reducible refine OwnS.drewN ?_ _) | (with_reducible refine OwnS.drew ?_))); (with_reducible exact HH.out))); intro ht; refine (alive_calls _).mono ?_; rintro e w1 ⟨rfl, hb⟩; have HHx : Aside0 (OwnS (fun _ => False) [] w w1) := ⟨OwnS.step ht hb⟩; clear HH; have HH := HHx; clear HHx; clear hb; clear ht)
      | (go_at_call 9; refine ownS_call (S := fun _ => False) (w0 := w) (As := []) ?_ ?_; (focus first | (with_reducible exact HH.out) | ((repeat (first | (with_reducible refine OwnS.alloc ?_ _) | (with_reducible refine OwnS.drewN ?_ _) | (with_reducible refine OwnS.drew ?_))); (with_reducible exact HH.out))); intro ht; refine (new_calls _ 5000 (by decide)).mono ?_; rintro e w2 ⟨g, rfl, ho⟩; have ho := OwnS.own ho; have HHx : Aside0 (OwnS (fun _ => False) [netA g [] 5000] w w2) := ⟨OwnS.joinL (S := fun _ => False) (w0 := w) (As := []) (Bs := [netA g [] 5000]) ht ho⟩; clear HH; have HH := HHx; clear HHx; clear ho; clear ht)
      | (go_at_call 10; refine ownS_call (S := fun _ => False) (w0 := w) (As := [netA g [] 5000]) ?_ ?_; (focus first | (with_reducible exact HH.out) | ((repeat (first | (with_reducible refine OwnS.alloc ?_ _) | (with_reducible refine OwnS.drewN ?_ _) | (with_reducible refine OwnS.drew ?_))); (with_reducible exact HH.out))); intro ht; refine (few_calls w _ A c ls (Kd.C_below (kLc_of HR.out) (below_frm (OwnS.frm ht)))).mono ?_; rintro e w3 ⟨rfl, hb⟩; rw [hf]; have HHx : Aside0 (OwnS (fun _ => False) [netA g [] 5000] w w3) := ⟨OwnS.step ht hb⟩; clear HH; have HH := HHx; clear HHx; clear hb; clear ht)
      | fail
      | fail)
    have HHx : Aside0 (OwnS (fun _ => False) [netA g [] 5000, Sep.row kLt 36 (.slice none 0 0) []] w _) := ⟨OwnS.add HH.out (Below.refl _ _) (Kd.R_nil _ _ _ _ _)⟩
    clear HH
    have HH := HHx
    clear HHx
    go_loopw [4, 30] (fun v4 v30 W => ∃ (j : Nat) (L : List Lt) (A1 : Option Addr) (c1 : Nat), v4 = .slice A1 L.length c1 ∧ v30 = .int .i64 (j : Int) ∧ j ≤ ls.length ∧ ls.take j = L ∧ Aside0 (OwnS (fun _ => False) [netA g [] 5000, Sep.row kLt 36 (.slice A1 L.length c1) L] w W)) (fun _ v30 _ => ls.length - (intOf v30).toNat)
    case atStart => exact ⟨0, [], none, 0, rfl, rfl, by omega, rfl, HH⟩
    case round =>
      clear HH
      obtain ⟨j, L, A1, c1, rfl, rfl, hj, hL, HH⟩ := hrel
      have HLn : Aside0 (L.length ≤ 100) := ⟨by rw [← hL, List.length_take]; omega⟩
      by_cases hjl : j < ls.length
      · obtain ⟨ad, Al, cl, ea, hrb, hcl, q0, q1, q2, q3, q4⟩ := at_Lt HR.out j hjl
        have k0 := pw_cell_below (below_frm (OwnS.frm HH.out)) q0
        have k1 := pw_cell_below (below_frm (OwnS.frm HH.out)) q1
        have k2 := pw_cell_below (below_frm (OwnS.frm HH.out)) q2
        have k3 := pw_cell_below (below_frm (OwnS.frm HH.out)) q3
        have k4 := pw_cell_below (below_frm (OwnS.frm HH.out)) q4
        clear q0 q1 q2 q3 q4
        have htk : ls.take (j + 1) = L ++ [ls[j]] := by rw [← hL]; exact (List.take_append_getElem hjl).symm
        have HTK := Aside0.mk htk
        have hbl := HLB.out ls[j] (List.getElem_mem _)
        clear htk
        generalize ls[j] = x at *
        obtain ⟨f, d, s, bd, tg⟩ := x
        dsimp only at *
        have HRb := Aside0.mk hrb
        clear hrb
        have gj0 : 0 ≤ (j : Int) := by omega
        have gj1 : (j : Int) < (ls.length : Int) := by omega
        cases ea
        go_wp2_with (first
        | ((with_reducible refine gate_dst (N := 6) rfl ?_); refine evS_box (S := fun _ => False) (w0 := w) (As := [netA g [] 5000, Sep.row kLt 36 (.slice A1 L.length c1) L]) ?_ rfl (cs := #[.int .u8 0, .int .u8 0, .int .u32 0, .slice none 0 0, .string ⟨#[]⟩]) (T := 40) ?_ ?_; (focus first | (with_reducible exact HH.out) | ((repeat (first | (with_reducible refine OwnS.alloc ?_ _) | (with_reducible refine OwnS.drewN ?_ _) | (with_reducible refine OwnS.drew ?_))); (with_reducible exact HH.out))); (focus first | (go_simp; done) | (go_simp; rfl)); intro g1 w21 he hh; clear he; have HHx : Aside0 (OwnS (fun _ => False) [netA g [] 5000, Sep.row kLt 36 (.slice A1 L.length c1) L, Sep.blk g1 #[.int .u8 0, .int .u8 0, .int .u32 0, .slice none 0 0, .string ⟨#[]⟩] 40] w w21) := ⟨hh⟩; clear HH; have HH := HHx; clear HHx; clear hh)
        | ((with_reducible refine gate_ (.store 40 (.tmp 6) (.tmp 33)) rfl ?_); refine evS_store (S := fun _ => False) (w0 := w) (As := [netA g [] 5000, Sep.row kLt 36 (.slice A1 L.length c1) L, Sep.blk g1 #[.int .u8 0, .int .u8 0, .int .u32 0, .slice none 0 0, .string ⟨#[]⟩] 40]) ?_ 2 rfl rfl rfl rfl (by rfl) (.agg #[.int .u8 f, .int .u8 d, .int .u32 s, .slice Al bd.length cl, .string tg]) (by rfl) [.int .u8 f, .int .u8 d, .int .u32 s, .slice Al bd.length cl, .string tg] (by rfl) (by kernel_rfl) (by simp) (by simp [Value.oneCell']) ?_; (focus first | (with_reducible exact HH.out) | ((repeat (first | (with_reducible refine OwnS.alloc ?_ _) | (with_reducible refine OwnS.drewN ?_ _) | (with_reducible refine OwnS.drew ?_))); (with_reducible exact HH.out))); intro w22 hh; have HHx : Aside0 (OwnS (fun _ => False) [netA g [] 5000, Sep.row kLt 36 (.slice A1 L.length c1) L, Sep.blk g1 #[.int .u8 f, .int .u8 d, .int .u32 s, .slice Al bd.length cl, .string tg] 40] w w22) := ⟨hh⟩; clear HH; have HH := HHx; clear HHx; clear hh; have HHx : Aside0 (OwnS (fun _ => False) [netA g [] 5000, Sep.row kLt 36 (.slice A1 L.length c1) L, Sep.blk g1 #[.int .u8 f, .int .u8 d, .int .u32 s, .slice Al bd.length cl, .string tg] 40, Sep.row kU 5 (.slice none 0 0) []] w w22) := ⟨OwnS.add HH.out (Below.refl _ _) (Kd.R_nil _ _ _ _ _)⟩; clear HH; have HH := HHx; clear HHx)
        | fail
        | fail)
        have HKV : Aside0 (∀ (w' : World) (As : List Asr), OwnS (fun _ => False) As w w' → As[2]? = some (Sep.blk g1 #[.int .u8 f, .int .u8 d, .int .u32 s, .slice Al bd.length cl, .string tg] 40) → (w'.cell? ⟨g1, 0, none⟩ = some (.int .u8 f) ∧ w'.cell? ⟨g1, 1, none⟩ = some (.int .u8 d) ∧ w'.cell? ⟨g1, 2, none⟩ = some (.int .u32 s) ∧ w'.cell? ⟨g1, 3, none⟩ = some (.slice Al bd.length cl) ∧ w'.cell? ⟨g1, 4, none⟩ = some (.string tg))) := ⟨fun W As h e => ⟨blk_cell (OwnS.blk h 2 e) 0, blk_cell (OwnS.blk h 2 e) 1, blk_cell (OwnS.blk h 2 e) 2, blk_cell (OwnS.blk h 2 e) 3, blk_cell (OwnS.blk h 2 e) 4⟩⟩
        go_region_held3 (fun w' => w'.cell? ⟨g1, 0, none⟩ = some (.int .u8 f) ∧ w'.cell? ⟨g1, 1, none⟩ = some (.int .u8 d) ∧ w'.cell? ⟨g1, 2, none⟩ = some (.int .u32 s) ∧ w'.cell? ⟨g1, 3, none⟩ = some (.slice Al bd.length cl) ∧ w'.cell? ⟨g1, 4, none⟩ = some (.string tg)) (first | exact HKV.out _ _ HH.out rfl | exact HKV.out _ _ (OwnS.drew HH.out) rfl | exact HKV.out _ _ (OwnS.alloc HH.out _) rfl) (first
        | (refine evS_append_rows_step kU (E := True) (Rr := kU.K w) (S := fun _ => False) (w0 := w) (As := [netA g [] 5000, Sep.row kLt 36 (.slice A1 L.length c1) L, Sep.blk g1 #[.int .u8 f, .int .u8 d, .int .u32 s, .slice Al bd.length cl, .string tg] 40, Sep.row kU 5 (.slice none 0 0) []]) ?_ 3 (by rfl) (.const (.slice none 0 0)) (.tmp 44) 33 5 (.int .u8 0) 1 (by rfl) Try.underlying33 infoU rfl (by first | decide | exact Nat.succ_pos _) (by decide) (.slice none 0 0) ([] : List Int) bd Al bd.length cl rfl (by rfl) (by rfl) ?_ ?_ ?_ ?_; (focus first | (with_reducible exact HH.out) | ((repeat (first | (with_reducible refine OwnS.alloc ?_ _) | (with_reducible refine OwnS.drewN ?_ _) | (with_reducible refine OwnS.drew ?_))); (with_reducible exact HH.out))); (focus exact Kd.C_below HRb.out (below_frm (OwnS.frm (by first | (with_reducible exact HH.out) | ((repeat (first | (with_reducible refine OwnS.alloc ?_ _) | (with_reducible refine OwnS.drewN ?_ _) | (with_reducible refine OwnS.drew ?_))); (with_reducible exact HH.out)))))); (focus exact fun S x cs hx => hx); (focus simp; omega); intro A9 c9 w23 hh; have HHx : Aside0 (OwnS (fun _ => False) [netA g [] 5000, Sep.row kLt 36 (.slice A1 L.length c1) L, Sep.blk g1 #[.int .u8 f, .int .u8 d, .int .u32 s, .slice Al bd.length cl, .string tg] 40, Sep.val kLt (⟨f, d, s, bd, tg⟩ : Lt) [.int .u8 f, .int .u8 d, .int .u32 s, .slice A9 bd.length c9, .string tg]] w w23) := ⟨OwnS.weak (S := fun _ => False) (w0 := w) hh 3 rfl (fun T hp => kLt_mkM (x := (⟨f, d, s, bd, tg⟩ : Lt)) hp)⟩; clear HH; have HH := HHx; clear HHx; clear hh)
        | (refine evS_appendR_val_step kLt (S := fun _ => False) (w0 := w) (As := [netA g [] 5000, Sep.row kLt 36 (.slice A1 L.length c1) L, Sep.blk g1 #[.int .u8 f, .int .u8 d, .int .u32 s, .slice Al bd.length cl, .string tg] 40, Sep.val kLt (⟨f, d, s, bd, tg⟩ : Lt) [.int .u8 f, .int .u8 d, .int .u32 s, .slice A9 bd.length c9, .string tg]]) ?_ 1 3 (by decide) (by rfl) (.tmp 34) (.tmp 47) 49 36 (.agg #[.int .u8 0, .int .u8 0, .int .u32 0, .slice none 0 0, .string ⟨#[]⟩]) 48 (by rfl) Try.underlying49 infoLt rfl (by first | decide | exact Nat.succ_pos _) (by decide) (.slice A1 L.length c1) L (⟨f, d, s, bd, tg⟩ : Lt) [.int .u8 f, .int .u8 d, .int .u32 s, .slice A9 bd.length c9, .string tg] rfl rfl (by rfl) ?_ ?_ ?_; (focus first | (with_reducible exact HH.out) | ((repeat (first | (with_reducible refine OwnS.alloc ?_ _) | (with_reducible refine OwnS.drewN ?_ _) | (with_reducible refine OwnS.drew ?_))); (with_reducible exact HH.out))); (focus first | rfl | (simp [Act.eval]; done)); (focus have := HLn.out; omega); intro A8 c8 w24 hh; have HHx : Aside0 (OwnS (fun _ => False) [netA g [] 5000, Sep.row kLt 36 (.slice A8 (L.length + 1) c8) (L ++ [(⟨f, d, s, bd, tg⟩ : Lt)]), Sep.blk g1 #[.int .u8 f, .int .u8 d, .int .u32 s, .slice Al bd.length cl, .string tg] 40, emp] w w24) := ⟨hh⟩; clear HH; have HH := HHx; clear HHx; clear hh)
        | fail
        | fail)
        all_goals (go_wp2_with fail; go_roundw)
        case rel => exact ⟨j + 1, _, A8, c8, by simp, by go_num, by omega, HTK.out, ⟨by have := HH.out.take 2; simpa using this⟩⟩
        case measure => simp [intOf]; omega
      · have hjl' : j = ls.length := by omega
        subst hjl'
        rw [List.take_length] at hL
        subst hL
        have HCP : Aside0 (ls.length ≤ c1) := ⟨(OwnS.len HH.out 1 rfl).2⟩
        go_wp2_with (first
      | (go_at_call 18; refine ownS_call (S := fun _ => False) (w0 := w) (As := [netA g [] 5000, Sep.row kLt 36 (.slice A1 ls.length c1) ls]) ?_ ?_; (focus first | (with_reducible exact HH.out) | ((repeat (first | (with_reducible refine OwnS.alloc ?_ _) | (with_reducible refine OwnS.drewN ?_ _) | (with_reducible refine OwnS.drew ?_))); (with_reducible exact HH.out))); intro ht; refine ownS_meth2 (S := fun _ => False) (w0 := w) (As := [netA g [] 5000, Sep.row kLt 36 (.slice A1 ls.length c1) ls]) ht 0 1 (by decide) rfl rfl ?_; intro T hT hTS hput; refine (post_L (l := []) (L := ls) T w _ g 5000 (Sep.row kLt 36 (.slice A1 ls.length c1) ls) hT (by decide) A1 c1 (by decide) (by decide) HLS.out HCP.out HLB.out (fun W T' hb hp => (Kd.R_reads' hp).2.2) (below_frm (OwnS.frm ht)) (fun k hk => (hTS k hk).1.elim False.elim id) ls.length HKK.out (by simp)).mono ?_; rintro e w41 ⟨rfl, ho⟩; have HHx : Aside0 (OwnS (fun _ => False) [netA g ls 5000, Sep.row kLt 36 (.slice A1 ls.length c1) ls] w w41) := ⟨hput (netA g ls 5000) (Sep.row kLt 36 (.slice A1 ls.length c1) ls) w41 ho⟩; clear HH; have HH := HHx; clear HHx; clear ho hput hT hTS ht; have HHx : Aside0 (OwnS (fun _ => False) [netA g ls 5000, shapeA A1 ls] w w41) := ⟨HH.out.weak 1 rfl (fun T hp => shape_of hp)⟩; clear HH; have HH := HHx; clear HHx)
      | fail
      | fail)
        go_loopw [58] (fun v58 W => ∃ (i : Nat), v58 = .int .i64 (i : Int) ∧ i ≤ ls.length ∧ Aside0 (OwnS (fun _ => False) [netA g ls 5000, shapeA A1 ls] w W)) (fun v58 _ => ls.length - (intOf v58).toNat)
        case atStart => exact ⟨0, rfl, by omega, HH⟩
        case round =>
          clear HH
          obtain ⟨i, rfl, hi, HH⟩ := hrel
          by_cases hil : i < ls.length
          · obtain ⟨ad, Ab, cb, ea, hc3, hb⟩ := shape_at HH.out 1 rfl i hil
            have HHB := Aside0.mk hb
            clear hb
            have gi0 : 0 ≤ (i : Int) := by omega
            have gi1 : (i : Int) < (ls.length : Int) := by omega
            have hnl : ls[i].body.length ≤ 1000000 := HLB.out _ (List.getElem_mem _)
            obtain ⟨n, hn⟩ : ∃ n, ls[i].body.length = n := ⟨_, rfl⟩
            have HN := Aside0.mk hn
            rw [hn] at hc3 hnl
            clear hn
            cases ea
            obtain ⟨wo, hwo⟩ : ∃ wo : World, wo = wr := ⟨_, rfl⟩
            go_wp2_with fail
            go_loopw [67] (fun v67 W => ∃ (k : Nat), v67 = .int .i64 (k : Int) ∧ k ≤ n ∧ Aside0 (OwnS (fun _ => False) [netA g ls 5000, shapeA (some ad) ls] w W)) (fun v67 _ => n - (intOf v67).toNat)
            case atStart => exact ⟨0, rfl, by omega, HH⟩
            case round =>
              clear HH hc3 HHB
              obtain ⟨k, rfl, hk, HH⟩ := hrel
              by_cases hkn : k < n
              · obtain ⟨ad2, Ab2, cb2, ea2, hc3, hb⟩ := shape_at HH.out 1 rfl i hil
                obtain rfl := Option.some.inj ea2
                have hpos : 0 < ls[i].body.length := by have := HN.out; omega
                obtain ⟨gb, e1, hcs⟩ := hb hpos
                subst e1
                obtain ⟨x, hcx, hfx⟩ := hcs k (by have := HN.out; omega)
                clear hcs hb
                have HC3 := Aside0.mk hc3
                have HPOS := Aside0.mk hpos
                rw [HN.out] at hc3
                clear hpos
                have gk0 : 0 ≤ (k : Int) := by omega
                have gk1 : (k : Int) < (n : Int) := by omega
                go_wp2_with fail
                go_roundw
                case rel => exact ⟨k + 1, by go_num, by omega, ⟨shape_put HH.out 1 rfl i hil HPOS.out rfl HC3.out k _⟩⟩
                case measure => simp [intOf]; omega
              · have hkn' : k = n := by omega
                subst hkn'
                go_wp2_with fail
                go_roundw
                case rel => exact ⟨i + 1, by go_num, by omega, HH⟩
                case measure => simp [intOf]; omega
          · have hil' : i = ls.length := by omega
            subst hil'
            go_wp2_with fail
            go_loopw [84] (fun v84 W => ∃ (i : Nat), v84 = .int .i64 (i : Int) ∧ i ≤ ls.length ∧ Aside0 (OwnS (fun _ => False) [netA g (ls.drop i) 5000] w W)) (fun v84 _ => ls.length - (intOf v84).toNat)
            case atStart => exact ⟨0, rfl, by omega, ⟨by have := HH.out.take 1; simpa using this⟩⟩
            case round =>
              clear HH
              obtain ⟨i, rfl, hi, HH⟩ := hrel
              by_cases hil : i < ls.length
              · obtain ⟨ad, Al, cl, ea, hrb, hcl, q0, q1, q2, q3, q4⟩ := at_Lt HR.out i hil
                have k0 := pw_cell_below (below_frm (OwnS.frm HH.out)) q0
                have k1 := pw_cell_below (below_frm (OwnS.frm HH.out)) q1
                have k2 := pw_cell_below (below_frm (OwnS.frm HH.out)) q2
                have k3 := pw_cell_below (below_frm (OwnS.frm HH.out)) q3
                have k4 := pw_cell_below (below_frm (OwnS.frm HH.out)) q4
                clear q0 q1 q2 q3 q4
                have hbl := HLB.out ls[i] (List.getElem_mem _)
                have HD0 : Aside0 (0 < (ls.drop i).length) := ⟨by rw [List.length_drop]; omega⟩
                have HDL : Aside0 ((ls.drop i).length ≤ 1000000) := ⟨by rw [List.length_drop]; omega⟩
                have hd0 : (ls.drop i)[0]'HD0.out = ls[i] := by simp
                have HDB : Aside0 (((ls.drop i)[0]'HD0.out).body.length ≤ 1000000) := ⟨by rw [hd0]; exact hbl⟩
                have HDE : Aside0 ((ls.drop i).eraseIdx 0 = ls.drop (i + 1)) := ⟨by rw [List.eraseIdx_zero, List.tail_drop]⟩
                obtain ⟨x, hx⟩ : ∃ x, ls[i] = x := ⟨_, rfl⟩
                have HDX : Aside0 ((ls.drop i)[0]'HD0.out = x) := ⟨hd0.trans hx⟩
                rw [hx] at k0 k1 k2 k3 k4 hrb hcl hbl
                clear hx hd0
                obtain ⟨f, d, s, bd, tg⟩ := x
                dsimp only at *
                have HRb := Aside0.mk hrb
                clear hrb
                have gi0 : 0 ≤ (i : Int) := by omega
                have gi1 : (i : Int) < (ls.length : Int) := by omega
                cases ea
                go_wp2_with (first
        | ((with_reducible refine gate_dst (N := 10) rfl ?_); refine evS_box (S := fun _ => False) (w0 := w) (As := [netA g (ls.drop i) 5000]) ?_ rfl (cs := #[.int .u8 0, .int .u8 0, .int .u32 0, .slice none 0 0, .string ⟨#[]⟩]) (T := 40) ?_ ?_; (focus first | (with_reducible exact HH.out) | ((repeat (first | (with_reducible refine OwnS.alloc ?_ _) | (with_reducible refine OwnS.drewN ?_ _) | (with_reducible refine OwnS.drew ?_))); (with_reducible exact HH.out))); (focus first | (go_simp; done) | (go_simp; rfl)); intro g1 w61 he hh; clear he; have HHx : Aside0 (OwnS (fun _ => False) [netA g (ls.drop i) 5000, Sep.blk g1 #[.int .u8 0, .int .u8 0, .int .u32 0, .slice none 0 0, .string ⟨#[]⟩] 40] w w61) := ⟨hh⟩; clear HH; have HH := HHx; clear HHx; clear hh)
        | ((with_reducible refine gate_ (.store 40 (.tmp 10) (.tmp 87)) rfl ?_); refine evS_store (S := fun _ => False) (w0 := w) (As := [netA g (ls.drop i) 5000, Sep.blk g1 #[.int .u8 0, .int .u8 0, .int .u32 0, .slice none 0 0, .string ⟨#[]⟩] 40]) ?_ 1 rfl rfl rfl rfl (by rfl) (.agg #[.int .u8 f, .int .u8 d, .int .u32 s, .slice Al bd.length cl, .string tg]) (by rfl) [.int .u8 f, .int .u8 d, .int .u32 s, .slice Al bd.length cl, .string tg] (by rfl) (by kernel_rfl) (by simp) (by simp [Value.oneCell']) ?_; (focus first | (with_reducible exact HH.out) | ((repeat (first | (with_reducible refine OwnS.alloc ?_ _) | (with_reducible refine OwnS.drewN ?_ _) | (with_reducible refine OwnS.drew ?_))); (with_reducible exact HH.out))); intro w62 hh; have HHx : Aside0 (OwnS (fun _ => False) [netA g (ls.drop i) 5000, Sep.blk g1 #[.int .u8 f, .int .u8 d, .int .u32 s, .slice Al bd.length cl, .string tg] 40] w w62) := ⟨hh⟩; clear HH; have HH := HHx; clear HHx; clear hh)
        | (go_at_call 16; refine ownS_call (S := fun _ => False) (w0 := w) (As := [netA g (ls.drop i) 5000, Sep.blk g1 #[.int .u8 f, .int .u8 d, .int .u32 s, .slice Al bd.length cl, .string tg] 40]) ?_ ?_; (focus first | (with_reducible exact HH.out) | ((repeat (first | (with_reducible refine OwnS.alloc ?_ _) | (with_reducible refine OwnS.drewN ?_ _) | (with_reducible refine OwnS.drew ?_))); (with_reducible exact HH.out))); intro ht; refine (look_L (l := ls.drop i) (ht.get 0 rfl) (by decide) 0 HD0.out HDB.out HDL.out HDX.out).mono ?_; rintro e w63 ⟨A4, c4, rfl, ho⟩; have HHx : Aside0 (OwnS (fun _ => False) [netA g (ls.drop i) 5000, Sep.blk g1 #[.int .u8 f, .int .u8 d, .int .u32 s, .slice Al bd.length cl, .string tg] 40, Sep.row kU 5 (.slice A4 bd.length c4) bd] w w63) := ⟨OwnS.joinL (S := fun _ => False) (w0 := w) (As := [netA g (ls.drop i) 5000, Sep.blk g1 #[.int .u8 f, .int .u8 d, .int .u32 s, .slice Al bd.length cl, .string tg] 40]) (Bs := [Sep.row kU 5 (.slice A4 bd.length c4) bd]) ht ho⟩; clear HH; have HH := HHx; clear HHx; clear ho; clear ht)
        | ((with_reducible refine gate_dst (N := 11) rfl ?_); refine evS_box (S := fun _ => False) (w0 := w) (As := [netA g (ls.drop i) 5000, Sep.blk g1 #[.int .u8 f, .int .u8 d, .int .u32 s, .slice Al bd.length cl, .string tg] 40, Sep.row kU 5 (.slice A4 bd.length c4) bd]) ?_ rfl (cs := #[.int .u8 0, .int .u8 0, .int .u32 0, .slice none 0 0, .string ⟨#[]⟩]) (T := 36) ?_ ?_; (focus first | (with_reducible exact HH.out) | ((repeat (first | (with_reducible refine OwnS.alloc ?_ _) | (with_reducible refine OwnS.drewN ?_ _) | (with_reducible refine OwnS.drew ?_))); (with_reducible exact HH.out))); (focus first | (go_simp; done) | (go_simp; rfl)); intro g2 w64 he hh; clear he; have HHx : Aside0 (OwnS (fun _ => False) [netA g (ls.drop i) 5000, Sep.blk g1 #[.int .u8 f, .int .u8 d, .int .u32 s, .slice Al bd.length cl, .string tg] 40, Sep.row kU 5 (.slice A4 bd.length c4) bd, Sep.blk g2 #[.int .u8 0, .int .u8 0, .int .u32 0, .slice none 0 0, .string ⟨#[]⟩] 36] w w64) := ⟨hh⟩; clear HH; have HH := HHx; clear HHx; clear hh)
        | ((with_reducible refine gate_ (.store 36 (.tmp 11) (.tmp 91)) rfl ?_); refine evS_store (S := fun _ => False) (w0 := w) (As := [netA g (ls.drop i) 5000, Sep.blk g1 #[.int .u8 f, .int .u8 d, .int .u32 s, .slice Al bd.length cl, .string tg] 40, Sep.row kU 5 (.slice A4 bd.length c4) bd, Sep.blk g2 #[.int .u8 0, .int .u8 0, .int .u32 0, .slice none 0 0, .string ⟨#[]⟩] 36]) ?_ 3 rfl rfl rfl rfl (by rfl) (.agg #[.int .u8 f, .int .u8 d, .int .u32 s, .slice A4 bd.length c4, .string tg]) (by rfl) [.int .u8 f, .int .u8 d, .int .u32 s, .slice A4 bd.length c4, .string tg] (by rfl) (by kernel_rfl) (by simp) (by simp [Value.oneCell']) ?_; (focus first | (with_reducible exact HH.out) | ((repeat (first | (with_reducible refine OwnS.alloc ?_ _) | (with_reducible refine OwnS.drewN ?_ _) | (with_reducible refine OwnS.drew ?_))); (with_reducible exact HH.out))); intro w65 hh; have HHx : Aside0 (OwnS (fun _ => False) [netA g (ls.drop i) 5000, Sep.blk g1 #[.int .u8 f, .int .u8 d, .int .u32 s, .slice Al bd.length cl, .string tg] 40, Sep.row kU 5 (.slice A4 bd.length c4) bd, Sep.blk g2 #[.int .u8 f, .int .u8 d, .int .u32 s, .slice A4 bd.length c4, .string tg] 36] w w65) := ⟨hh⟩; clear HH; have HH := HHx; clear HHx; clear hh)
        | ((with_reducible refine gate_ (.load 33 (.tmp 95)) rfl ?_); refine ev_cell (blk_cell (OwnS.blk (S := fun _ => False) (w0 := w) (As := [netA g (ls.drop i) 5000, Sep.blk g1 #[.int .u8 f, .int .u8 d, .int .u32 s, .slice Al bd.length cl, .string tg] 40, Sep.row kU 5 (.slice A4 bd.length c4) bd, Sep.blk g2 #[.int .u8 f, .int .u8 d, .int .u32 s, .slice A4 bd.length c4, .string tg] 36]) ?_ 3 rfl) 3) rfl rfl (by rfl) Try.underlying33 rfl ?_; (focus first | (with_reducible exact HH.out) | ((repeat (first | (with_reducible refine OwnS.alloc ?_ _) | (with_reducible refine OwnS.drewN ?_ _) | (with_reducible refine OwnS.drew ?_))); (with_reducible exact HH.out))))
        | fail
        | fail)
                go_loopw [98] (fun v98 W => ∃ (k : Nat) (bd' : List Int), v98 = .int .i64 (k : Int) ∧ k ≤ bd.length ∧ bd'.length = bd.length ∧ Aside0 (OwnS (fun _ => False) [netA g (ls.drop i) 5000, Sep.blk g1 #[.int .u8 f, .int .u8 d, .int .u32 s, .slice Al bd.length cl, .string tg] 40, Sep.row kU 5 (.slice A4 bd.length c4) bd', Sep.blk g2 #[.int .u8 f, .int .u8 d, .int .u32 s, .slice A4 bd.length c4, .string tg] 36] w W)) (fun v98 _ => bd.length - (intOf v98).toNat)
                case atStart => exact ⟨0, bd, rfl, by omega, rfl, HH⟩
                case round =>
                  clear HH
                  obtain ⟨k, bd', rfl, hk, hbd, HH⟩ := hrel
                  have fy3 : wr.cell? ⟨g2, 3, none⟩ = some (.slice A4 bd.length c4) := blk_cell (OwnS.blk (S := fun _ => False) (w0 := w) (As := [netA g (ls.drop i) 5000, Sep.blk g1 #[.int .u8 f, .int .u8 d, .int .u32 s, .slice Al bd.length cl, .string tg] 40, Sep.row kU 5 (.slice A4 bd.length c4) bd', Sep.blk g2 #[.int .u8 f, .int .u8 d, .int .u32 s, .slice A4 bd.length c4, .string tg] 36]) HH.out 3 rfl) 3
                  by_cases hkl : k < bd.length
                  · obtain ⟨gb, eA, hle, _⟩ := row_front (OwnS.row HH.out 2 rfl) (by omega)
                    subst eA
                    have hUC := OwnS.get HH.out 2 rfl
                    obtain ⟨hc1, hz1⟩ := Kd.R_cell (enc := Value.int .u8) (h1 := fun _ => rfl) (0 : Int) (show (Kd.scalar (Value.int .u8) (fun _ => rfl)).R _ _ 0 _ (.slice (some ⟨gb, 0, none⟩) bd'.length c4) bd' from hbd ▸ hUC) (k : Int) (by omega) (by omega)
                    simp only [Int.toNat_natCast] at hc1 hz1
                    clear hUC
                    have gk0 : 0 ≤ (k : Int) := by omega
                    have gk1 : (k : Int) < (bd.length : Int) := by omega
                    go_wp2_with fail
                    go_roundw
                    case rel => exact ⟨k + 1, bd'.set k 0, by go_num, by omega, by simp [hbd], ⟨putU HH.out 2 rfl k 0⟩⟩
                    case measure => simp [intOf]; omega
                  · have hkl' : k = bd.length := by omega
                    subst hkl'
                    go_wp2_with (first
          | (go_at_call 11; refine ownS_call (S := fun _ => False) (w0 := w) (As := [netA g (ls.drop i) 5000, Sep.blk g1 #[.int .u8 f, .int .u8 d, .int .u32 s, .slice Al bd.length cl, .string tg] 40, Sep.row kU 5 (.slice A4 bd.length c4) bd', Sep.blk g2 #[.int .u8 f, .int .u8 d, .int .u32 s, .slice A4 bd.length c4, .string tg] 36]) ?_ ?_; (focus first | (with_reducible exact HH.out) | ((repeat (first | (with_reducible refine OwnS.alloc ?_ _) | (with_reducible refine OwnS.drewN ?_ _) | (with_reducible refine OwnS.drew ?_))); (with_reducible exact HH.out))); intro ht; refine ownS_meth (S := fun _ => False) (w0 := w) (As := [netA g (ls.drop i) 5000, Sep.blk g1 #[.int .u8 f, .int .u8 d, .int .u32 s, .slice Al bd.length cl, .string tg] 40, Sep.row kU 5 (.slice A4 bd.length c4) bd', Sep.blk g2 #[.int .u8 f, .int .u8 d, .int .u32 s, .slice A4 bd.length c4, .string tg] 36]) ht 0 rfl ?_; intro T hT hTS hput; refine (take_L (l := ls.drop i) (L := ls.drop (i + 1)) T _ g 5000 hT (by decide) 0 HD0.out HDB.out HDL.out HDX.out HDE.out).mono ?_; rintro e w91 ⟨A5, c5, rfl, ho⟩; have HHx : Aside0 (OwnS (fun _ => False) [netA g (ls.drop (i + 1)) 5000, Sep.blk g1 #[.int .u8 f, .int .u8 d, .int .u32 s, .slice Al bd.length cl, .string tg] 40, Sep.row kU 5 (.slice A4 bd.length c4) bd', Sep.blk g2 #[.int .u8 f, .int .u8 d, .int .u32 s, .slice A4 bd.length c4, .string tg] 36, Sep.row kU 5 (.slice A5 bd.length c5) bd] w w91) := ⟨hput (netA g (ls.drop (i + 1)) 5000) [Sep.row kU 5 (.slice A5 bd.length c5) bd] w91 ho⟩; clear HH; have HH := HHx; clear HHx; clear ho hput hT hTS ht)
          | ((with_reducible refine gate_dst (N := 14) rfl ?_); refine evS_box (S := fun _ => False) (w0 := w) (As := [netA g (ls.drop (i + 1)) 5000, Sep.blk g1 #[.int .u8 f, .int .u8 d, .int .u32 s, .slice Al bd.length cl, .string tg] 40, Sep.row kU 5 (.slice A4 bd.length c4) bd', Sep.blk g2 #[.int .u8 f, .int .u8 d, .int .u32 s, .slice A4 bd.length c4, .string tg] 36, Sep.row kU 5 (.slice A5 bd.length c5) bd]) ?_ rfl (cs := #[.int .u8 0, .int .u8 0, .int .u32 0, .slice none 0 0, .string ⟨#[]⟩]) (T := 36) ?_ ?_; (focus first | (with_reducible exact HH.out) | ((repeat (first | (with_reducible refine OwnS.alloc ?_ _) | (with_reducible refine OwnS.drewN ?_ _) | (with_reducible refine OwnS.drew ?_))); (with_reducible exact HH.out))); (focus first | (go_simp; done) | (go_simp; rfl)); intro g3 w92 he hh; clear he; have HHx : Aside0 (OwnS (fun _ => False) [netA g (ls.drop (i + 1)) 5000, Sep.blk g1 #[.int .u8 f, .int .u8 d, .int .u32 s, .slice Al bd.length cl, .string tg] 40, Sep.row kU 5 (.slice A4 bd.length c4) bd', Sep.blk g2 #[.int .u8 f, .int .u8 d, .int .u32 s, .slice A4 bd.length c4, .string tg] 36, Sep.row kU 5 (.slice A5 bd.length c5) bd, Sep.blk g3 #[.int .u8 0, .int .u8 0, .int .u32 0, .slice none 0 0, .string ⟨#[]⟩] 36] w w92) := ⟨hh⟩; clear HH; have HH := HHx; clear HHx; clear hh)
          | ((with_reducible refine gate_ (.store 36 (.tmp 14) (.tmp 109)) rfl ?_); refine evS_store (S := fun _ => False) (w0 := w) (As := [netA g (ls.drop (i + 1)) 5000, Sep.blk g1 #[.int .u8 f, .int .u8 d, .int .u32 s, .slice Al bd.length cl, .string tg] 40, Sep.row kU 5 (.slice A4 bd.length c4) bd', Sep.blk g2 #[.int .u8 f, .int .u8 d, .int .u32 s, .slice A4 bd.length c4, .string tg] 36, Sep.row kU 5 (.slice A5 bd.length c5) bd, Sep.blk g3 #[.int .u8 0, .int .u8 0, .int .u32 0, .slice none 0 0, .string ⟨#[]⟩] 36]) ?_ 5 rfl rfl rfl rfl (by rfl) (.agg #[.int .u8 f, .int .u8 d, .int .u32 s, .slice A5 bd.length c5, .string tg]) (by rfl) [.int .u8 f, .int .u8 d, .int .u32 s, .slice A5 bd.length c5, .string tg] (by rfl) (by kernel_rfl) (by simp) (by simp [Value.oneCell']) ?_; (focus first | (with_reducible exact HH.out) | ((repeat (first | (with_reducible refine OwnS.alloc ?_ _) | (with_reducible refine OwnS.drewN ?_ _) | (with_reducible refine OwnS.drew ?_))); (with_reducible exact HH.out))); intro w93 hh; have HHx : Aside0 (OwnS (fun _ => False) [netA g (ls.drop (i + 1)) 5000, Sep.blk g1 #[.int .u8 f, .int .u8 d, .int .u32 s, .slice Al bd.length cl, .string tg] 40, Sep.row kU 5 (.slice A4 bd.length c4) bd', Sep.blk g2 #[.int .u8 f, .int .u8 d, .int .u32 s, .slice A4 bd.length c4, .string tg] 36, Sep.row kU 5 (.slice A5 bd.length c5) bd, Sep.blk g3 #[.int .u8 f, .int .u8 d, .int .u32 s, .slice A5 bd.length c5, .string tg] 36] w w93) := ⟨hh⟩; clear HH; have HH := HHx; clear HHx; clear hh; have fc1 : w93.cell? ⟨g3, 0, none⟩ = some (.int .u8 f) := blk_cell (OwnS.blk (S := fun _ => False) (w0 := w) (As := [netA g (ls.drop (i + 1)) 5000, Sep.blk g1 #[.int .u8 f, .int .u8 d, .int .u32 s, .slice Al bd.length cl, .string tg] 40, Sep.row kU 5 (.slice A4 bd.length c4) bd', Sep.blk g2 #[.int .u8 f, .int .u8 d, .int .u32 s, .slice A4 bd.length c4, .string tg] 36, Sep.row kU 5 (.slice A5 bd.length c5) bd, Sep.blk g3 #[.int .u8 f, .int .u8 d, .int .u32 s, .slice A5 bd.length c5, .string tg] 36]) HH.out 5 rfl) 0; have fc2 : w93.cell? ⟨g3, 1, none⟩ = some (.int .u8 d) := blk_cell (OwnS.blk (S := fun _ => False) (w0 := w) (As := [netA g (ls.drop (i + 1)) 5000, Sep.blk g1 #[.int .u8 f, .int .u8 d, .int .u32 s, .slice Al bd.length cl, .string tg] 40, Sep.row kU 5 (.slice A4 bd.length c4) bd', Sep.blk g2 #[.int .u8 f, .int .u8 d, .int .u32 s, .slice A4 bd.length c4, .string tg] 36, Sep.row kU 5 (.slice A5 bd.length c5) bd, Sep.blk g3 #[.int .u8 f, .int .u8 d, .int .u32 s, .slice A5 bd.length c5, .string tg] 36]) HH.out 5 rfl) 1; have fc3 : w93.cell? ⟨g3, 2, none⟩ = some (.int .u32 s) := blk_cell (OwnS.blk (S := fun _ => False) (w0 := w) (As := [netA g (ls.drop (i + 1)) 5000, Sep.blk g1 #[.int .u8 f, .int .u8 d, .int .u32 s, .slice Al bd.length cl, .string tg] 40, Sep.row kU 5 (.slice A4 bd.length c4) bd', Sep.blk g2 #[.int .u8 f, .int .u8 d, .int .u32 s, .slice A4 bd.length c4, .string tg] 36, Sep.row kU 5 (.slice A5 bd.length c5) bd, Sep.blk g3 #[.int .u8 f, .int .u8 d, .int .u32 s, .slice A5 bd.length c5, .string tg] 36]) HH.out 5 rfl) 2; have fc4 : w93.cell? ⟨g3, 3, none⟩ = some (.slice A5 bd.length c5) := blk_cell (OwnS.blk (S := fun _ => False) (w0 := w) (As := [netA g (ls.drop (i + 1)) 5000, Sep.blk g1 #[.int .u8 f, .int .u8 d, .int .u32 s, .slice Al bd.length cl, .string tg] 40, Sep.row kU 5 (.slice A4 bd.length c4) bd', Sep.blk g2 #[.int .u8 f, .int .u8 d, .int .u32 s, .slice A4 bd.length c4, .string tg] 36, Sep.row kU 5 (.slice A5 bd.length c5) bd, Sep.blk g3 #[.int .u8 f, .int .u8 d, .int .u32 s, .slice A5 bd.length c5, .string tg] 36]) HH.out 5 rfl) 3; have fc5 : w93.cell? ⟨g3, 4, none⟩ = some (.string tg) := blk_cell (OwnS.blk (S := fun _ => False) (w0 := w) (As := [netA g (ls.drop (i + 1)) 5000, Sep.blk g1 #[.int .u8 f, .int .u8 d, .int .u32 s, .slice Al bd.length cl, .string tg] 40, Sep.row kU 5 (.slice A4 bd.length c4) bd', Sep.blk g2 #[.int .u8 f, .int .u8 d, .int .u32 s, .slice A4 bd.length c4, .string tg] 36, Sep.row kU 5 (.slice A5 bd.length c5) bd, Sep.blk g3 #[.int .u8 f, .int .u8 d, .int .u32 s, .slice A5 bd.length c5, .string tg] 36]) HH.out 5 rfl) 4; have fc6 : w93.cell? ⟨g1, 0, none⟩ = some (.int .u8 f) := blk_cell (OwnS.blk (S := fun _ => False) (w0 := w) (As := [netA g (ls.drop (i + 1)) 5000, Sep.blk g1 #[.int .u8 f, .int .u8 d, .int .u32 s, .slice Al bd.length cl, .string tg] 40, Sep.row kU 5 (.slice A4 bd.length c4) bd', Sep.blk g2 #[.int .u8 f, .int .u8 d, .int .u32 s, .slice A4 bd.length c4, .string tg] 36, Sep.row kU 5 (.slice A5 bd.length c5) bd, Sep.blk g3 #[.int .u8 f, .int .u8 d, .int .u32 s, .slice A5 bd.length c5, .string tg] 36]) HH.out 1 rfl) 0; have fc7 : w93.cell? ⟨g1, 1, none⟩ = some (.int .u8 d) := blk_cell (OwnS.blk (S := fun _ => False) (w0 := w) (As := [netA g (ls.drop (i + 1)) 5000, Sep.blk g1 #[.int .u8 f, .int .u8 d, .int .u32 s, .slice Al bd.length cl, .string tg] 40, Sep.row kU 5 (.slice A4 bd.length c4) bd', Sep.blk g2 #[.int .u8 f, .int .u8 d, .int .u32 s, .slice A4 bd.length c4, .string tg] 36, Sep.row kU 5 (.slice A5 bd.length c5) bd, Sep.blk g3 #[.int .u8 f, .int .u8 d, .int .u32 s, .slice A5 bd.length c5, .string tg] 36]) HH.out 1 rfl) 1; have fc8 : w93.cell? ⟨g1, 2, none⟩ = some (.int .u32 s) := blk_cell (OwnS.blk (S := fun _ => False) (w0 := w) (As := [netA g (ls.drop (i + 1)) 5000, Sep.blk g1 #[.int .u8 f, .int .u8 d, .int .u32 s, .slice Al bd.length cl, .string tg] 40, Sep.row kU 5 (.slice A4 bd.length c4) bd', Sep.blk g2 #[.int .u8 f, .int .u8 d, .int .u32 s, .slice A4 bd.length c4, .string tg] 36, Sep.row kU 5 (.slice A5 bd.length c5) bd, Sep.blk g3 #[.int .u8 f, .int .u8 d, .int .u32 s, .slice A5 bd.length c5, .string tg] 36]) HH.out 1 rfl) 2; have fc9 : w93.cell? ⟨g1, 3, none⟩ = some (.slice Al bd.length cl) := blk_cell (OwnS.blk (S := fun _ => False) (w0 := w) (As := [netA g (ls.drop (i + 1)) 5000, Sep.blk g1 #[.int .u8 f, .int .u8 d, .int .u32 s, .slice Al bd.length cl, .string tg] 40, Sep.row kU 5 (.slice A4 bd.length c4) bd', Sep.blk g2 #[.int .u8 f, .int .u8 d, .int .u32 s, .slice A4 bd.length c4, .string tg] 36, Sep.row kU 5 (.slice A5 bd.length c5) bd, Sep.blk g3 #[.int .u8 f, .int .u8 d, .int .u32 s, .slice A5 bd.length c5, .string tg] 36]) HH.out 1 rfl) 3; have fc10 : w93.cell? ⟨g1, 4, none⟩ = some (.string tg) := blk_cell (OwnS.blk (S := fun _ => False) (w0 := w) (As := [netA g (ls.drop (i + 1)) 5000, Sep.blk g1 #[.int .u8 f, .int .u8 d, .int .u32 s, .slice Al bd.length cl, .string tg] 40, Sep.row kU 5 (.slice A4 bd.length c4) bd', Sep.blk g2 #[.int .u8 f, .int .u8 d, .int .u32 s, .slice A4 bd.length c4, .string tg] 36, Sep.row kU 5 (.slice A5 bd.length c5) bd, Sep.blk g3 #[.int .u8 f, .int .u8 d, .int .u32 s, .slice A5 bd.length c5, .string tg] 36]) HH.out 1 rfl) 4)
          | (go_at_call 13; refine ownS_call (S := fun _ => False) (w0 := w) (As := [netA g (ls.drop (i + 1)) 5000, Sep.blk g1 #[.int .u8 f, .int .u8 d, .int .u32 s, .slice Al bd.length cl, .string tg] 40, Sep.row kU 5 (.slice A4 bd.length c4) bd', Sep.blk g2 #[.int .u8 f, .int .u8 d, .int .u32 s, .slice A4 bd.length c4, .string tg] 36, Sep.row kU 5 (.slice A5 bd.length c5) bd, Sep.blk g3 #[.int .u8 f, .int .u8 d, .int .u32 s, .slice A5 bd.length c5, .string tg] 36]) ?_ ?_; (focus first | (with_reducible exact HH.out) | ((repeat (first | (with_reducible refine OwnS.alloc ?_ _) | (with_reducible refine OwnS.drewN ?_ _) | (with_reducible refine OwnS.drew ?_))); (with_reducible exact HH.out))); intro ht; (with_reducible refine (rsame_c _ f d s bd tg A5 Al c5 cl ?_ ?_).mono ?_); (focus exact (OwnS.C ht 4 rfl)); (focus exact (Kd.C_below HRb.out (below_frm (OwnS.frm ht)))); rintro e w94 ⟨rfl, hb⟩; have HHx : Aside0 (OwnS (fun _ => False) [netA g (ls.drop (i + 1)) 5000, Sep.blk g1 #[.int .u8 f, .int .u8 d, .int .u32 s, .slice Al bd.length cl, .string tg] 40, Sep.row kU 5 (.slice A4 bd.length c4) bd', Sep.blk g2 #[.int .u8 f, .int .u8 d, .int .u32 s, .slice A4 bd.length c4, .string tg] 36, Sep.row kU 5 (.slice A5 bd.length c5) bd, Sep.blk g3 #[.int .u8 f, .int .u8 d, .int .u32 s, .slice A5 bd.length c5, .string tg] 36] w w94) := ⟨OwnS.step ht hb⟩; clear HH; have HH := HHx; clear HHx; clear hb; clear ht)
          | fail
          | fail)
                    go_roundw
                    case rel => exact ⟨i + 1, by go_num, by omega, ⟨(OwnS.picks (S := fun _ => False) (w0 := w) (As := [netA g (ls.drop (i + 1)) 5000, Sep.blk g1 #[.int .u8 f, .int .u8 d, .int .u32 s, .slice Al bd.length cl, .string tg] 40, Sep.row kU 5 (.slice A4 bd.length c4) bd', Sep.blk g2 #[.int .u8 f, .int .u8 d, .int .u32 s, .slice A4 bd.length c4, .string tg] 36, Sep.row kU 5 (.slice A5 bd.length c5) bd, Sep.blk g3 #[.int .u8 f, .int .u8 d, .int .u32 s, .slice A5 bd.length c5, .string tg] 36]) (by first | (with_reducible exact HH.out) | ((repeat (first | (with_reducible refine OwnS.alloc ?_ _) | (with_reducible refine OwnS.drewN ?_ _) | (with_reducible refine OwnS.drew ?_))); (with_reducible exact HH.out))) [0] (by decide))⟩⟩
                    case measure => simp [intOf]; omega
              · have hil' : i = ls.length := by omega
                subst hil'
                have HHx : Aside0 (OwnS (fun _ => False) [netA g [] 5000] w wr) := ⟨by have := HH.out; rwa [List.drop_length] at this⟩
                clear HH
                have HH := HHx
                clear HHx
                go_wp2_with (first
                  | (go_at_call 20; refine ownS_call (S := fun _ => False) (w0 := w) (As := [netA g [] 5000]) ?_ ?_; (focus first | (with_reducible exact HH.out) | ((repeat (first | (with_reducible refine OwnS.alloc ?_ _) | (with_reducible refine OwnS.drewN ?_ _) | (with_reducible refine OwnS.drew ?_))); (with_reducible exact HH.out))); intro ht; refine (len_at (l := ([] : List Lt)) (room := 5000) (ht.get 0 rfl) (by decide)).mono ?_; rintro e w61 ⟨rfl, hb⟩; have HHx : Aside0 (OwnS (fun _ => False) [netA g [] 5000] w w61) := ⟨OwnS.step ht hb⟩; clear HH; have HH := HHx; clear HHx; clear hb; clear ht)
                  | fail
                  | fail)
                go_ret
                exact ⟨by simp, below_frm (OwnS.frm HH.out)⟩
  · have hf : fewL ls = false := by simpa using hf
    go_enter Try.func4, Try.ntmps4
    go_wp2_with (first
      | (go_at_call 8; refine ownS_call (S := fun _ => False) (w0 := w) (As := []) ?_ ?_; (focus first | (with_reducible exact HH.out) | ((repeat (first | (with_reducible refine OwnS.alloc ?_ _) | (with_reducible refine OwnS.drewN ?_ _) | (with_reducible refine OwnS.drew ?_))); (with_reducible exact HH.out))); intro ht; refine (alive_calls _).mono ?_; rintro e w1 ⟨rfl, hb⟩; have HHx : Aside0 (OwnS (fun _ => False) [] w w1) := ⟨OwnS.step ht hb⟩; clear HH; have HH := HHx; clear HHx; clear hb; clear ht)
      | (go_at_call 9; refine ownS_call (S := fun _ => False) (w0 := w) (As := []) ?_ ?_; (focus first | (with_reducible exact HH.out) | ((repeat (first | (with_reducible refine OwnS.alloc ?_ _) | (with_reducible refine OwnS.drewN ?_ _) | (with_reducible refine OwnS.drew ?_))); (with_reducible exact HH.out))); intro ht; refine (new_calls _ 5000 (by decide)).mono ?_; rintro e w2 ⟨g, rfl, ho⟩; have ho := OwnS.own ho; have HHx : Aside0 (OwnS (fun _ => False) [netA g [] 5000] w w2) := ⟨OwnS.joinL (S := fun _ => False) (w0 := w) (As := []) (Bs := [netA g [] 5000]) ht ho⟩; clear HH; have HH := HHx; clear HHx; clear ho; clear ht)
      | (go_at_call 10; refine ownS_call (S := fun _ => False) (w0 := w) (As := [netA g [] 5000]) ?_ ?_; (focus first | (with_reducible exact HH.out) | ((repeat (first | (with_reducible refine OwnS.alloc ?_ _) | (with_reducible refine OwnS.drewN ?_ _) | (with_reducible refine OwnS.drew ?_))); (with_reducible exact HH.out))); intro ht; refine (few_calls w _ A c ls (Kd.C_below (kLc_of HR.out) (below_frm (OwnS.frm ht)))).mono ?_; rintro e w3 ⟨rfl, hb⟩; rw [hf]; have HHx : Aside0 (OwnS (fun _ => False) [netA g [] 5000] w w3) := ⟨OwnS.step ht hb⟩; clear HH; have HH := HHx; clear HHx; clear hb; clear ht)
      | fail
      | fail)
    go_ret
    exact ⟨rfl, below_frm (OwnS.frm HH.out)⟩
end Go.Proofs.Ytnlpfigdinnboaa.Net
