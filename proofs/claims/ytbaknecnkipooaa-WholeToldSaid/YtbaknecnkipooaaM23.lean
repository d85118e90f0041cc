/- hold.Put. -/
import Derived.Test.YtbaknecnkipooaaM22
namespace Go.Proofs.Ytbaknecnkipooaa.Hld
open Go Go.RowKit Go.Proofs.YtbaknecnkipooaaW.PrintWords Go.Proofs.Ytbaknecnkipooaa.Sep Go.Proofs.Ytbaknecnkipooaa.Obj
set_option linter.unusedVariables false
set_option linter.unusedSimpArgs false
open Go.Maps Go.Proofs.Ytbaknecnkipooaa.Mp
def itL (x : It) : List Value := .int .u8 x.frm :: .int .i64 x.seq :: .int .i64 x.kind :: (nums .u16 x.past ++ [.string x.text])
theorem loadG {P : Program} {ops : Array Oper} {rest : List Oper} {op : Oper} {a : Act} {w : World} {Q : Exit → Act → World → Prop} (hw : Region.wanted op (yielded ops a.tmps) = true) (ty : TypeId) (x : Operand) (ho : op.op = .load ty x)
    (b o : Nat) (hx : a.eval x = .pointer (some ⟨b, o, none⟩)) (cs : Array Value) (d : TypeDesc) (hc : w.rangeAt b o cs.toList)
    (hu : P.underlying ty = some d) (hd : d.isRow = true) (hi : (P.info? ty).map (·.size) = some cs.size)
    (h : wpList P ops Q rest (a.put op.dst (.agg cs)) w) : wpList P ops Q (op :: rest) a w := by
  simp only [wpList, hw, if_true]
  exact .inl (wp_load_mid ty x ho b o hx cs.toList d hc hu hd (by rw [hi]; simp) (by simpa using h))
theorem lit1 {ops : Array Oper} {rest : List Oper} {op : Oper} {a : Act} {w : World} {Q : Exit → Act → World → Prop} (hgd : op.guard = none) (x : It) (hx : x.past.length = 16) {p : Operand} (ho : op.op = .buildSlice 34 1 #[(0, p)]) (hp : a.eval p = .agg (itC x))
    (h : wpList Try.prog ops Q rest (a.put op.dst (.slice (some ⟨w.heap.size, 0, none⟩) 1 1)) (w.alloc (.cells (itC x) 56))) : wpList Try.prog ops Q (op :: rest) a w := by
  refine wpList_plain hgd fun K' hK' => ?_
  unfold Oper.wp
  simp [execOp, ho, hp, lit_it x hx w, Result.andThen]
  exact hK' _ _ h
set_option maxHeartbeats 4000000 in
set_option maxRecDepth 100000 in
theorem put_1 (w : World) (told : List Int) (A : Option Addr) (c : Nat) (l : List It) (x : It) (ht0 : okV told) (hx0 : okI x) (hr : kIt.C w A l.length l) (hq0 : ∀ y ∈ l, WI .i64 y.seq) (hl : l.length ≤ 1000000) (h1 : rightH told l = false) : Calls Try.prog 10 #[.agg (hoC told (.slice A l.length c)), .agg (itC x)] w (fun e w' => ∃ A' c' A2 c2, e = .returned (.tuple #[.agg (hoC (putH told l x).1.1 (.slice A' (putH told l x).1.2.1.length c')), .slice A2 (putH told l x).1.2.2.length c2, .int .i64 (putH told l x).2]) ∧ Own [Sep.row kIt 56 (.slice A' (putH told l x).1.2.1.length c') (putH told l x).1.2.1, Sep.row kIt 56 (.slice A2 (putH told l x).1.2.2.length c2) (putH told l x).1.2.2] w w') := by
  have HT := Aside0.mk ht0
  have HX := Aside0.mk hx0
  have HR := Aside0.mk hr
  have HQ := Aside0.mk hq0
  have HL := Aside0.mk hl
  clear ht0 hx0 hr hq0 hl
  have HH : Aside0 (OwnS (fun _ => False) [] w w) := ⟨OwnS.of_own (Own.start w)⟩
  have HRT := Aside0.mk h1
  have HPUT : Aside0 (putH told l x = ((told, l, []), 2)) := ⟨by unfold putH; rw [if_pos (.inl h1)]⟩
  clear h1
  go_enter Try.func10, Try.ntmps10
  go_wp2_with (first
    | ((with_reducible refine gate_dst (N := 2) rfl ?_); refine evS_box (oh HH) rfl (cs := hoC told (.slice A l.length c)) (T := 36) ?_ ?_; (focus first | (go_simp; done) | (go_simp; rfl)); intro g1 w1 he hh; clear he; replace HH : Aside0 (OwnS (fun _ => False) [Sep.blk g1 (hoC told (.slice A l.length c)) 36] w w1) := ⟨hh⟩; clear hh)
    | ((with_reducible refine gate_dst (N := 3) rfl ?_); refine evS_box (oh HH) rfl (cs := itC x) (T := 56) ?_ ?_; (focus first | (go_simp; done) | (go_simp; rfl)); intro g2 w2 he hh; clear he; replace HH : Aside0 (OwnS (fun _ => False) [Sep.blk g1 (hoC told (.slice A l.length c)) 36, Sep.blk g2 (itC x) 56] w w2) := ⟨hh⟩; clear hh)
    | ((with_reducible refine gate_dst (N := 4) rfl ?_); refine evS_box (oh HH) rfl (cs := hoC (List.replicate 16 (0 : Int)) (.slice none 0 0)) (T := 36) ?_ ?_; (focus first | (go_simp; done) | (go_simp; rfl)); intro g3 w3 he hh; clear he; replace HH : Aside0 (OwnS (fun _ => False) [Sep.blk g1 (hoC told (.slice A l.length c)) 36, Sep.blk g2 (itC x) 56, Sep.blk g3 (hoC (List.replicate 16 (0 : Int)) (.slice none 0 0)) 36] w w3) := ⟨hh⟩; clear hh)
    | ((with_reducible refine gate_ (.load 34 (.tmp 11)) rfl ?_); refine ev_cell (v := .slice A l.length c) ((blk_cell (OwnS.blk (oh HH) 0 rfl) 16).trans (hoC_last _ _ HT.out.1)) rfl rfl (by rfl) Try.underlying34 rfl ?_)
    | (go_at_call 26; refine ownS_call (oh HH) ?_; intro ht; refine (clone_calls A c l _ ?_ HL.out).mono ?_; (focus exact Kd.C_below HR.out (below_frm (OwnS.frm ht))); rintro e w4 ⟨A1, c1, rfl, ho⟩; replace HH : Aside0 (OwnS (fun _ => False) [Sep.blk g1 (hoC told (.slice A l.length c)) 36, Sep.blk g2 (itC x) 56, Sep.blk g3 (hoC (List.replicate 16 (0 : Int)) (.slice none 0 0)) 36, Sep.row kIt 56 (.slice A1 l.length c1) l] w w4) := ⟨OwnS.joinL (Bs := [Sep.row kIt 56 (.slice A1 l.length c1) l]) ht ho⟩; clear ho; clear ht)
    | ((with_reducible refine gate_ (.store 34 (.tmp 14) (.tmp 13)) rfl ?_); refine evS_storeA (oh HH) 0 rfl rfl rfl rfl (by rfl) (.slice A1 l.length c1) (by rfl) (#[.slice A1 l.length c1]) (by rfl) 1 17 rfl (hoC_size _ _ HT.out.1) (by kernel_rfl) (by decide) (by simp [Value.oneCell']) (hoC told (.slice A1 l.length c1)) (hoC_slice _ _ _ HT.out.1) ?_; intro w5 hh; replace HH : Aside0 (OwnS (fun _ => False) [Sep.blk g1 (hoC told (.slice A1 l.length c1)) 36, Sep.blk g2 (itC x) 56, Sep.blk g3 (hoC (List.replicate 16 (0 : Int)) (.slice none 0 0)) 36, Sep.row kIt 56 (.slice A1 l.length c1) l] w w5) := ⟨hh⟩; clear hh)
    | ((with_reducible refine gate_ (.load 36 (.tmp 2)) rfl ?_); refine ev_loadA (OwnS.blk (oh HH) 0 rfl) 0 17 (hoC told (.slice A1 l.length c1)) (all_of _ 17 (hoC_size _ _ HT.out.1)) rfl rfl (by rfl) Try.underlying36 rfl (hoC_size _ _ HT.out.1) (by kernel_rfl) ?_)
    | (go_at_call 28; refine ownS_call (oh HH) ?_; intro ht; refine (right_h _ told A1 c1 l HT.out ?_ HQ.out).mono ?_; (focus exact OwnS.C ht 3 rfl); rintro e w6 ⟨rfl, hb⟩; rw [HRT.out]; replace HH : Aside0 (OwnS (fun _ => False) [Sep.blk g1 (hoC told (.slice A1 l.length c1)) 36, Sep.blk g2 (itC x) 56, Sep.blk g3 (hoC (List.replicate 16 (0 : Int)) (.slice none 0 0)) 36, Sep.row kIt 56 (.slice A1 l.length c1) l] w w6) := ⟨OwnS.step ht hb⟩; clear hb; clear ht)
    | ((with_reducible refine gate_ (.load 36 (.tmp 2)) rfl ?_); refine ev_loadA (OwnS.blk (oh HH) 0 rfl) 0 17 (hoC told (.slice A1 l.length c1)) (all_of _ 17 (hoC_size _ _ HT.out.1)) rfl rfl (by rfl) Try.underlying36 rfl (hoC_size _ _ HT.out.1) (by kernel_rfl) ?_)
    | ((with_reducible refine gate_ (.store 36 (.tmp 4) (.tmp 32)) rfl ?_); refine evS_storeA (oh HH) 2 rfl rfl rfl rfl (by rfl) (.agg (hoC told (.slice A1 l.length c1))) (by rfl) (hoC told (.slice A1 l.length c1)) (by rfl) 17 17 (hoC_size _ _ HT.out.1) (hoC_size _ _ (by rfl)) (by kernel_rfl) (by decide) (hoC_one _ _ rfl) (hoC told (.slice A1 l.length c1)) (put_all _ _ (by rw [(hoC_size _ _ HT.out.1), (hoC_size _ _ (by rfl))])) ?_; intro w7 hh; replace HH : Aside0 (OwnS (fun _ => False) [Sep.blk g1 (hoC told (.slice A1 l.length c1)) 36, Sep.blk g2 (itC x) 56, Sep.blk g3 (hoC told (.slice A1 l.length c1)) 36, Sep.row kIt 56 (.slice A1 l.length c1) l] w w7) := ⟨hh⟩; clear hh)
    | fail
    | fail)
  refine bodyPost_ret (v := .tuple #[.agg (hoC told (.slice A1 l.length c1)), .slice none 0 0, .int .i64 2]) (results_list (rs := [.cell 4 36, .tmp 5, .tmp 6]) (vs := [.agg (hoC told (.slice A1 l.length c1)), _, _]) rfl (by simp) (.cell g3 36 (hoC told (.slice A1 l.length c1)) (0, 0) _ rfl (OwnS.blk HH.out 2 rfl) Try.underlying36 rfl (by rw [(hoC_size _ _ HT.out.1)]; kernel_rfl) (.tmp (.tmp .nil)))) rfl ?_
  rw [HPUT.out]
  exact ⟨A1, c1, none, 0, rfl, Own.nil (OwnS.own (OwnS.picks HH.out [3] (by decide)))⟩
set_option maxHeartbeats 4000000 in
set_option maxRecDepth 100000 in
theorem put_2 (w : World) (told : List Int) (A : Option Addr) (c : Nat) (l : List It) (x : It) (ht0 : okV told) (hx0 : okI x) (hr : kIt.C w A l.length l) (hq0 : ∀ y ∈ l, WI .i64 y.seq) (hl : l.length ≤ 1000000) (h1 : rightH told l = true) (h2 : rightI x = false) : Calls Try.prog 10 #[.agg (hoC told (.slice A l.length c)), .agg (itC x)] w (fun e w' => ∃ A' c' A2 c2, e = .returned (.tuple #[.agg (hoC (putH told l x).1.1 (.slice A' (putH told l x).1.2.1.length c')), .slice A2 (putH told l x).1.2.2.length c2, .int .i64 (putH told l x).2]) ∧ Own [Sep.row kIt 56 (.slice A' (putH told l x).1.2.1.length c') (putH told l x).1.2.1, Sep.row kIt 56 (.slice A2 (putH told l x).1.2.2.length c2) (putH told l x).1.2.2] w w') := by
  have HT := Aside0.mk ht0
  have HX := Aside0.mk hx0
  have HR := Aside0.mk hr
  have HQ := Aside0.mk hq0
  have HL := Aside0.mk hl
  clear ht0 hx0 hr hq0 hl
  have HH : Aside0 (OwnS (fun _ => False) [] w w) := ⟨OwnS.of_own (Own.start w)⟩
  have HRT := Aside0.mk h1
  have HM := Aside0.mk h2
  have HPUT : Aside0 (putH told l x = ((told, l, []), 2)) := ⟨by unfold putH; rw [if_pos (.inr h2)]⟩
  clear h1 h2
  go_enter Try.func10, Try.ntmps10
  go_wp2_with (first
    | ((with_reducible refine gate_dst (N := 2) rfl ?_); refine evS_box (oh HH) rfl (cs := hoC told (.slice A l.length c)) (T := 36) ?_ ?_; (focus first | (go_simp; done) | (go_simp; rfl)); intro g1 w1 he hh; clear he; replace HH : Aside0 (OwnS (fun _ => False) [Sep.blk g1 (hoC told (.slice A l.length c)) 36] w w1) := ⟨hh⟩; clear hh)
    | ((with_reducible refine gate_dst (N := 3) rfl ?_); refine evS_box (oh HH) rfl (cs := itC x) (T := 56) ?_ ?_; (focus first | (go_simp; done) | (go_simp; rfl)); intro g2 w2 he hh; clear he; replace HH : Aside0 (OwnS (fun _ => False) [Sep.blk g1 (hoC told (.slice A l.length c)) 36, Sep.blk g2 (itC x) 56] w w2) := ⟨hh⟩; clear hh)
    | ((with_reducible refine gate_dst (N := 4) rfl ?_); refine evS_box (oh HH) rfl (cs := hoC (List.replicate 16 (0 : Int)) (.slice none 0 0)) (T := 36) ?_ ?_; (focus first | (go_simp; done) | (go_simp; rfl)); intro g3 w3 he hh; clear he; replace HH : Aside0 (OwnS (fun _ => False) [Sep.blk g1 (hoC told (.slice A l.length c)) 36, Sep.blk g2 (itC x) 56, Sep.blk g3 (hoC (List.replicate 16 (0 : Int)) (.slice none 0 0)) 36] w w3) := ⟨hh⟩; clear hh)
    | ((with_reducible refine gate_ (.load 34 (.tmp 11)) rfl ?_); refine ev_cell (v := .slice A l.length c) ((blk_cell (OwnS.blk (oh HH) 0 rfl) 16).trans (hoC_last _ _ HT.out.1)) rfl rfl (by rfl) Try.underlying34 rfl ?_)
    | (go_at_call 26; refine ownS_call (oh HH) ?_; intro ht; refine (clone_calls A c l _ ?_ HL.out).mono ?_; (focus exact Kd.C_below HR.out (below_frm (OwnS.frm ht))); rintro e w4 ⟨A1, c1, rfl, ho⟩; replace HH : Aside0 (OwnS (fun _ => False) [Sep.blk g1 (hoC told (.slice A l.length c)) 36, Sep.blk g2 (itC x) 56, Sep.blk g3 (hoC (List.replicate 16 (0 : Int)) (.slice none 0 0)) 36, Sep.row kIt 56 (.slice A1 l.length c1) l] w w4) := ⟨OwnS.joinL (Bs := [Sep.row kIt 56 (.slice A1 l.length c1) l]) ht ho⟩; clear ho; clear ht)
    | ((with_reducible refine gate_ (.store 34 (.tmp 14) (.tmp 13)) rfl ?_); refine evS_storeA (oh HH) 0 rfl rfl rfl rfl (by rfl) (.slice A1 l.length c1) (by rfl) (#[.slice A1 l.length c1]) (by rfl) 1 17 rfl (hoC_size _ _ HT.out.1) (by kernel_rfl) (by decide) (by simp [Value.oneCell']) (hoC told (.slice A1 l.length c1)) (hoC_slice _ _ _ HT.out.1) ?_; intro w5 hh; replace HH : Aside0 (OwnS (fun _ => False) [Sep.blk g1 (hoC told (.slice A1 l.length c1)) 36, Sep.blk g2 (itC x) 56, Sep.blk g3 (hoC (List.replicate 16 (0 : Int)) (.slice none 0 0)) 36, Sep.row kIt 56 (.slice A1 l.length c1) l] w w5) := ⟨hh⟩; clear hh)
    | ((with_reducible refine gate_ (.load 36 (.tmp 2)) rfl ?_); refine ev_loadA (OwnS.blk (oh HH) 0 rfl) 0 17 (hoC told (.slice A1 l.length c1)) (all_of _ 17 (hoC_size _ _ HT.out.1)) rfl rfl (by rfl) Try.underlying36 rfl (hoC_size _ _ HT.out.1) (by kernel_rfl) ?_)
    | (go_at_call 28; refine ownS_call (oh HH) ?_; intro ht; refine (right_h _ told A1 c1 l HT.out ?_ HQ.out).mono ?_; (focus exact OwnS.C ht 3 rfl); rintro e w6 ⟨rfl, hb⟩; rw [HRT.out]; replace HH : Aside0 (OwnS (fun _ => False) [Sep.blk g1 (hoC told (.slice A1 l.length c1)) 36, Sep.blk g2 (itC x) 56, Sep.blk g3 (hoC (List.replicate 16 (0 : Int)) (.slice none 0 0)) 36, Sep.row kIt 56 (.slice A1 l.length c1) l] w w6) := ⟨OwnS.step ht hb⟩; clear hb; clear ht)
    | ((with_reducible refine gate_dst (N := 28) rfl ?_); refine loadG (by rfl) _ _ rfl g2 0 rfl (itC x) _ ?_ Try.underlying56 rfl (by rw [itC_size _ HX.out.1.1]; kernel_rfl) ?_; (focus (refine range_it HX.out.1.1 (OwnS.blk (oh HH) 1 rfl))))
    | (go_at_call 29; refine ownS_call (oh HH) ?_; intro ht; refine (imay_calls _ x HX.out).mono ?_; rintro e w7 ⟨rfl, hb⟩; rw [HM.out]; replace HH : Aside0 (OwnS (fun _ => False) [Sep.blk g1 (hoC told (.slice A1 l.length c1)) 36, Sep.blk g2 (itC x) 56, Sep.blk g3 (hoC (List.replicate 16 (0 : Int)) (.slice none 0 0)) 36, Sep.row kIt 56 (.slice A1 l.length c1) l] w w7) := ⟨OwnS.step ht hb⟩; clear hb; clear ht)
    | ((with_reducible refine gate_ (.load 36 (.tmp 2)) rfl ?_); refine ev_loadA (OwnS.blk (oh HH) 0 rfl) 0 17 (hoC told (.slice A1 l.length c1)) (all_of _ 17 (hoC_size _ _ HT.out.1)) rfl rfl (by rfl) Try.underlying36 rfl (hoC_size _ _ HT.out.1) (by kernel_rfl) ?_)
    | ((with_reducible refine gate_ (.store 36 (.tmp 4) (.tmp 32)) rfl ?_); refine evS_storeA (oh HH) 2 rfl rfl rfl rfl (by rfl) (.agg (hoC told (.slice A1 l.length c1))) (by rfl) (hoC told (.slice A1 l.length c1)) (by rfl) 17 17 (hoC_size _ _ HT.out.1) (hoC_size _ _ (by rfl)) (by kernel_rfl) (by decide) (hoC_one _ _ rfl) (hoC told (.slice A1 l.length c1)) (put_all _ _ (by rw [(hoC_size _ _ HT.out.1), (hoC_size _ _ (by rfl))])) ?_; intro w8 hh; replace HH : Aside0 (OwnS (fun _ => False) [Sep.blk g1 (hoC told (.slice A1 l.length c1)) 36, Sep.blk g2 (itC x) 56, Sep.blk g3 (hoC told (.slice A1 l.length c1)) 36, Sep.row kIt 56 (.slice A1 l.length c1) l] w w8) := ⟨hh⟩; clear hh)
    | fail
    | fail)
  refine bodyPost_ret (v := .tuple #[.agg (hoC told (.slice A1 l.length c1)), .slice none 0 0, .int .i64 2]) (results_list (rs := [.cell 4 36, .tmp 5, .tmp 6]) (vs := [.agg (hoC told (.slice A1 l.length c1)), _, _]) rfl (by simp) (.cell g3 36 (hoC told (.slice A1 l.length c1)) (0, 0) _ rfl (OwnS.blk HH.out 2 rfl) Try.underlying36 rfl (by rw [(hoC_size _ _ HT.out.1)]; kernel_rfl) (.tmp (.tmp .nil)))) rfl ?_
  rw [HPUT.out]
  exact ⟨A1, c1, none, 0, rfl, Own.nil (OwnS.own (OwnS.picks HH.out [3] (by decide)))⟩
set_option maxHeartbeats 4000000 in
set_option maxRecDepth 100000 in
theorem put_3 (w : World) (told : List Int) (A : Option Addr) (c : Nat) (l : List It) (x : It) (ht0 : okV told) (hx0 : okI x) (hr : kIt.C w A l.length l) (hq0 : ∀ y ∈ l, WI .i64 y.seq) (hl : l.length ≤ 1000000) (h1 : rightH told l = true) (h2 : rightI x = true) (h3 : x.seq < ofT told x) : Calls Try.prog 10 #[.agg (hoC told (.slice A l.length c)), .agg (itC x)] w (fun e w' => ∃ A' c' A2 c2, e = .returned (.tuple #[.agg (hoC (putH told l x).1.1 (.slice A' (putH told l x).1.2.1.length c')), .slice A2 (putH told l x).1.2.2.length c2, .int .i64 (putH told l x).2]) ∧ Own [Sep.row kIt 56 (.slice A' (putH told l x).1.2.1.length c') (putH told l x).1.2.1, Sep.row kIt 56 (.slice A2 (putH told l x).1.2.2.length c2) (putH told l x).1.2.2] w w') := by
  have HT := Aside0.mk ht0
  have HX := Aside0.mk hx0
  have HR := Aside0.mk hr
  have HQ := Aside0.mk hq0
  have HL := Aside0.mk hl
  clear ht0 hx0 hr hq0 hl
  have HH : Aside0 (OwnS (fun _ => False) [] w w) := ⟨OwnS.of_own (Own.start w)⟩
  have hf0 : 0 ≤ x.frm := HX.out.2.1.1
  obtain ⟨f, hfx⟩ : ∃ f, x.frm = f := ⟨_, rfl⟩
  obtain ⟨q, hqx⟩ : ∃ q, x.seq = q := ⟨_, rfl⟩
  have HFX := Aside0.mk hfx
  have HQX := Aside0.mk hqx
  have hf16 : f < 16 := by
    have hm2 := h2
    unfold rightI rightB at hm2
    rw [Bool.and_eq_true, Bool.and_eq_true] at hm2
    rw [← hfx]
    exact of_decide_eq_true hm2.1.2
  rw [hfx] at hf0
  have HF : Aside0 (f.toNat < 16) := ⟨by omega⟩
  obtain ⟨n, hn⟩ : ∃ n, told.getD f.toNat 0 = n := ⟨_, rfl⟩
  have hr := okV_at HT.out f.toNat HF.out
  rw [hn] at hr
  have HN := Aside0.mk hn
  have hw := wrap_u16 hr.1 hr.2
  have hnn : 0 ≤ n := hr.1
  have hOF : ofT told x = n := by unfold ofT; rw [hfx, hn]
  have hRT0 : ¬ (rightH told l = false ∨ rightI x = false) := by rw [h1, h2]; simp
  have HRT := Aside0.mk h1
  have HM := Aside0.mk h2
  have hb1 : decide (q < n) = true := decide_eq_true (by rw [← hqx, ← hOF]; exact h3)
  have HPUT : Aside0 (putH told l x = ((told, l, []), 6)) := ⟨by unfold putH; rw [if_neg hRT0, if_pos (.inl h3)]⟩
  clear h1 h2 h3 hn hr hfx hqx hOF hRT0
  go_enter Try.func10, Try.ntmps10
  go_wp2_with (first
    | ((with_reducible refine gate_dst (N := 2) rfl ?_); refine evS_box (oh HH) rfl (cs := hoC told (.slice A l.length c)) (T := 36) ?_ ?_; (focus first | (go_simp; done) | (go_simp; rfl)); intro g1 w1 he hh; clear he; replace HH : Aside0 (OwnS (fun _ => False) [Sep.blk g1 (hoC told (.slice A l.length c)) 36] w w1) := ⟨hh⟩; clear hh)
    | ((with_reducible refine gate_dst (N := 3) rfl ?_); refine evS_box (oh HH) rfl (cs := itC x) (T := 56) ?_ ?_; (focus first | (go_simp; done) | (go_simp; rfl)); intro g2 w2 he hh; clear he; replace HH : Aside0 (OwnS (fun _ => False) [Sep.blk g1 (hoC told (.slice A l.length c)) 36, Sep.blk g2 (itC x) 56] w w2) := ⟨hh⟩; clear hh)
    | ((with_reducible refine gate_dst (N := 4) rfl ?_); refine evS_box (oh HH) rfl (cs := hoC (List.replicate 16 (0 : Int)) (.slice none 0 0)) (T := 36) ?_ ?_; (focus first | (go_simp; done) | (go_simp; rfl)); intro g3 w3 he hh; clear he; replace HH : Aside0 (OwnS (fun _ => False) [Sep.blk g1 (hoC told (.slice A l.length c)) 36, Sep.blk g2 (itC x) 56, Sep.blk g3 (hoC (List.replicate 16 (0 : Int)) (.slice none 0 0)) 36] w w3) := ⟨hh⟩; clear hh)
    | ((with_reducible refine gate_ (.load 34 (.tmp 11)) rfl ?_); refine ev_cell (v := .slice A l.length c) ((blk_cell (OwnS.blk (oh HH) 0 rfl) 16).trans (hoC_last _ _ HT.out.1)) rfl rfl (by rfl) Try.underlying34 rfl ?_)
    | (go_at_call 26; refine ownS_call (oh HH) ?_; intro ht; refine (clone_calls A c l _ ?_ HL.out).mono ?_; (focus exact Kd.C_below HR.out (below_frm (OwnS.frm ht))); rintro e w4 ⟨A1, c1, rfl, ho⟩; replace HH : Aside0 (OwnS (fun _ => False) [Sep.blk g1 (hoC told (.slice A l.length c)) 36, Sep.blk g2 (itC x) 56, Sep.blk g3 (hoC (List.replicate 16 (0 : Int)) (.slice none 0 0)) 36, Sep.row kIt 56 (.slice A1 l.length c1) l] w w4) := ⟨OwnS.joinL (Bs := [Sep.row kIt 56 (.slice A1 l.length c1) l]) ht ho⟩; clear ho; clear ht)
    | ((with_reducible refine gate_ (.store 34 (.tmp 14) (.tmp 13)) rfl ?_); refine evS_storeA (oh HH) 0 rfl rfl rfl rfl (by rfl) (.slice A1 l.length c1) (by rfl) (#[.slice A1 l.length c1]) (by rfl) 1 17 rfl (hoC_size _ _ HT.out.1) (by kernel_rfl) (by decide) (by simp [Value.oneCell']) (hoC told (.slice A1 l.length c1)) (hoC_slice _ _ _ HT.out.1) ?_; intro w5 hh; replace HH : Aside0 (OwnS (fun _ => False) [Sep.blk g1 (hoC told (.slice A1 l.length c1)) 36, Sep.blk g2 (itC x) 56, Sep.blk g3 (hoC (List.replicate 16 (0 : Int)) (.slice none 0 0)) 36, Sep.row kIt 56 (.slice A1 l.length c1) l] w w5) := ⟨hh⟩; clear hh)
    | ((with_reducible refine gate_ (.load 36 (.tmp 2)) rfl ?_); refine ev_loadA (OwnS.blk (oh HH) 0 rfl) 0 17 (hoC told (.slice A1 l.length c1)) (all_of _ 17 (hoC_size _ _ HT.out.1)) rfl rfl (by rfl) Try.underlying36 rfl (hoC_size _ _ HT.out.1) (by kernel_rfl) ?_)
    | (go_at_call 28; refine ownS_call (oh HH) ?_; intro ht; refine (right_h _ told A1 c1 l HT.out ?_ HQ.out).mono ?_; (focus exact OwnS.C ht 3 rfl); rintro e w6 ⟨rfl, hb⟩; rw [HRT.out]; replace HH : Aside0 (OwnS (fun _ => False) [Sep.blk g1 (hoC told (.slice A1 l.length c1)) 36, Sep.blk g2 (itC x) 56, Sep.blk g3 (hoC (List.replicate 16 (0 : Int)) (.slice none 0 0)) 36, Sep.row kIt 56 (.slice A1 l.length c1) l] w w6) := ⟨OwnS.step ht hb⟩; clear hb; clear ht)
    | ((with_reducible refine gate_dst (N := 28) rfl ?_); refine loadG (by rfl) _ _ rfl g2 0 rfl (itC x) _ ?_ Try.underlying56 rfl (by rw [itC_size _ HX.out.1.1]; kernel_rfl) ?_; (focus (refine range_it HX.out.1.1 (OwnS.blk (oh HH) 1 rfl))))
    | (go_at_call 29; refine ownS_call (oh HH) ?_; intro ht; refine (imay_calls _ x HX.out).mono ?_; rintro e w7 ⟨rfl, hb⟩; rw [HM.out]; replace HH : Aside0 (OwnS (fun _ => False) [Sep.blk g1 (hoC told (.slice A1 l.length c1)) 36, Sep.blk g2 (itC x) 56, Sep.blk g3 (hoC (List.replicate 16 (0 : Int)) (.slice none 0 0)) 36, Sep.row kIt 56 (.slice A1 l.length c1) l] w w7) := ⟨OwnS.step ht hb⟩; clear hb; clear ht)
    | fail
    | fail)
  have HKV : Aside0 (∀ w' : World, OwnS (fun _ => False) [Sep.blk g1 (hoC told (.slice A1 l.length c1)) 36, Sep.blk g2 (itC x) 56, Sep.blk g3 (hoC (List.replicate 16 (0 : Int)) (.slice none 0 0)) 36, Sep.row kIt 56 (.slice A1 l.length c1) l] w w' → (w'.cell? ⟨g2, 0, none⟩ = some (.int .u8 f) ∧ w'.cell? ⟨g2, 1, none⟩ = some (.int .i64 q) ∧ w'.cell? ⟨g1, f.toNat, none⟩ = some (.int .u16 n) ∧ w'.cell? ⟨g1, 16, none⟩ = some (.slice A1 l.length c1))) := ⟨fun W h => ⟨(by rw [← HFX.out]; exact blk_cell (OwnS.blk h 1 rfl) 0), (by rw [← HQX.out]; exact blk_cell (OwnS.blk h 1 rfl) 1), (by rw [← HN.out]; exact (blk_cell (OwnS.blk h 0 rfl) f.toNat).trans (hoC_at _ _ f.toNat (by rw [HT.out.1]; exact HF.out))), (blk_cell (OwnS.blk h 0 rfl) 16).trans (hoC_last _ _ HT.out.1)⟩⟩
  refine wp_region_held_drew (S := fun w' => w'.cell? ⟨g2, 0, none⟩ = some (.int .u8 f) ∧ w'.cell? ⟨g2, 1, none⟩ = some (.int .i64 q) ∧ w'.cell? ⟨g1, f.toNat, none⟩ = some (.int .u16 n) ∧ w'.cell? ⟨g1, 16, none⟩ = some (.slice A1 l.length c1)) (by kernel_rfl) ?_ (fun hHeld => ?_)
  focus (try dsimp only); (exact HKV.out _ (oh HH))
  (try dsimp only at hHeld)
  refine otk (i := 0) ?_; (try simp only [Act.put, jjA, jjZ, jjS])
  refine otk (i := 1) (v := .int .i64 q) ?_; (try simp only [Act.put, jjA, jjZ, jjS])
  refine otk (i := 2) ?_; (try simp only [Act.put, jjA, jjZ, jjS])
  refine otk (i := 3) (v := .int .u8 f) ?_; (try simp only [Act.put, jjA, jjZ, jjS])
  refine otk (i := 4) ?_; (try simp only [Act.put, jjA, jjZ, jjS])
  refine otk (i := 5) ?_; (try simp only [Act.put, jjA, jjZ, jjS])
  refine otk (i := 6) (v := .int .u16 n) ?_; (try simp only [Act.put, jjA, jjZ, jjS])
  refine otk (i := 7) (v := .int .i64 n) ?_; (try simp only [Act.put, jjA, jjZ, jjS])
  refine otk (i := 8) (v := .bool true) ?_; (try simp only [Act.put, jjA, jjZ, jjS])
  refine otk (i := 9) (v := .bool true) ?_; (try simp only [Act.put, jjA, jjZ, jjS])
  refine tk (i := 10) (v := undef) (hy := Or.inr ⟨by rfl, rfl⟩) (h := ?_); (try simp only [Act.put, jjA, jjZ, jjS])
  refine tk (i := 11) (v := undef) (hy := Or.inr ⟨by rfl, rfl⟩) (h := ?_); (try simp only [Act.put, jjA, jjZ, jjS])
  refine tk (i := 12) (v := undef) (hy := Or.inr ⟨by rfl, rfl⟩) (h := ?_); (try simp only [Act.put, jjA, jjZ, jjS])
  refine tk (i := 13) (v := undef) (hy := Or.inr ⟨by rfl, rfl⟩) (h := ?_); (try simp only [Act.put, jjA, jjZ, jjS])
  refine otk (i := 14) (v := .bool true) ?_; (try simp only [Act.put, jjA, jjZ, jjS])
  refine otk (i := 15) (v := .bool true) ?_; (try simp only [Act.put, jjA, jjZ, jjS])
  refine wpAnyH_done (by kernel_rfl) ?_ _
  go_wp2_with (first
    | ((with_reducible refine gate_ (.load 36 (.tmp 2)) rfl ?_); refine ev_loadA (OwnS.blk (oh HH) 0 rfl) 0 17 (hoC told (.slice A1 l.length c1)) (all_of _ 17 (hoC_size _ _ HT.out.1)) rfl rfl (by rfl) Try.underlying36 rfl (hoC_size _ _ HT.out.1) (by kernel_rfl) ?_)
    | ((with_reducible refine gate_ (.store 36 (.tmp 4) (.tmp 49)) rfl ?_); refine evS_storeA (oh HH) 2 rfl rfl rfl rfl (by rfl) (.agg (hoC told (.slice A1 l.length c1))) (by rfl) (hoC told (.slice A1 l.length c1)) (by rfl) 17 17 (hoC_size _ _ HT.out.1) (hoC_size _ _ (by rfl)) (by kernel_rfl) (by decide) (hoC_one _ _ rfl) (hoC told (.slice A1 l.length c1)) (put_all _ _ (by rw [(hoC_size _ _ HT.out.1), (hoC_size _ _ (by rfl))])) ?_; intro w8 hh; replace HH : Aside0 (OwnS (fun _ => False) [Sep.blk g1 (hoC told (.slice A1 l.length c1)) 36, Sep.blk g2 (itC x) 56, Sep.blk g3 (hoC told (.slice A1 l.length c1)) 36, Sep.row kIt 56 (.slice A1 l.length c1) l] w w8) := ⟨hh⟩; clear hh)
    | fail
    | fail)
  refine bodyPost_ret (v := .tuple #[.agg (hoC told (.slice A1 l.length c1)), .slice none 0 0, .int .i64 6]) (results_list (rs := [.cell 4 36, .tmp 5, .tmp 6]) (vs := [.agg (hoC told (.slice A1 l.length c1)), _, _]) rfl (by simp) (.cell g3 36 (hoC told (.slice A1 l.length c1)) (0, 0) _ rfl (OwnS.blk HH.out 2 rfl) Try.underlying36 rfl (by rw [(hoC_size _ _ HT.out.1)]; kernel_rfl) (.tmp (.tmp .nil)))) rfl ?_
  rw [HPUT.out]
  exact ⟨A1, c1, none, 0, rfl, Own.nil (OwnS.own (OwnS.picks HH.out [3] (by decide)))⟩
set_option maxHeartbeats 4000000 in
set_option maxRecDepth 100000 in
theorem put_4 (w : World) (told : List Int) (A : Option Addr) (c : Nat) (l : List It) (x : It) (ht0 : okV told) (hx0 : okI x) (hr : kIt.C w A l.length l) (hq0 : ∀ y ∈ l, WI .i64 y.seq) (hl : l.length ≤ 1000000) (h1 : rightH told l = true) (h2 : rightI x = true) (h3 : ¬ x.seq < ofT told x) (h4 : isIn l x = true) : Calls Try.prog 10 #[.agg (hoC told (.slice A l.length c)), .agg (itC x)] w (fun e w' => ∃ A' c' A2 c2, e = .returned (.tuple #[.agg (hoC (putH told l x).1.1 (.slice A' (putH told l x).1.2.1.length c')), .slice A2 (putH told l x).1.2.2.length c2, .int .i64 (putH told l x).2]) ∧ Own [Sep.row kIt 56 (.slice A' (putH told l x).1.2.1.length c') (putH told l x).1.2.1, Sep.row kIt 56 (.slice A2 (putH told l x).1.2.2.length c2) (putH told l x).1.2.2] w w') := by
  have HT := Aside0.mk ht0
  have HX := Aside0.mk hx0
  have HR := Aside0.mk hr
  have HQ := Aside0.mk hq0
  have HL := Aside0.mk hl
  clear ht0 hx0 hr hq0 hl
  have HH : Aside0 (OwnS (fun _ => False) [] w w) := ⟨OwnS.of_own (Own.start w)⟩
  have hf0 : 0 ≤ x.frm := HX.out.2.1.1
  obtain ⟨f, hfx⟩ : ∃ f, x.frm = f := ⟨_, rfl⟩
  obtain ⟨q, hqx⟩ : ∃ q, x.seq = q := ⟨_, rfl⟩
  have HFX := Aside0.mk hfx
  have HQX := Aside0.mk hqx
  have hf16 : f < 16 := by
    have hm2 := h2
    unfold rightI rightB at hm2
    rw [Bool.and_eq_true, Bool.and_eq_true] at hm2
    rw [← hfx]
    exact of_decide_eq_true hm2.1.2
  rw [hfx] at hf0
  have HF : Aside0 (f.toNat < 16) := ⟨by omega⟩
  obtain ⟨n, hn⟩ : ∃ n, told.getD f.toNat 0 = n := ⟨_, rfl⟩
  have hr := okV_at HT.out f.toNat HF.out
  rw [hn] at hr
  have HN := Aside0.mk hn
  have hw := wrap_u16 hr.1 hr.2
  have hnn : 0 ≤ n := hr.1
  have hOF : ofT told x = n := by unfold ofT; rw [hfx, hn]
  have hRT0 : ¬ (rightH told l = false ∨ rightI x = false) := by rw [h1, h2]; simp
  have HRT := Aside0.mk h1
  have HM := Aside0.mk h2
  have hb1 : decide (q < n) = false := decide_eq_false (by rw [← hqx, ← hOF]; exact h3)
  have HIN := Aside0.mk h4
  have HPUT : Aside0 (putH told l x = ((told, l, []), 6)) := ⟨by unfold putH; rw [if_neg hRT0, if_pos (.inr h4)]⟩
  clear h1 h2 h3 h4 hn hr hfx hqx hOF hRT0
  go_enter Try.func10, Try.ntmps10
  go_wp2_with (first
    | ((with_reducible refine gate_dst (N := 2) rfl ?_); refine evS_box (oh HH) rfl (cs := hoC told (.slice A l.length c)) (T := 36) ?_ ?_; (focus first | (go_simp; done) | (go_simp; rfl)); intro g1 w1 he hh; clear he; replace HH : Aside0 (OwnS (fun _ => False) [Sep.blk g1 (hoC told (.slice A l.length c)) 36] w w1) := ⟨hh⟩; clear hh)
    | ((with_reducible refine gate_dst (N := 3) rfl ?_); refine evS_box (oh HH) rfl (cs := itC x) (T := 56) ?_ ?_; (focus first | (go_simp; done) | (go_simp; rfl)); intro g2 w2 he hh; clear he; replace HH : Aside0 (OwnS (fun _ => False) [Sep.blk g1 (hoC told (.slice A l.length c)) 36, Sep.blk g2 (itC x) 56] w w2) := ⟨hh⟩; clear hh)
    | ((with_reducible refine gate_dst (N := 4) rfl ?_); refine evS_box (oh HH) rfl (cs := hoC (List.replicate 16 (0 : Int)) (.slice none 0 0)) (T := 36) ?_ ?_; (focus first | (go_simp; done) | (go_simp; rfl)); intro g3 w3 he hh; clear he; replace HH : Aside0 (OwnS (fun _ => False) [Sep.blk g1 (hoC told (.slice A l.length c)) 36, Sep.blk g2 (itC x) 56, Sep.blk g3 (hoC (List.replicate 16 (0 : Int)) (.slice none 0 0)) 36] w w3) := ⟨hh⟩; clear hh)
    | ((with_reducible refine gate_ (.load 34 (.tmp 11)) rfl ?_); refine ev_cell (v := .slice A l.length c) ((blk_cell (OwnS.blk (oh HH) 0 rfl) 16).trans (hoC_last _ _ HT.out.1)) rfl rfl (by rfl) Try.underlying34 rfl ?_)
    | (go_at_call 26; refine ownS_call (oh HH) ?_; intro ht; refine (clone_calls A c l _ ?_ HL.out).mono ?_; (focus exact Kd.C_below HR.out (below_frm (OwnS.frm ht))); rintro e w4 ⟨A1, c1, rfl, ho⟩; replace HH : Aside0 (OwnS (fun _ => False) [Sep.blk g1 (hoC told (.slice A l.length c)) 36, Sep.blk g2 (itC x) 56, Sep.blk g3 (hoC (List.replicate 16 (0 : Int)) (.slice none 0 0)) 36, Sep.row kIt 56 (.slice A1 l.length c1) l] w w4) := ⟨OwnS.joinL (Bs := [Sep.row kIt 56 (.slice A1 l.length c1) l]) ht ho⟩; clear ho; clear ht)
    | ((with_reducible refine gate_ (.store 34 (.tmp 14) (.tmp 13)) rfl ?_); refine evS_storeA (oh HH) 0 rfl rfl rfl rfl (by rfl) (.slice A1 l.length c1) (by rfl) (#[.slice A1 l.length c1]) (by rfl) 1 17 rfl (hoC_size _ _ HT.out.1) (by kernel_rfl) (by decide) (by simp [Value.oneCell']) (hoC told (.slice A1 l.length c1)) (hoC_slice _ _ _ HT.out.1) ?_; intro w5 hh; replace HH : Aside0 (OwnS (fun _ => False) [Sep.blk g1 (hoC told (.slice A1 l.length c1)) 36, Sep.blk g2 (itC x) 56, Sep.blk g3 (hoC (List.replicate 16 (0 : Int)) (.slice none 0 0)) 36, Sep.row kIt 56 (.slice A1 l.length c1) l] w w5) := ⟨hh⟩; clear hh)
    | ((with_reducible refine gate_ (.load 36 (.tmp 2)) rfl ?_); refine ev_loadA (OwnS.blk (oh HH) 0 rfl) 0 17 (hoC told (.slice A1 l.length c1)) (all_of _ 17 (hoC_size _ _ HT.out.1)) rfl rfl (by rfl) Try.underlying36 rfl (hoC_size _ _ HT.out.1) (by kernel_rfl) ?_)
    | (go_at_call 28; refine ownS_call (oh HH) ?_; intro ht; refine (right_h _ told A1 c1 l HT.out ?_ HQ.out).mono ?_; (focus exact OwnS.C ht 3 rfl); rintro e w6 ⟨rfl, hb⟩; rw [HRT.out]; replace HH : Aside0 (OwnS (fun _ => False) [Sep.blk g1 (hoC told (.slice A1 l.length c1)) 36, Sep.blk g2 (itC x) 56, Sep.blk g3 (hoC (List.replicate 16 (0 : Int)) (.slice none 0 0)) 36, Sep.row kIt 56 (.slice A1 l.length c1) l] w w6) := ⟨OwnS.step ht hb⟩; clear hb; clear ht)
    | ((with_reducible refine gate_dst (N := 28) rfl ?_); refine loadG (by rfl) _ _ rfl g2 0 rfl (itC x) _ ?_ Try.underlying56 rfl (by rw [itC_size _ HX.out.1.1]; kernel_rfl) ?_; (focus (refine range_it HX.out.1.1 (OwnS.blk (oh HH) 1 rfl))))
    | (go_at_call 29; refine ownS_call (oh HH) ?_; intro ht; refine (imay_calls _ x HX.out).mono ?_; rintro e w7 ⟨rfl, hb⟩; rw [HM.out]; replace HH : Aside0 (OwnS (fun _ => False) [Sep.blk g1 (hoC told (.slice A1 l.length c1)) 36, Sep.blk g2 (itC x) 56, Sep.blk g3 (hoC (List.replicate 16 (0 : Int)) (.slice none 0 0)) 36, Sep.row kIt 56 (.slice A1 l.length c1) l] w w7) := ⟨OwnS.step ht hb⟩; clear hb; clear ht)
    | fail
    | fail)
  have HKV : Aside0 (∀ w' : World, OwnS (fun _ => False) [Sep.blk g1 (hoC told (.slice A1 l.length c1)) 36, Sep.blk g2 (itC x) 56, Sep.blk g3 (hoC (List.replicate 16 (0 : Int)) (.slice none 0 0)) 36, Sep.row kIt 56 (.slice A1 l.length c1) l] w w' → (w'.cell? ⟨g2, 0, none⟩ = some (.int .u8 f) ∧ w'.cell? ⟨g2, 1, none⟩ = some (.int .i64 q) ∧ w'.cell? ⟨g1, f.toNat, none⟩ = some (.int .u16 n) ∧ w'.cell? ⟨g1, 16, none⟩ = some (.slice A1 l.length c1))) := ⟨fun W h => ⟨(by rw [← HFX.out]; exact blk_cell (OwnS.blk h 1 rfl) 0), (by rw [← HQX.out]; exact blk_cell (OwnS.blk h 1 rfl) 1), (by rw [← HN.out]; exact (blk_cell (OwnS.blk h 0 rfl) f.toNat).trans (hoC_at _ _ f.toNat (by rw [HT.out.1]; exact HF.out))), (blk_cell (OwnS.blk h 0 rfl) 16).trans (hoC_last _ _ HT.out.1)⟩⟩
  refine wp_region_held_drew (S := fun w' => w'.cell? ⟨g2, 0, none⟩ = some (.int .u8 f) ∧ w'.cell? ⟨g2, 1, none⟩ = some (.int .i64 q) ∧ w'.cell? ⟨g1, f.toNat, none⟩ = some (.int .u16 n) ∧ w'.cell? ⟨g1, 16, none⟩ = some (.slice A1 l.length c1)) (by kernel_rfl) ?_ (fun hHeld => ?_)
  focus (try dsimp only); (exact HKV.out _ (oh HH))
  (try dsimp only at hHeld)
  refine otk (i := 0) ?_; (try simp only [Act.put, jjA, jjZ, jjS])
  refine otk (i := 1) (v := .int .i64 q) ?_; (try simp only [Act.put, jjA, jjZ, jjS])
  refine otk (i := 2) ?_; (try simp only [Act.put, jjA, jjZ, jjS])
  refine otk (i := 3) (v := .int .u8 f) ?_; (try simp only [Act.put, jjA, jjZ, jjS])
  refine otk (i := 4) ?_; (try simp only [Act.put, jjA, jjZ, jjS])
  refine otk (i := 5) ?_; (try simp only [Act.put, jjA, jjZ, jjS])
  refine otk (i := 6) (v := .int .u16 n) ?_; (try simp only [Act.put, jjA, jjZ, jjS])
  refine otk (i := 7) (v := .int .i64 n) ?_; (try simp only [Act.put, jjA, jjZ, jjS])
  refine otk (i := 8) (v := .bool false) ?_; (try simp only [Act.put, jjA, jjZ, jjS])
  refine otk (i := 9) (v := .bool false) ?_; (try simp only [Act.put, jjA, jjZ, jjS])
  refine otk (i := 10) ?_; (try simp only [Act.put, jjA, jjZ, jjS])
  refine otk (i := 11) (v := .slice A1 l.length c1) ?_; (try simp only [Act.put, jjA, jjZ, jjS])
  refine otk (i := 12) (v := .func (.func 27) #[] #[.pointer (some ⟨g2, 0, none⟩)]) ?_; (try simp only [Act.put, jjA, jjZ, jjS])
  refine wpAnyH_ready (rs := [13]) (by kernel_rfl) (by simp) ?_; refine AllReadyH.cons (by simp only [List.getElem?_toArray, List.getElem?_cons_succ, List.getElem?_cons_zero]; rfl) (fun K hK => ?_) AllReadyH.nil; go_simp; go_at_call 30; refine ownS_call (oh HH) ?_; intro ht; refine (contains_calls A1 c1 l _ ?_ g2 x ?_).mono ?_; (focus exact OwnS.C ht 3 rfl); (focus exact OwnS.blk ht 1 rfl); rintro e w8 ⟨rfl, hb⟩; rw [HIN.out]; replace HH : Aside0 (OwnS (fun _ => False) [Sep.blk g1 (hoC told (.slice A1 l.length c1)) 36, Sep.blk g2 (itC x) 56, Sep.blk g3 (hoC (List.replicate 16 (0 : Int)) (.slice none 0 0)) 36, Sep.row kIt 56 (.slice A1 l.length c1) l] w w8) := ⟨OwnS.step ht hb⟩; clear hb; clear ht; refine hK.out _ _ ?_ (fun hHeld2 => ?_); (focus (try dsimp only); (exact HKV.out _ (oh HH))); clear hK K hHeld; rename _ => hHeld; (try dsimp only at hHeld); (try simp only [Act.put, jjA, jjZ, jjS])
  refine otk (i := 14) (v := .bool true) ?_; (try simp only [Act.put, jjA, jjZ, jjS])
  refine otk (i := 15) (v := .bool true) ?_; (try simp only [Act.put, jjA, jjZ, jjS])
  refine wpAnyH_done (by kernel_rfl) ?_ _
  go_wp2_with (first
    | ((with_reducible refine gate_ (.load 36 (.tmp 2)) rfl ?_); refine ev_loadA (OwnS.blk (oh HH) 0 rfl) 0 17 (hoC told (.slice A1 l.length c1)) (all_of _ 17 (hoC_size _ _ HT.out.1)) rfl rfl (by rfl) Try.underlying36 rfl (hoC_size _ _ HT.out.1) (by kernel_rfl) ?_)
    | ((with_reducible refine gate_ (.store 36 (.tmp 4) (.tmp 49)) rfl ?_); refine evS_storeA (oh HH) 2 rfl rfl rfl rfl (by rfl) (.agg (hoC told (.slice A1 l.length c1))) (by rfl) (hoC told (.slice A1 l.length c1)) (by rfl) 17 17 (hoC_size _ _ HT.out.1) (hoC_size _ _ (by rfl)) (by kernel_rfl) (by decide) (hoC_one _ _ rfl) (hoC told (.slice A1 l.length c1)) (put_all _ _ (by rw [(hoC_size _ _ HT.out.1), (hoC_size _ _ (by rfl))])) ?_; intro w9 hh; replace HH : Aside0 (OwnS (fun _ => False) [Sep.blk g1 (hoC told (.slice A1 l.length c1)) 36, Sep.blk g2 (itC x) 56, Sep.blk g3 (hoC told (.slice A1 l.length c1)) 36, Sep.row kIt 56 (.slice A1 l.length c1) l] w w9) := ⟨hh⟩; clear hh)
    | fail
    | fail)
  refine bodyPost_ret (v := .tuple #[.agg (hoC told (.slice A1 l.length c1)), .slice none 0 0, .int .i64 6]) (results_list (rs := [.cell 4 36, .tmp 5, .tmp 6]) (vs := [.agg (hoC told (.slice A1 l.length c1)), _, _]) rfl (by simp) (.cell g3 36 (hoC told (.slice A1 l.length c1)) (0, 0) _ rfl (OwnS.blk HH.out 2 rfl) Try.underlying36 rfl (by rw [(hoC_size _ _ HT.out.1)]; kernel_rfl) (.tmp (.tmp .nil)))) rfl ?_
  rw [HPUT.out]
  exact ⟨A1, c1, none, 0, rfl, Own.nil (OwnS.own (OwnS.picks HH.out [3] (by decide)))⟩
set_option maxHeartbeats 4000000 in
set_option maxRecDepth 100000 in
theorem put_5 (w : World) (told : List Int) (A : Option Addr) (c : Nat) (l : List It) (x : It) (ht0 : okV told) (hx0 : okI x) (hr : kIt.C w A l.length l) (hq0 : ∀ y ∈ l, WI .i64 y.seq) (hl : l.length ≤ 1000000) (h1 : rightH told l = true) (h2 : rightI x = true) (h3 : ¬ x.seq < ofT told x) (h4 : isIn l x = false) (h5 : readyB told x = false) (h6 : 64 ≤ l.length) : Calls Try.prog 10 #[.agg (hoC told (.slice A l.length c)), .agg (itC x)] w (fun e w' => ∃ A' c' A2 c2, e = .returned (.tuple #[.agg (hoC (putH told l x).1.1 (.slice A' (putH told l x).1.2.1.length c')), .slice A2 (putH told l x).1.2.2.length c2, .int .i64 (putH told l x).2]) ∧ Own [Sep.row kIt 56 (.slice A' (putH told l x).1.2.1.length c') (putH told l x).1.2.1, Sep.row kIt 56 (.slice A2 (putH told l x).1.2.2.length c2) (putH told l x).1.2.2] w w') := by
  have HT := Aside0.mk ht0
  have HX := Aside0.mk hx0
  have HR := Aside0.mk hr
  have HQ := Aside0.mk hq0
  have HL := Aside0.mk hl
  clear ht0 hx0 hr hq0 hl
  have HH : Aside0 (OwnS (fun _ => False) [] w w) := ⟨OwnS.of_own (Own.start w)⟩
  have hf0 : 0 ≤ x.frm := HX.out.2.1.1
  obtain ⟨f, hfx⟩ : ∃ f, x.frm = f := ⟨_, rfl⟩
  obtain ⟨q, hqx⟩ : ∃ q, x.seq = q := ⟨_, rfl⟩
  have HFX := Aside0.mk hfx
  have HQX := Aside0.mk hqx
  have hf16 : f < 16 := by
    have hm2 := h2
    unfold rightI rightB at hm2
    rw [Bool.and_eq_true, Bool.and_eq_true] at hm2
    rw [← hfx]
    exact of_decide_eq_true hm2.1.2
  rw [hfx] at hf0
  have HF : Aside0 (f.toNat < 16) := ⟨by omega⟩
  obtain ⟨n, hn⟩ : ∃ n, told.getD f.toNat 0 = n := ⟨_, rfl⟩
  have hr := okV_at HT.out f.toNat HF.out
  rw [hn] at hr
  have HN := Aside0.mk hn
  have hw := wrap_u16 hr.1 hr.2
  have hnn : 0 ≤ n := hr.1
  have hOF : ofT told x = n := by unfold ofT; rw [hfx, hn]
  have hRT0 : ¬ (rightH told l = false ∨ rightI x = false) := by rw [h1, h2]; simp
  have HRT := Aside0.mk h1
  have HM := Aside0.mk h2
  have hb1 : decide (q < n) = false := decide_eq_false (by rw [← hqx, ← hOF]; exact h3)
  have HIN := Aside0.mk h4
  have HRD := Aside0.mk h5
  have hno : ¬ (x.seq < ofT told x ∨ isIn l x = true) := by rw [h4]; simpa using h3
  have hd : decide ((64 : Int) ≤ (l.length : Int)) = true := decide_eq_true (by omega)
  have HPUT : Aside0 (putH told l x = ((told, l, []), 7)) := ⟨by unfold putH; rw [if_neg hRT0, if_neg hno, if_neg (by rw [h5]; simp), if_pos h6]⟩
  clear h1 h2 h3 h4 h5 hn hr hfx hqx hOF hRT0 hno
  go_enter Try.func10, Try.ntmps10
  go_wp2_with (first
    | ((with_reducible refine gate_dst (N := 2) rfl ?_); refine evS_box (oh HH) rfl (cs := hoC told (.slice A l.length c)) (T := 36) ?_ ?_; (focus first | (go_simp; done) | (go_simp; rfl)); intro g1 w1 he hh; clear he; replace HH : Aside0 (OwnS (fun _ => False) [Sep.blk g1 (hoC told (.slice A l.length c)) 36] w w1) := ⟨hh⟩; clear hh)
    | ((with_reducible refine gate_dst (N := 3) rfl ?_); refine evS_box (oh HH) rfl (cs := itC x) (T := 56) ?_ ?_; (focus first | (go_simp; done) | (go_simp; rfl)); intro g2 w2 he hh; clear he; replace HH : Aside0 (OwnS (fun _ => False) [Sep.blk g1 (hoC told (.slice A l.length c)) 36, Sep.blk g2 (itC x) 56] w w2) := ⟨hh⟩; clear hh)
    | ((with_reducible refine gate_dst (N := 4) rfl ?_); refine evS_box (oh HH) rfl (cs := hoC (List.replicate 16 (0 : Int)) (.slice none 0 0)) (T := 36) ?_ ?_; (focus first | (go_simp; done) | (go_simp; rfl)); intro g3 w3 he hh; clear he; replace HH : Aside0 (OwnS (fun _ => False) [Sep.blk g1 (hoC told (.slice A l.length c)) 36, Sep.blk g2 (itC x) 56, Sep.blk g3 (hoC (List.replicate 16 (0 : Int)) (.slice none 0 0)) 36] w w3) := ⟨hh⟩; clear hh)
    | ((with_reducible refine gate_ (.load 34 (.tmp 11)) rfl ?_); refine ev_cell (v := .slice A l.length c) ((blk_cell (OwnS.blk (oh HH) 0 rfl) 16).trans (hoC_last _ _ HT.out.1)) rfl rfl (by rfl) Try.underlying34 rfl ?_)
    | (go_at_call 26; refine ownS_call (oh HH) ?_; intro ht; refine (clone_calls A c l _ ?_ HL.out).mono ?_; (focus exact Kd.C_below HR.out (below_frm (OwnS.frm ht))); rintro e w4 ⟨A1, c1, rfl, ho⟩; replace HH : Aside0 (OwnS (fun _ => False) [Sep.blk g1 (hoC told (.slice A l.length c)) 36, Sep.blk g2 (itC x) 56, Sep.blk g3 (hoC (List.replicate 16 (0 : Int)) (.slice none 0 0)) 36, Sep.row kIt 56 (.slice A1 l.length c1) l] w w4) := ⟨OwnS.joinL (Bs := [Sep.row kIt 56 (.slice A1 l.length c1) l]) ht ho⟩; clear ho; clear ht)
    | ((with_reducible refine gate_ (.store 34 (.tmp 14) (.tmp 13)) rfl ?_); refine evS_storeA (oh HH) 0 rfl rfl rfl rfl (by rfl) (.slice A1 l.length c1) (by rfl) (#[.slice A1 l.length c1]) (by rfl) 1 17 rfl (hoC_size _ _ HT.out.1) (by kernel_rfl) (by decide) (by simp [Value.oneCell']) (hoC told (.slice A1 l.length c1)) (hoC_slice _ _ _ HT.out.1) ?_; intro w5 hh; replace HH : Aside0 (OwnS (fun _ => False) [Sep.blk g1 (hoC told (.slice A1 l.length c1)) 36, Sep.blk g2 (itC x) 56, Sep.blk g3 (hoC (List.replicate 16 (0 : Int)) (.slice none 0 0)) 36, Sep.row kIt 56 (.slice A1 l.length c1) l] w w5) := ⟨hh⟩; clear hh)
    | ((with_reducible refine gate_ (.load 36 (.tmp 2)) rfl ?_); refine ev_loadA (OwnS.blk (oh HH) 0 rfl) 0 17 (hoC told (.slice A1 l.length c1)) (all_of _ 17 (hoC_size _ _ HT.out.1)) rfl rfl (by rfl) Try.underlying36 rfl (hoC_size _ _ HT.out.1) (by kernel_rfl) ?_)
    | (go_at_call 28; refine ownS_call (oh HH) ?_; intro ht; refine (right_h _ told A1 c1 l HT.out ?_ HQ.out).mono ?_; (focus exact OwnS.C ht 3 rfl); rintro e w6 ⟨rfl, hb⟩; rw [HRT.out]; replace HH : Aside0 (OwnS (fun _ => False) [Sep.blk g1 (hoC told (.slice A1 l.length c1)) 36, Sep.blk g2 (itC x) 56, Sep.blk g3 (hoC (List.replicate 16 (0 : Int)) (.slice none 0 0)) 36, Sep.row kIt 56 (.slice A1 l.length c1) l] w w6) := ⟨OwnS.step ht hb⟩; clear hb; clear ht)
    | ((with_reducible refine gate_dst (N := 28) rfl ?_); refine loadG (by rfl) _ _ rfl g2 0 rfl (itC x) _ ?_ Try.underlying56 rfl (by rw [itC_size _ HX.out.1.1]; kernel_rfl) ?_; (focus (refine range_it HX.out.1.1 (OwnS.blk (oh HH) 1 rfl))))
    | (go_at_call 29; refine ownS_call (oh HH) ?_; intro ht; refine (imay_calls _ x HX.out).mono ?_; rintro e w7 ⟨rfl, hb⟩; rw [HM.out]; replace HH : Aside0 (OwnS (fun _ => False) [Sep.blk g1 (hoC told (.slice A1 l.length c1)) 36, Sep.blk g2 (itC x) 56, Sep.blk g3 (hoC (List.replicate 16 (0 : Int)) (.slice none 0 0)) 36, Sep.row kIt 56 (.slice A1 l.length c1) l] w w7) := ⟨OwnS.step ht hb⟩; clear hb; clear ht)
    | fail
    | fail)
  have HKV : Aside0 (∀ w' : World, OwnS (fun _ => False) [Sep.blk g1 (hoC told (.slice A1 l.length c1)) 36, Sep.blk g2 (itC x) 56, Sep.blk g3 (hoC (List.replicate 16 (0 : Int)) (.slice none 0 0)) 36, Sep.row kIt 56 (.slice A1 l.length c1) l] w w' → (w'.cell? ⟨g2, 0, none⟩ = some (.int .u8 f) ∧ w'.cell? ⟨g2, 1, none⟩ = some (.int .i64 q) ∧ w'.cell? ⟨g1, f.toNat, none⟩ = some (.int .u16 n) ∧ w'.cell? ⟨g1, 16, none⟩ = some (.slice A1 l.length c1))) := ⟨fun W h => ⟨(by rw [← HFX.out]; exact blk_cell (OwnS.blk h 1 rfl) 0), (by rw [← HQX.out]; exact blk_cell (OwnS.blk h 1 rfl) 1), (by rw [← HN.out]; exact (blk_cell (OwnS.blk h 0 rfl) f.toNat).trans (hoC_at _ _ f.toNat (by rw [HT.out.1]; exact HF.out))), (blk_cell (OwnS.blk h 0 rfl) 16).trans (hoC_last _ _ HT.out.1)⟩⟩
  refine wp_region_held_drew (S := fun w' => w'.cell? ⟨g2, 0, none⟩ = some (.int .u8 f) ∧ w'.cell? ⟨g2, 1, none⟩ = some (.int .i64 q) ∧ w'.cell? ⟨g1, f.toNat, none⟩ = some (.int .u16 n) ∧ w'.cell? ⟨g1, 16, none⟩ = some (.slice A1 l.length c1)) (by kernel_rfl) ?_ (fun hHeld => ?_)
  focus (try dsimp only); (exact HKV.out _ (oh HH))
  (try dsimp only at hHeld)
  refine otk (i := 0) ?_; (try simp only [Act.put, jjA, jjZ, jjS])
  refine otk (i := 1) (v := .int .i64 q) ?_; (try simp only [Act.put, jjA, jjZ, jjS])
  refine otk (i := 2) ?_; (try simp only [Act.put, jjA, jjZ, jjS])
  refine otk (i := 3) (v := .int .u8 f) ?_; (try simp only [Act.put, jjA, jjZ, jjS])
  refine otk (i := 4) ?_; (try simp only [Act.put, jjA, jjZ, jjS])
  refine otk (i := 5) ?_; (try simp only [Act.put, jjA, jjZ, jjS])
  refine otk (i := 6) (v := .int .u16 n) ?_; (try simp only [Act.put, jjA, jjZ, jjS])
  refine otk (i := 7) (v := .int .i64 n) ?_; (try simp only [Act.put, jjA, jjZ, jjS])
  refine otk (i := 8) (v := .bool false) ?_; (try simp only [Act.put, jjA, jjZ, jjS])
  refine otk (i := 9) (v := .bool false) ?_; (try simp only [Act.put, jjA, jjZ, jjS])
  refine otk (i := 10) ?_; (try simp only [Act.put, jjA, jjZ, jjS])
  refine otk (i := 11) (v := .slice A1 l.length c1) ?_; (try simp only [Act.put, jjA, jjZ, jjS])
  refine otk (i := 12) (v := .func (.func 27) #[] #[.pointer (some ⟨g2, 0, none⟩)]) ?_; (try simp only [Act.put, jjA, jjZ, jjS])
  refine wpAnyH_ready (rs := [13]) (by kernel_rfl) (by simp) ?_; refine AllReadyH.cons (by simp only [List.getElem?_toArray, List.getElem?_cons_succ, List.getElem?_cons_zero]; rfl) (fun K hK => ?_) AllReadyH.nil; go_simp; go_at_call 30; refine ownS_call (oh HH) ?_; intro ht; refine (contains_calls A1 c1 l _ ?_ g2 x ?_).mono ?_; (focus exact OwnS.C ht 3 rfl); (focus exact OwnS.blk ht 1 rfl); rintro e w8 ⟨rfl, hb⟩; rw [HIN.out]; replace HH : Aside0 (OwnS (fun _ => False) [Sep.blk g1 (hoC told (.slice A1 l.length c1)) 36, Sep.blk g2 (itC x) 56, Sep.blk g3 (hoC (List.replicate 16 (0 : Int)) (.slice none 0 0)) 36, Sep.row kIt 56 (.slice A1 l.length c1) l] w w8) := ⟨OwnS.step ht hb⟩; clear hb; clear ht; refine hK.out _ _ ?_ (fun hHeld2 => ?_); (focus (try dsimp only); (exact HKV.out _ (oh HH))); clear hK K hHeld; rename _ => hHeld; (try dsimp only at hHeld); (try simp only [Act.put, jjA, jjZ, jjS])
  refine otk (i := 14) (v := .bool false) ?_; (try simp only [Act.put, jjA, jjZ, jjS])
  refine otk (i := 15) (v := .bool false) ?_; (try simp only [Act.put, jjA, jjZ, jjS])
  refine wpAnyH_done (by kernel_rfl) ?_ _
  go_wp2_with (first
    | ((with_reducible refine gate_ (.load 30 (.tmp 51)) rfl ?_); refine ev_loadA (OwnS.blk (oh HH) 0 rfl) 0 16 (vecC told) (hoC_vec _ _ HT.out.1) rfl rfl (by rfl) Try.underlying30 rfl (vecC_size _ HT.out.1) (by kernel_rfl) ?_)
    | ((with_reducible refine gate_ (.load 56 (.tmp 3)) rfl ?_); refine ev_loadA (OwnS.blk (oh HH) 1 rfl) 0 20 (itC x) (all_of _ 20 (itC_size _ HX.out.1.1)) rfl rfl (by rfl) Try.underlying56 rfl (itC_size _ HX.out.1.1) (by kernel_rfl) ?_)
    | (go_at_call 31; refine ownS_call (oh HH) ?_; intro ht; refine (ready_calls _ told x HT.out HX.out).mono ?_; rintro e w9 ⟨rfl, hb⟩; rw [HRD.out]; replace HH : Aside0 (OwnS (fun _ => False) [Sep.blk g1 (hoC told (.slice A1 l.length c1)) 36, Sep.blk g2 (itC x) 56, Sep.blk g3 (hoC (List.replicate 16 (0 : Int)) (.slice none 0 0)) 36, Sep.row kIt 56 (.slice A1 l.length c1) l] w w9) := ⟨OwnS.step ht hb⟩; clear hb; clear ht)
    | ((with_reducible refine gate_ (.load 34 (.tmp 56)) rfl ?_); refine ev_cell (v := .slice A1 l.length c1) ((blk_cell (OwnS.blk (oh HH) 0 rfl) 16).trans (hoC_last _ _ HT.out.1)) rfl rfl (by rfl) Try.underlying34 rfl ?_)
    | ((with_reducible refine gate_ (.load 36 (.tmp 2)) rfl ?_); refine ev_loadA (OwnS.blk (oh HH) 0 rfl) 0 17 (hoC told (.slice A1 l.length c1)) (all_of _ 17 (hoC_size _ _ HT.out.1)) rfl rfl (by rfl) Try.underlying36 rfl (hoC_size _ _ HT.out.1) (by kernel_rfl) ?_)
    | ((with_reducible refine gate_ (.store 36 (.tmp 4) (.tmp 60)) rfl ?_); refine evS_storeA (oh HH) 2 rfl rfl rfl rfl (by rfl) (.agg (hoC told (.slice A1 l.length c1))) (by rfl) (hoC told (.slice A1 l.length c1)) (by rfl) 17 17 (hoC_size _ _ HT.out.1) (hoC_size _ _ (by rfl)) (by kernel_rfl) (by decide) (hoC_one _ _ rfl) (hoC told (.slice A1 l.length c1)) (put_all _ _ (by rw [(hoC_size _ _ HT.out.1), (hoC_size _ _ (by rfl))])) ?_; intro w10 hh; replace HH : Aside0 (OwnS (fun _ => False) [Sep.blk g1 (hoC told (.slice A1 l.length c1)) 36, Sep.blk g2 (itC x) 56, Sep.blk g3 (hoC told (.slice A1 l.length c1)) 36, Sep.row kIt 56 (.slice A1 l.length c1) l] w w10) := ⟨hh⟩; clear hh)
    | fail
    | fail)
  refine bodyPost_ret (v := .tuple #[.agg (hoC told (.slice A1 l.length c1)), .slice none 0 0, .int .i64 7]) (results_list (rs := [.cell 4 36, .tmp 5, .tmp 6]) (vs := [.agg (hoC told (.slice A1 l.length c1)), _, _]) rfl (by simp) (.cell g3 36 (hoC told (.slice A1 l.length c1)) (0, 0) _ rfl (OwnS.blk HH.out 2 rfl) Try.underlying36 rfl (by rw [(hoC_size _ _ HT.out.1)]; kernel_rfl) (.tmp (.tmp .nil)))) rfl ?_
  rw [HPUT.out]
  exact ⟨A1, c1, none, 0, rfl, Own.nil (OwnS.own (OwnS.picks HH.out [3] (by decide)))⟩
set_option maxHeartbeats 4000000 in
set_option maxRecDepth 100000 in
theorem put_6 (w : World) (told : List Int) (A : Option Addr) (c : Nat) (l : List It) (x : It) (ht0 : okV told) (hx0 : okI x) (hr : kIt.C w A l.length l) (hq0 : ∀ y ∈ l, WI .i64 y.seq) (hl : l.length ≤ 1000000) (h1 : rightH told l = true) (h2 : rightI x = true) (h3 : ¬ x.seq < ofT told x) (h4 : isIn l x = false) (h5 : readyB told x = false) (h6 : ¬ 64 ≤ l.length) : Calls Try.prog 10 #[.agg (hoC told (.slice A l.length c)), .agg (itC x)] w (fun e w' => ∃ A' c' A2 c2, e = .returned (.tuple #[.agg (hoC (putH told l x).1.1 (.slice A' (putH told l x).1.2.1.length c')), .slice A2 (putH told l x).1.2.2.length c2, .int .i64 (putH told l x).2]) ∧ Own [Sep.row kIt 56 (.slice A' (putH told l x).1.2.1.length c') (putH told l x).1.2.1, Sep.row kIt 56 (.slice A2 (putH told l x).1.2.2.length c2) (putH told l x).1.2.2] w w') := by
  have HT := Aside0.mk ht0
  have HX := Aside0.mk hx0
  have HR := Aside0.mk hr
  have HQ := Aside0.mk hq0
  have HL := Aside0.mk hl
  clear ht0 hx0 hr hq0 hl
  have HH : Aside0 (OwnS (fun _ => False) [] w w) := ⟨OwnS.of_own (Own.start w)⟩
  have hf0 : 0 ≤ x.frm := HX.out.2.1.1
  obtain ⟨f, hfx⟩ : ∃ f, x.frm = f := ⟨_, rfl⟩
  obtain ⟨q, hqx⟩ : ∃ q, x.seq = q := ⟨_, rfl⟩
  have HFX := Aside0.mk hfx
  have HQX := Aside0.mk hqx
  have hf16 : f < 16 := by
    have hm2 := h2
    unfold rightI rightB at hm2
    rw [Bool.and_eq_true, Bool.and_eq_true] at hm2
    rw [← hfx]
    exact of_decide_eq_true hm2.1.2
  rw [hfx] at hf0
  have HF : Aside0 (f.toNat < 16) := ⟨by omega⟩
  obtain ⟨n, hn⟩ : ∃ n, told.getD f.toNat 0 = n := ⟨_, rfl⟩
  have hr := okV_at HT.out f.toNat HF.out
  rw [hn] at hr
  have HN := Aside0.mk hn
  have hw := wrap_u16 hr.1 hr.2
  have hnn : 0 ≤ n := hr.1
  have hOF : ofT told x = n := by unfold ofT; rw [hfx, hn]
  have hRT0 : ¬ (rightH told l = false ∨ rightI x = false) := by rw [h1, h2]; simp
  have HRT := Aside0.mk h1
  have HM := Aside0.mk h2
  have hb1 : decide (q < n) = false := decide_eq_false (by rw [← hqx, ← hOF]; exact h3)
  have HIN := Aside0.mk h4
  have HRD := Aside0.mk h5
  have hno : ¬ (x.seq < ofT told x ∨ isIn l x = true) := by rw [h4]; simpa using h3
  have hd : decide ((64 : Int) ≤ (l.length : Int)) = false := decide_eq_false (by omega)
  have HPUT : Aside0 (putH told l x = ((told, l ++ [x], []), 0)) := ⟨by unfold putH; rw [if_neg hRT0, if_neg hno, if_neg (by rw [h5]; simp), if_neg h6]⟩
  clear h1 h2 h3 h4 h5 h6 hn hr hfx hqx hOF hRT0 hno
  go_enter Try.func10, Try.ntmps10
  go_wp2_with (first
    | ((with_reducible refine gate_dst (N := 2) rfl ?_); refine evS_box (oh HH) rfl (cs := hoC told (.slice A l.length c)) (T := 36) ?_ ?_; (focus first | (go_simp; done) | (go_simp; rfl)); intro g1 w1 he hh; clear he; replace HH : Aside0 (OwnS (fun _ => False) [Sep.blk g1 (hoC told (.slice A l.length c)) 36] w w1) := ⟨hh⟩; clear hh)
    | ((with_reducible refine gate_dst (N := 3) rfl ?_); refine evS_box (oh HH) rfl (cs := itC x) (T := 56) ?_ ?_; (focus first | (go_simp; done) | (go_simp; rfl)); intro g2 w2 he hh; clear he; replace HH : Aside0 (OwnS (fun _ => False) [Sep.blk g1 (hoC told (.slice A l.length c)) 36, Sep.blk g2 (itC x) 56] w w2) := ⟨hh⟩; clear hh)
    | ((with_reducible refine gate_dst (N := 4) rfl ?_); refine evS_box (oh HH) rfl (cs := hoC (List.replicate 16 (0 : Int)) (.slice none 0 0)) (T := 36) ?_ ?_; (focus first | (go_simp; done) | (go_simp; rfl)); intro g3 w3 he hh; clear he; replace HH : Aside0 (OwnS (fun _ => False) [Sep.blk g1 (hoC told (.slice A l.length c)) 36, Sep.blk g2 (itC x) 56, Sep.blk g3 (hoC (List.replicate 16 (0 : Int)) (.slice none 0 0)) 36] w w3) := ⟨hh⟩; clear hh)
    | ((with_reducible refine gate_ (.load 34 (.tmp 11)) rfl ?_); refine ev_cell (v := .slice A l.length c) ((blk_cell (OwnS.blk (oh HH) 0 rfl) 16).trans (hoC_last _ _ HT.out.1)) rfl rfl (by rfl) Try.underlying34 rfl ?_)
    | (go_at_call 26; refine ownS_call (oh HH) ?_; intro ht; refine (clone_calls A c l _ ?_ HL.out).mono ?_; (focus exact Kd.C_below HR.out (below_frm (OwnS.frm ht))); rintro e w4 ⟨A1, c1, rfl, ho⟩; replace HH : Aside0 (OwnS (fun _ => False) [Sep.blk g1 (hoC told (.slice A l.length c)) 36, Sep.blk g2 (itC x) 56, Sep.blk g3 (hoC (List.replicate 16 (0 : Int)) (.slice none 0 0)) 36, Sep.row kIt 56 (.slice A1 l.length c1) l] w w4) := ⟨OwnS.joinL (Bs := [Sep.row kIt 56 (.slice A1 l.length c1) l]) ht ho⟩; clear ho; clear ht)
    | ((with_reducible refine gate_ (.store 34 (.tmp 14) (.tmp 13)) rfl ?_); refine evS_storeA (oh HH) 0 rfl rfl rfl rfl (by rfl) (.slice A1 l.length c1) (by rfl) (#[.slice A1 l.length c1]) (by rfl) 1 17 rfl (hoC_size _ _ HT.out.1) (by kernel_rfl) (by decide) (by simp [Value.oneCell']) (hoC told (.slice A1 l.length c1)) (hoC_slice _ _ _ HT.out.1) ?_; intro w5 hh; replace HH : Aside0 (OwnS (fun _ => False) [Sep.blk g1 (hoC told (.slice A1 l.length c1)) 36, Sep.blk g2 (itC x) 56, Sep.blk g3 (hoC (List.replicate 16 (0 : Int)) (.slice none 0 0)) 36, Sep.row kIt 56 (.slice A1 l.length c1) l] w w5) := ⟨hh⟩; clear hh)
    | ((with_reducible refine gate_ (.load 36 (.tmp 2)) rfl ?_); refine ev_loadA (OwnS.blk (oh HH) 0 rfl) 0 17 (hoC told (.slice A1 l.length c1)) (all_of _ 17 (hoC_size _ _ HT.out.1)) rfl rfl (by rfl) Try.underlying36 rfl (hoC_size _ _ HT.out.1) (by kernel_rfl) ?_)
    | (go_at_call 28; refine ownS_call (oh HH) ?_; intro ht; refine (right_h _ told A1 c1 l HT.out ?_ HQ.out).mono ?_; (focus exact OwnS.C ht 3 rfl); rintro e w6 ⟨rfl, hb⟩; rw [HRT.out]; replace HH : Aside0 (OwnS (fun _ => False) [Sep.blk g1 (hoC told (.slice A1 l.length c1)) 36, Sep.blk g2 (itC x) 56, Sep.blk g3 (hoC (List.replicate 16 (0 : Int)) (.slice none 0 0)) 36, Sep.row kIt 56 (.slice A1 l.length c1) l] w w6) := ⟨OwnS.step ht hb⟩; clear hb; clear ht)
    | ((with_reducible refine gate_dst (N := 28) rfl ?_); refine loadG (by rfl) _ _ rfl g2 0 rfl (itC x) _ ?_ Try.underlying56 rfl (by rw [itC_size _ HX.out.1.1]; kernel_rfl) ?_; (focus (refine range_it HX.out.1.1 (OwnS.blk (oh HH) 1 rfl))))
    | (go_at_call 29; refine ownS_call (oh HH) ?_; intro ht; refine (imay_calls _ x HX.out).mono ?_; rintro e w7 ⟨rfl, hb⟩; rw [HM.out]; replace HH : Aside0 (OwnS (fun _ => False) [Sep.blk g1 (hoC told (.slice A1 l.length c1)) 36, Sep.blk g2 (itC x) 56, Sep.blk g3 (hoC (List.replicate 16 (0 : Int)) (.slice none 0 0)) 36, Sep.row kIt 56 (.slice A1 l.length c1) l] w w7) := ⟨OwnS.step ht hb⟩; clear hb; clear ht)
    | fail
    | fail)
  have HKV : Aside0 (∀ w' : World, OwnS (fun _ => False) [Sep.blk g1 (hoC told (.slice A1 l.length c1)) 36, Sep.blk g2 (itC x) 56, Sep.blk g3 (hoC (List.replicate 16 (0 : Int)) (.slice none 0 0)) 36, Sep.row kIt 56 (.slice A1 l.length c1) l] w w' → (w'.cell? ⟨g2, 0, none⟩ = some (.int .u8 f) ∧ w'.cell? ⟨g2, 1, none⟩ = some (.int .i64 q) ∧ w'.cell? ⟨g1, f.toNat, none⟩ = some (.int .u16 n) ∧ w'.cell? ⟨g1, 16, none⟩ = some (.slice A1 l.length c1))) := ⟨fun W h => ⟨(by rw [← HFX.out]; exact blk_cell (OwnS.blk h 1 rfl) 0), (by rw [← HQX.out]; exact blk_cell (OwnS.blk h 1 rfl) 1), (by rw [← HN.out]; exact (blk_cell (OwnS.blk h 0 rfl) f.toNat).trans (hoC_at _ _ f.toNat (by rw [HT.out.1]; exact HF.out))), (blk_cell (OwnS.blk h 0 rfl) 16).trans (hoC_last _ _ HT.out.1)⟩⟩
  refine wp_region_held_drew (S := fun w' => w'.cell? ⟨g2, 0, none⟩ = some (.int .u8 f) ∧ w'.cell? ⟨g2, 1, none⟩ = some (.int .i64 q) ∧ w'.cell? ⟨g1, f.toNat, none⟩ = some (.int .u16 n) ∧ w'.cell? ⟨g1, 16, none⟩ = some (.slice A1 l.length c1)) (by kernel_rfl) ?_ (fun hHeld => ?_)
  focus (try dsimp only); (exact HKV.out _ (oh HH))
  (try dsimp only at hHeld)
  refine otk (i := 0) ?_; (try simp only [Act.put, jjA, jjZ, jjS])
  refine otk (i := 1) (v := .int .i64 q) ?_; (try simp only [Act.put, jjA, jjZ, jjS])
  refine otk (i := 2) ?_; (try simp only [Act.put, jjA, jjZ, jjS])
  refine otk (i := 3) (v := .int .u8 f) ?_; (try simp only [Act.put, jjA, jjZ, jjS])
  refine otk (i := 4) ?_; (try simp only [Act.put, jjA, jjZ, jjS])
  refine otk (i := 5) ?_; (try simp only [Act.put, jjA, jjZ, jjS])
  refine otk (i := 6) (v := .int .u16 n) ?_; (try simp only [Act.put, jjA, jjZ, jjS])
  refine otk (i := 7) (v := .int .i64 n) ?_; (try simp only [Act.put, jjA, jjZ, jjS])
  refine otk (i := 8) (v := .bool false) ?_; (try simp only [Act.put, jjA, jjZ, jjS])
  refine otk (i := 9) (v := .bool false) ?_; (try simp only [Act.put, jjA, jjZ, jjS])
  refine otk (i := 10) ?_; (try simp only [Act.put, jjA, jjZ, jjS])
  refine otk (i := 11) (v := .slice A1 l.length c1) ?_; (try simp only [Act.put, jjA, jjZ, jjS])
  refine otk (i := 12) (v := .func (.func 27) #[] #[.pointer (some ⟨g2, 0, none⟩)]) ?_; (try simp only [Act.put, jjA, jjZ, jjS])
  refine wpAnyH_ready (rs := [13]) (by kernel_rfl) (by simp) ?_; refine AllReadyH.cons (by simp only [List.getElem?_toArray, List.getElem?_cons_succ, List.getElem?_cons_zero]; rfl) (fun K hK => ?_) AllReadyH.nil; go_simp; go_at_call 30; refine ownS_call (oh HH) ?_; intro ht; refine (contains_calls A1 c1 l _ ?_ g2 x ?_).mono ?_; (focus exact OwnS.C ht 3 rfl); (focus exact OwnS.blk ht 1 rfl); rintro e w8 ⟨rfl, hb⟩; rw [HIN.out]; replace HH : Aside0 (OwnS (fun _ => False) [Sep.blk g1 (hoC told (.slice A1 l.length c1)) 36, Sep.blk g2 (itC x) 56, Sep.blk g3 (hoC (List.replicate 16 (0 : Int)) (.slice none 0 0)) 36, Sep.row kIt 56 (.slice A1 l.length c1) l] w w8) := ⟨OwnS.step ht hb⟩; clear hb; clear ht; refine hK.out _ _ ?_ (fun hHeld2 => ?_); (focus (try dsimp only); (exact HKV.out _ (oh HH))); clear hK K hHeld; rename _ => hHeld; (try dsimp only at hHeld); (try simp only [Act.put, jjA, jjZ, jjS])
  refine otk (i := 14) (v := .bool false) ?_; (try simp only [Act.put, jjA, jjZ, jjS])
  refine otk (i := 15) (v := .bool false) ?_; (try simp only [Act.put, jjA, jjZ, jjS])
  refine wpAnyH_done (by kernel_rfl) ?_ _
  go_wp2_with (first
    | ((with_reducible refine gate_ (.load 30 (.tmp 51)) rfl ?_); refine ev_loadA (OwnS.blk (oh HH) 0 rfl) 0 16 (vecC told) (hoC_vec _ _ HT.out.1) rfl rfl (by rfl) Try.underlying30 rfl (vecC_size _ HT.out.1) (by kernel_rfl) ?_)
    | ((with_reducible refine gate_ (.load 56 (.tmp 3)) rfl ?_); refine ev_loadA (OwnS.blk (oh HH) 1 rfl) 0 20 (itC x) (all_of _ 20 (itC_size _ HX.out.1.1)) rfl rfl (by rfl) Try.underlying56 rfl (itC_size _ HX.out.1.1) (by kernel_rfl) ?_)
    | (go_at_call 31; refine ownS_call (oh HH) ?_; intro ht; refine (ready_calls _ told x HT.out HX.out).mono ?_; rintro e w9 ⟨rfl, hb⟩; rw [HRD.out]; replace HH : Aside0 (OwnS (fun _ => False) [Sep.blk g1 (hoC told (.slice A1 l.length c1)) 36, Sep.blk g2 (itC x) 56, Sep.blk g3 (hoC (List.replicate 16 (0 : Int)) (.slice none 0 0)) 36, Sep.row kIt 56 (.slice A1 l.length c1) l] w w9) := ⟨OwnS.step ht hb⟩; clear hb; clear ht)
    | ((with_reducible refine gate_ (.load 34 (.tmp 56)) rfl ?_); refine ev_cell (v := .slice A1 l.length c1) ((blk_cell (OwnS.blk (oh HH) 0 rfl) 16).trans (hoC_last _ _ HT.out.1)) rfl rfl (by rfl) Try.underlying34 rfl ?_)
    | ((with_reducible refine gate_ (.load 34 (.tmp 16)) rfl ?_); refine ev_cell (v := .slice A1 l.length c1) ((blk_cell (OwnS.blk (oh HH) 0 rfl) 16).trans (hoC_last _ _ HT.out.1)) rfl rfl (by rfl) Try.underlying34 rfl ?_)
    | ((with_reducible refine gate_ (.load 56 (.tmp 3)) rfl ?_); refine ev_loadA (OwnS.blk (oh HH) 1 rfl) 0 20 (itC x) (all_of _ 20 (itC_size _ HX.out.1.1)) rfl rfl (by rfl) Try.underlying56 rfl (itC_size _ HX.out.1.1) (by kernel_rfl) ?_)
    | ((with_reducible refine gate_dst (N := 19) rfl ?_); refine lit1 rfl x HX.out.1.1 rfl rfl ?_)
    | (at_builtin; refine evS_appendR kIt (oh HH) 3 rfl (.tmp 17) (.tmp 19) 34 56 (.agg (itC zI)) 72 rfl Try.underlying34 infoI rfl (by first | decide | exact Nat.succ_pos _) (by decide) (.slice A1 l.length c1) l x (itL x) rfl rfl ?_ ?_ ?_ ?_; (focus first | rfl | (simp [Act.eval]; done)); (focus exact fun _ => kIt_M HX.out); (focus have := HL.out; omega); intro A9 c9 w10 hh; replace HH : Aside0 (OwnS (fun _ => False) [Sep.blk g1 (hoC told (.slice A1 l.length c1)) 36, Sep.blk g2 (itC x) 56, Sep.blk g3 (hoC (List.replicate 16 (0 : Int)) (.slice none 0 0)) 36, Sep.row kIt 56 (.slice A9 (l.length + 1) c9) (l ++ [x])] w w10) := ⟨hh⟩; clear hh)
    | ((with_reducible refine gate_ (.store 34 (.tmp 21) (.tmp 20)) rfl ?_); refine evS_storeA (oh HH) 0 rfl rfl rfl rfl (by rfl) (.slice A9 (l.length + 1) c9) (by rfl) (#[.slice A9 (l.length + 1) c9]) (by rfl) 1 17 rfl (hoC_size _ _ HT.out.1) (by kernel_rfl) (by decide) (by simp [Value.oneCell']) (hoC told (.slice A9 (l.length + 1) c9)) (hoC_slice _ _ _ HT.out.1) ?_; intro w11 hh; replace HH : Aside0 (OwnS (fun _ => False) [Sep.blk g1 (hoC told (.slice A9 (l.length + 1) c9)) 36, Sep.blk g2 (itC x) 56, Sep.blk g3 (hoC (List.replicate 16 (0 : Int)) (.slice none 0 0)) 36, Sep.row kIt 56 (.slice A9 (l.length + 1) c9) (l ++ [x])] w w11) := ⟨hh⟩; clear hh)
    | ((with_reducible refine gate_ (.load 36 (.tmp 2)) rfl ?_); refine ev_loadA (OwnS.blk (oh HH) 0 rfl) 0 17 (hoC told (.slice A9 (l.length + 1) c9)) (all_of _ 17 (hoC_size _ _ HT.out.1)) rfl rfl (by rfl) Try.underlying36 rfl (hoC_size _ _ HT.out.1) (by kernel_rfl) ?_)
    | ((with_reducible refine gate_ (.store 36 (.tmp 4) (.tmp 22)) rfl ?_); refine evS_storeA (oh HH) 2 rfl rfl rfl rfl (by rfl) (.agg (hoC told (.slice A9 (l.length + 1) c9))) (by rfl) (hoC told (.slice A9 (l.length + 1) c9)) (by rfl) 17 17 (hoC_size _ _ HT.out.1) (hoC_size _ _ (by rfl)) (by kernel_rfl) (by decide) (hoC_one _ _ rfl) (hoC told (.slice A9 (l.length + 1) c9)) (put_all _ _ (by rw [(hoC_size _ _ HT.out.1), (hoC_size _ _ (by rfl))])) ?_; intro w12 hh; replace HH : Aside0 (OwnS (fun _ => False) [Sep.blk g1 (hoC told (.slice A9 (l.length + 1) c9)) 36, Sep.blk g2 (itC x) 56, Sep.blk g3 (hoC told (.slice A9 (l.length + 1) c9)) 36, Sep.row kIt 56 (.slice A9 (l.length + 1) c9) (l ++ [x])] w w12) := ⟨hh⟩; clear hh)
    | fail
    | fail)
  refine bodyPost_ret (v := .tuple #[.agg (hoC told (.slice A9 (l.length + 1) c9)), .slice none 0 0, .int .i64 0]) (results_list (rs := [.cell 4 36, .tmp 5, .tmp 6]) (vs := [.agg (hoC told (.slice A9 (l.length + 1) c9)), _, _]) rfl (by simp) (.cell g3 36 (hoC told (.slice A9 (l.length + 1) c9)) (0, 0) _ rfl (OwnS.blk HH.out 2 rfl) Try.underlying36 rfl (by rw [(hoC_size _ _ HT.out.1)]; kernel_rfl) (.tmp (.tmp .nil)))) rfl ?_
  rw [HPUT.out]
  have h9 := OwnS.picks HH.out [3] (by decide)
  rw [show l.length + 1 = (l ++ [x]).length by simp] at h9
  exact ⟨A9, c9, none, 0, by simp, Own.nil (OwnS.own h9)⟩
end Go.Proofs.Ytbaknecnkipooaa.Hld
