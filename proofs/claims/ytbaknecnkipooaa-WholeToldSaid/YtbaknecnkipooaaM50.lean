/- table.Take, way by way. table.Take of one member's vote, in terms of what the table means. WholeTold's callees in terms of items. -/
import Derived.Test.YtbaknecnkipooaaM32
import Derived.Test.YtbaknecnkipooaaM37
import Derived.Test.YtbaknecnkipooaaM38
import Derived.Test.YtbaknecnkipooaaM39
import Derived.Test.YtbaknecnkipooaaM46
import Derived.Test.YtbaknecnkipooaaM49
import Derived.Test.YtbaknecnkipooaaM33
namespace Go.Proofs.Ytbaknecnkipooaa.Tld
open Go Go.RowKit Go.Proofs.YtbaknecnkipooaaW.PrintWords Go.Proofs.Ytbaknecnkipooaa.Sep Go.Proofs.Ytbaknecnkipooaa.Obj Go.Proofs.Ytbaknecnkipooaa.Vot Go.Proofs.Ytbaknecnkipooaa.Hld
set_option linter.unusedVariables false
set_option linter.unusedSimpArgs false
set_option maxHeartbeats 400000 in
set_option maxRecDepth 100000 in
theorem take_err (w : World) (b : List Int) (A : Option Addr) (c : Nat) (xs : List OP) (f q who : Nat) (body : ByteArray) (hk : OkT b xs) (hC : kOP.C w A xs.length xs) (hR : ∀ x ∈ xs, RBs w x.x) (hf : f < 4) (hq : q < 1000) (er : Int) (hme : mayE (b.getD f 0) q = er) (hne : er ≠ 0) : Calls Try.prog 7 #[.agg (tabC b (.slice A xs.length c)), .agg #[.int .i64 0, .int .u8 (f : Int), .int .i64 (q : Int)], .int .i64 3, .int .u8 (who : Int), .string body] w (TakeErr b xs er w) := by
  have HH : Aside0 (OwnS (fun _ => False) [] w w) := ⟨OwnS.of_own (Own.start w)⟩
  have HV : Aside0 (b.length = 16) := ⟨hk.base.v.1⟩
  have HK := Aside0.mk hk
  have HF := Aside0.mk hf
  have HQ := Aside0.mk hq
  have HL : Aside0 (xs.length ≤ 1000) := ⟨hk.l⟩
  have HCC := Aside0.mk hC
  have HR : Aside0 (∀ W, Below w.heap.size w W → ∀ x ∈ xs, RBs W x.x) := ⟨fun W hb x hx => RBs_below (hR x hx) hb⟩
  have HLB : Aside0 (∀ x ∈ xs, x.x.c.echoes.length ≤ 1000000 ∧ x.x.c.readies.length ≤ 1000000) := ⟨fun x hx => ⟨Nat.le_trans (hk.o x hx).c.le1 (by decide), Nat.le_trans (hk.o x hx).c.lr1 (by decide)⟩⟩
  have HME := Aside0.mk hme
  clear hk hC hR hme
  go_enter Try.func7, Try.ntmps7
  go_wp2_with (first
    | ((with_reducible refine gate_dst (N := 5) rfl ?_); refine evS_box (oh HH) rfl (cs := tabC b (.slice A xs.length c)) (T := 33) ?_ ?_; (focus first | (go_simp; done) | (go_simp; rfl)); intro g1 w1 he hh; clear he; replace HH : Aside0 (OwnS (fun _ => False) [Sep.blk g1 (tabC b (.slice A xs.length c)) 33] w w1) := ⟨hh⟩; clear hh)
    | ((with_reducible refine gate_dst (N := 6) rfl ?_); refine evS_box (oh HH) rfl (cs := #[.int .i64 0, .int .u8 (f : Int), .int .i64 (q : Int)]) (T := 42) ?_ ?_; (focus first | (go_simp; done) | (go_simp; rfl)); intro g2 w2 he hh; clear he; replace HH : Aside0 (OwnS (fun _ => False) [Sep.blk g1 (tabC b (.slice A xs.length c)) 33, Sep.blk g2 #[.int .i64 0, .int .u8 (f : Int), .int .i64 (q : Int)] 42] w w2) := ⟨hh⟩; clear hh)
    | ((with_reducible refine gate_dst (N := 10) rfl ?_); refine evS_box (oh HH) rfl (cs := zTab) (T := 33) ?_ ?_; (focus first | (go_simp; done) | (go_simp; rfl)); intro g3 w3 he hh; clear he; replace HH : Aside0 (OwnS (fun _ => False) [Sep.blk g1 (tabC b (.slice A xs.length c)) 33, Sep.blk g2 #[.int .i64 0, .int .u8 (f : Int), .int .i64 (q : Int)] 42, Sep.blk g3 (zTab) 33] w w3) := ⟨hh⟩; clear hh)
    | ((with_reducible refine gate_ (.load 33 (.tmp 5)) rfl ?_); refine ev_loadA (OwnS.blk (oh HH) 0 rfl) 0 19 (tabC b (.slice A xs.length c)) (all_of _ 19 (tabC_size _ _ HV.out)) rfl rfl (by rfl) Try.underlying33 rfl (tabC_size _ _ HV.out) (by kernel_rfl) ?_)
    | (go_at_call 17; refine ownS_call (oh HH) ?_; intro ht; refine (town_calls _ b A c xs HV.out HL.out ?_ (HR.out _ ?_) HLB.out).mono ?_; (focus exact Kd.C_below HCC.out (frm_below (OwnS.frm ht))); (focus exact frm_below (OwnS.frm ht)); rintro e w4 ⟨A1, c1, ys, rfl, hmap, ho⟩; have HMP := Aside0.mk hmap; clear hmap; replace HH : Aside0 (OwnS (fun _ => False) [Sep.blk g1 (tabC b (.slice A xs.length c)) 33, Sep.blk g2 #[.int .i64 0, .int .u8 (f : Int), .int .i64 (q : Int)] 42, Sep.blk g3 (zTab) 33, Sep.row kOP 79 (.slice A1 ys.length c1) ys, balsA ys] w w4) := ⟨OwnS.joinL (Bs := [Sep.row kOP 79 (.slice A1 ys.length c1) ys, balsA ys]) ht ho⟩; clear ho; clear ht)
    | ((with_reducible refine gate_ (.store 33 (.tmp 5) (.tmp 25)) rfl ?_); refine evS_storeA (oh HH) 0 rfl rfl rfl rfl (by rfl) (.agg (tabC b (.slice A1 ys.length c1))) (by rfl) (tabC b (.slice A1 ys.length c1)) (by rfl) 19 19 (tabC_size _ _ HV.out) (tabC_size _ _ HV.out) (by kernel_rfl) (by decide) (tabC_one _ _ rfl) (tabC b (.slice A1 ys.length c1)) (put_all _ _ (by rw [(tabC_size _ _ HV.out), (tabC_size _ _ HV.out)])) ?_; intro w5 hh; replace HH : Aside0 (OwnS (fun _ => False) [Sep.blk g1 (tabC b (.slice A1 ys.length c1)) 33, Sep.blk g2 #[.int .i64 0, .int .u8 (f : Int), .int .i64 (q : Int)] 42, Sep.blk g3 (zTab) 33, Sep.row kOP 79 (.slice A1 ys.length c1) ys, balsA ys] w w5) := ⟨hh⟩; clear hh)
    | ((with_reducible refine gate_ (.load 33 (.tmp 5)) rfl ?_); refine ev_loadA (OwnS.blk (oh HH) 0 rfl) 0 19 (tabC b (.slice A1 ys.length c1)) (all_of _ 19 (tabC_size _ _ HV.out)) rfl rfl (by rfl) Try.underlying33 rfl (tabC_size _ _ HV.out) (by kernel_rfl) ?_)
    | ((with_reducible refine gate_ (.load 42 (.tmp 6)) rfl ?_); refine ev_load (OwnS.blk (oh HH) 1 rfl) 0 3 [.int .i64 0, .int .u8 (f : Int), .int .i64 (q : Int)] rfl rfl rfl (by rfl) Try.underlying42 rfl (by kernel_rfl) ?_)
    | (go_at_call 18; refine ownS_call (oh HH) ?_; intro ht; refine (tmay_calls _ b A1 c1 ys f q (HK.out.map HMP.out) ?_ ?_ HF.out HQ.out).mono ?_; (focus exact OwnS.C ht 3 rfl); (focus exact bals_get ht 4 rfl); rintro e w6 ⟨rfl, hb⟩; rw [HME.out]; replace HH : Aside0 (OwnS (fun _ => False) [Sep.blk g1 (tabC b (.slice A1 ys.length c1)) 33, Sep.blk g2 #[.int .i64 0, .int .u8 (f : Int), .int .i64 (q : Int)] 42, Sep.blk g3 (zTab) 33, Sep.row kOP 79 (.slice A1 ys.length c1) ys, balsA ys] w w6) := ⟨OwnS.step ht hb⟩; clear hb; clear ht)
    | ((with_reducible refine gate_ (.load 33 (.tmp 5)) rfl ?_); refine ev_loadA (OwnS.blk (oh HH) 0 rfl) 0 19 (tabC b (.slice A1 ys.length c1)) (all_of _ 19 (tabC_size _ _ HV.out)) rfl rfl (by rfl) Try.underlying33 rfl (tabC_size _ _ HV.out) (by kernel_rfl) ?_)
    | ((with_reducible refine gate_ (.store 33 (.tmp 10) (.tmp 31)) rfl ?_); refine evS_storeA (oh HH) 2 rfl rfl rfl rfl (by rfl) (.agg (tabC b (.slice A1 ys.length c1))) (by rfl) (tabC b (.slice A1 ys.length c1)) (by rfl) 19 19 (tabC_size _ _ HV.out) zTab_size (by kernel_rfl) (by decide) (tabC_one _ _ rfl) (tabC b (.slice A1 ys.length c1)) (put_all _ _ (by rw [(tabC_size _ _ HV.out), zTab_size])) ?_; intro w7 hh; replace HH : Aside0 (OwnS (fun _ => False) [Sep.blk g1 (tabC b (.slice A1 ys.length c1)) 33, Sep.blk g2 #[.int .i64 0, .int .u8 (f : Int), .int .i64 (q : Int)] 42, Sep.blk g3 (tabC b (.slice A1 ys.length c1)) 33, Sep.row kOP 79 (.slice A1 ys.length c1) ys, balsA ys] w w7) := ⟨hh⟩; clear hh)
    | fail
    | fail)
  refine bodyPost_ret (v := .tuple #[.agg (tabC b (.slice A1 ys.length c1)), .slice none 0 0, .string ⟨#[]⟩, .bool false, .int .i64 er]) (results_list (rs := [.cell 10 33, .tmp 11, .tmp 12, .tmp 13, .tmp 14]) (vs := [.agg (tabC b (.slice A1 ys.length c1)), _, _, _, _]) rfl (by simp) (.cell g3 33 (tabC b (.slice A1 ys.length c1)) (0, 0) _ rfl (OwnS.blk HH.out 2 rfl) Try.underlying33 rfl (by rw [(tabC_size _ _ HV.out)]; kernel_rfl) (.tmp (.tmp (.tmp (.tmp .nil)))))) rfl ?_
  exact ⟨A1, c1, ys, rfl, HMP.out, bals_get HH.out 4 rfl, OwnS.own (OwnS.picks HH.out [3] (by decide))⟩
end Go.Proofs.Ytbaknecnkipooaa.Tld
namespace Go.Proofs.Ytbaknecnkipooaa.Tld
open Go Go.RowKit Go.Proofs.YtbaknecnkipooaaW.PrintWords Go.Proofs.Ytbaknecnkipooaa.Sep Go.Proofs.Ytbaknecnkipooaa.Obj Go.Proofs.Ytbaknecnkipooaa.Vot Go.Proofs.Ytbaknecnkipooaa.Hld
set_option linter.unusedVariables false
set_option linter.unusedSimpArgs false
theorem MidI.late {pre : List It} {y : It} {f q : Nat} {s : ByteArray} {b : List Int} {os : List Opn} {k : Nat} (h : MidI pre y f q s k b os) (hk : 3 ≤ k) (hk4 : k < 4) (hm : mayE (b.getD f 0) q = 6) : MidI pre y f q s (k + 1) b os := by
  rcases h with ⟨h, _⟩ | ⟨_, _, hT, _⟩
  · omega
  · refine .inr ⟨by omega, by omega, hT, fun o ho e1 e2 => ?_⟩
    exfalso
    have := hT.lo o ho
    rw [e1, e2] at this
    unfold mayE at hm
    split at hm
    · omega
    · split at hm <;> cases hm
def TakeMid (pre : List It) (y : It) (f q : Nat) (s : ByteArray) (k n0 : Nat) (w : World) (e : Ending) (w' : World) : Prop := ∃ (A' : Option Addr) (c' : Nat) (b' : List Int) (ys : List OP) (A3 : Option Addr) (m3 n3 : Nat) (bd : ByteArray) (is : Bool) (er : Int), e = .returned (.tuple #[.agg (tabC b' (.slice A' ys.length c')), .slice A3 m3 n3, .string bd, .bool is, .int .i64 er]) ∧ b'.length = 16 ∧ (∀ y ∈ ys, RBs w' y.x) ∧ Own [Sep.row kOP 79 (.slice A' ys.length c') ys] w w' ∧ ys.length ≤ n0 + 1 ∧
  ((er = 7 ∧ k = 0) ∨ (er ≠ 7 ∧ is = decide (k = 2) ∧ (k = 2 → bd = s) ∧ MidI pre y f q s (k + 1) b' (ys.map OP.o)))
theorem take_mid (w : World) (b : List Int) (A : Option Addr) (c : Nat) (xs : List OP) (pre : List It) (y : It) (f q : Nat) (s : ByteArray) (k : Nat) (hM : MidI pre y f q s k b (xs.map OP.o)) (hs : s.size ≤ 1000) (hS : Small (pre ++ [y])) (hf : f < 4) (hq : q < 1000) (hy : y.frm = (f : Int) ∧ y.seq = (q : Int)) (hn : ¬ keyIn pre f q) (hk : k < 4) (hl : xs.length ≤ 900) (hC : kOP.C w A xs.length xs) (hR : ∀ x ∈ xs, RBs w x.x) :
    Calls Try.prog 7 #[.agg (tabC b (.slice A xs.length c)), .agg #[.int .i64 0, .int .u8 (f : Int), .int .i64 (q : Int)], .int .i64 3, .int .u8 (k : Int), .string s] w (TakeMid pre y f q s k xs.length w) := by
  have hK := hM.okT hs hS hf hq rfl (by rw [List.length_map]; omega)
  rcases hM.may hf hy hn with ⟨h0, h7⟩ | h0 | ⟨h3, h6⟩
  · refine (take_err w b A c xs f q k s hK hC hR hf hq 7 h7 (by decide)).mono ?_
    rintro e w' ⟨A', c', ys, rfl, hm, hB, ho⟩
    exact ⟨A', c', b, ys, none, 0, 0, _, false, 7, rfl, hK.base.v.1, hB, ho, by rw [← map_len hm]; omega, .inl ⟨rfl, h0⟩⟩
  · obtain ⟨a, ha, hac, hae, hais, hab⟩ := takeK hs f k hf hk
    have fin : ∀ e w', TakeOk b (xs.map OP.o) f q a w e w' → TakeMid pre y f q s k xs.length w e w' := by
      rintro e w' ⟨A', c', b', ys, zs, m, A3, n3, rfl, hP, hr, hnd, hB, ho⟩
      refine ⟨A', c', b', ys, A3, _, n3, _, _, 0, rfl, by rw [hr.base, List.length_set]; exact hK.base.v.1, hB, ho, ?_, .inr ⟨by decide, hais, hab, ?_⟩⟩
      · have h1 := hP.2.2
        have h2 := hr.sub.length_le
        rw [List.length_map, List.length_map] at h1
        omega
      · rw [hac] at hP
        exact hM.vote hf hq hs hS hy hn h0 hk hP hr hnd
    rcases hM.cases hf hy hn h0 hk with ⟨hk0, hno⟩ | ⟨hk1, hin⟩
    · subst hk0
      exact (take_new w b A c xs f q 0 s hK hC hR hf hq a h0 (fun x hx h => hno (OP.o x) (List.mem_map.2 ⟨x, hx, rfl⟩) h) ha hae (by omega) (by omega) (by omega)).mono fin
    · exact (take_found w b A c xs f q k s hK hC hR hf hq (cK s k) a h0 hin ha hae (by omega) (by omega)).mono fin
  · refine (take_err w b A c xs f q k s hK hC hR hf hq 6 h6 (by decide)).mono ?_
    rintro e w' ⟨A', c', ys, rfl, hm, hB, ho⟩
    refine ⟨A', c', b, ys, none, 0, 0, _, false, 6, rfl, hK.base.v.1, hB, ho, by rw [← map_len hm]; omega, .inr ⟨by decide, ?_, fun e => by omega, ?_⟩⟩
    · rw [decide_eq_false (by omega)]
    · rw [hm]; exact hM.late h3 hk h6
end Go.Proofs.Ytbaknecnkipooaa.Tld
namespace Go.Proofs.Ytbaknecnkipooaa.Tld
open Go Go.RowKit Go.Proofs.YtbaknecnkipooaaW.PrintWords Go.Proofs.Ytbaknecnkipooaa.Sep Go.Proofs.Ytbaknecnkipooaa.Obj Go.Proofs.Ytbaknecnkipooaa.Vot Go.Proofs.Ytbaknecnkipooaa.Hld
set_option linter.unusedVariables false
set_option linter.unusedSimpArgs false
structure GoodY (y : It) : Prop where
  ok : okI y
  cmp : okK y
  right : rightI y = true
  f0 : 0 ≤ y.frm
  f4 : y.frm < 4
  q0 : 0 ≤ y.seq
  q1 : y.seq < 1000
  txt : y.text.size ≤ 4
  past : ∀ n ∈ y.past, 0 ≤ n ∧ n ≤ 1000
theorem good_of {K : List Int} {H : List It} (h : HisI K H) (hl : H.length ≤ 40) {y : It} (hy : y ∈ H) : GoodY y := by
  obtain ⟨i, hi, rfl⟩ := List.getElem_of_mem hy
  have hok := h.caus.ok _ hy
  have hr := h.caus.right _ hy
  have hc := cnt_le H i H[i].frm.toNat
  have hs := h.caus.seq i hi
  refine ⟨hok, h.caus.cmp _ hy, hr, (right_frm hok hr).2.1, h.mem _ hy, right_seq0 hok hr, by omega, h.txt _ hy, fun n hn => ⟨(hok.1.2 n hn).1, ?_⟩⟩
  obtain ⟨j, hj, rfl⟩ := List.getElem_of_mem hn
  have hj16 : j < 16 := by rw [← hok.1.1]; exact hj
  have h1 := h.caus.past i hi j hj16
  have h2 := cnt_le H i j
  have e : H[i].past.getD j 0 = H[i].past[j] := by simp [List.getD_eq_getElem?_getD, hj]
  omega
theorem GoodY.small {pre : List It} (h : ∀ y ∈ pre, GoodY y) : Small pre := fun y hy => ⟨(h y hy).f0, (h y hy).f4, (h y hy).q0, (h y hy).q1⟩
theorem GoodY.may {y : It} (h : GoodY y) : mayB y.kind y.past y.text = true := by
  have := h.right
  unfold rightI rightB at this
  rw [Bool.and_eq_true, Bool.and_eq_true] at this
  exact this.1.1
theorem GoodY.kind {y : It} (h : GoodY y) : 0 ≤ y.kind ∧ y.kind ≤ 3 := by
  have := h.may
  unfold mayB at this
  simp only [Bool.and_eq_true, decide_eq_true_eq] at this
  omega
theorem apart_key {pre : List It} {y : It} {f q : Nat} (hy : y.frm = (f : Int) ∧ y.seq = (q : Int)) (ha : ∀ u ∈ pre, same u y = false) : ¬ keyIn pre f q := fun ⟨u, hu, e1, e2⟩ => by
  have := ha u hu
  rw [same_iff.2 ⟨e1.trans hy.1.symm, e2.trans hy.2.symm⟩] at this
  cases this
def encY (y : It) : ByteArray := encS y.kind.toNat y.past y.text
theorem encY_size {y : It} (h : GoodY y) : (encY y).size ≤ 1000 := by
  have hf := flat_le 12 (fldsOf y.kind.toNat y.past y.text) (fun x hx => by
    unfold fldsOf at hx
    rcases List.mem_cons.1 hx with rfl | hx
    · have := numB_len y.kind.toNat; simp only [encF, List.length_cons]; omega
    · rcases List.mem_append.1 hx with hx | hx
      · obtain ⟨n, _, rfl⟩ := List.mem_map.1 hx
        have := numB_len n.toNat; simp only [encF, List.length_cons]; omega
      · rw [List.mem_singleton.1 hx]
        have := numB_len y.text.size
        have := h.txt
        simp only [encF, List.length_cons, List.length_append, bytesOf_length]; omega)
  rw [flds_len h.ok.1.1] at hf
  have e : (encY y).size = (encB (fldsOf y.kind.toNat y.past y.text)).length := by
    unfold encY encS strOfNums
    simp [ByteArray.size]
  rw [e]
  unfold encB
  have := numB_len (fldsOf y.kind.toNat y.past y.text).length
  simp only [List.length_cons, List.length_append, encP] at *
  omega
theorem pencY_calls (w : World) (y : It) (h : GoodY y) : Calls Try.prog 6 #[.agg (bodC y.kind y.past y.text)] w (fun e w' => e = .returned (.tuple #[.string (encY y), .int .i64 0]) ∧ Below w.heap.size w w') := by
  have hk := h.kind
  have e : y.kind = ((y.kind.toNat : Nat) : Int) := by omega
  have := penc_calls w y.kind.toNat y.past y.text h.ok.1.1 h.past (by omega) (by have := h.txt; omega) (by rw [← e]; exact h.may)
  rw [← e] at this
  exact this
theorem pdecY_calls (w : World) (y : It) (h : GoodY y) : Calls Try.prog 8 #[.string (encY y)] w (fun e w' => e = .returned (.tuple #[.agg (bodC y.kind y.past y.text), .int .i64 0]) ∧ Below w.heap.size w w') := by
  have hk := h.kind
  have e : y.kind = ((y.kind.toNat : Nat) : Int) := by omega
  have := pdec_calls w (encY y) y.kind.toNat y.past y.text rfl h.ok.1.1 h.past (by omega) (by have := h.txt; omega) (by rw [← e]; exact h.may)
  rw [← e] at this
  exact this
set_option maxRecDepth 100000 in
theorem keyBodR : Try.prog.keyTypeAt 9 38 = true := by kernel_rfl
set_option maxRecDepth 100000 in
theorem eqBodR (y : It) (hx : okI y) (kx : okK y) (w : World) : (Op.equalIn 10000 38 (.agg (bodC y.kind y.past y.text)) (.agg (bodC y.kind y.past y.text))).run Try.prog w = .ok true w := by
  have hf : (Value.agg (bodC y.kind y.past y.text)).formed Try.prog 38 = true := by simp [Value.formed, Try.underlying38, cellsBodR, bodC_size _ _ _ hx.1.1]
  have hl := lits_bodyR 0 y.kind y.past y.text kx.2 hx.1 hx.2.2
  obtain ⟨r, hr, hiff⟩ := run_equalIn_deep (10000 - 9) 9 38 keyBodR w 3 3 (.agg (bodC y.kind y.past y.text)) (.agg (bodC y.kind y.past y.text)) _ _ hf hf (by simpa [Value.cells] using hl) (by simpa [Value.cells] using hl)
  rw [show (10000 : Nat) = 10000 - 9 + 9 from rfl, hr]
  congr 1
  exact hiff.2 rfl
theorem takeY_calls (w : World) (b : List Int) (A : Option Addr) (c : Nat) (xs : List OP) (pre : List It) (y : It) (k : Nat) (hM : MidI pre y y.frm.toNat y.seq.toNat (encY y) k b (xs.map OP.o)) (hg : GoodY y) (hS : ∀ u ∈ pre, GoodY u) (ha : ∀ u ∈ pre, same u y = false) (hk : k < 4) (hl : xs.length ≤ 900) (hC : kOP.C w A xs.length xs) (hR : ∀ x ∈ xs, RBs w x.x) :
    Calls Try.prog 7 #[.agg (tabC b (.slice A xs.length c)), .agg #[.int .i64 0, .int .u8 y.frm, .int .i64 y.seq], .int .i64 3, .int .u8 (k : Int), .string (encY y)] w (TakeMid pre y y.frm.toNat y.seq.toNat (encY y) k xs.length w) := by
  have h1 := hg.f0
  have h2 := hg.f4
  have h3 := hg.q0
  have h4 := hg.q1
  have e : y.frm = ((y.frm.toNat : Nat) : Int) ∧ y.seq = ((y.seq.toNat : Nat) : Int) := by omega
  have := take_mid w b A c xs pre y y.frm.toNat y.seq.toNat (encY y) k hM (encY_size hg) (fun u hu => by
    rcases List.mem_append.1 hu with hu | hu
    · exact GoodY.small hS u hu
    · rw [List.mem_singleton.1 hu]; exact ⟨h1, h2, h3, h4⟩) (by omega) (by omega) e (apart_key e ha) hk hl hC hR
  rw [← e.1, ← e.2] at this
  exact this
theorem MidI.okb {pre : List It} {y : It} {f q : Nat} {s : ByteArray} {b : List Int} {os : List Opn} {k : Nat} (h : MidI pre y f q s k b os) : b.length = 16 := by
  rcases h with ⟨_, os0, hT, _⟩ | ⟨_, _, hT, _⟩
  · exact hT.ok.1
  · exact hT.ok.1
theorem noBal_it {e : Nat} {v : Value} {xs : List It} (he : ¬ Kept2 e) : NoBal (Sep.row kIt e v xs) :=
  noBal_row (fun q hq => by
    have : q = e := by simpa [kIt] using hq
    rw [this]; exact he)
theorem build_tab (w : World) : (Instr.build 33 #[(1, .int .u16 15)]).run Try.prog w = .ok (.agg (tabC (List.replicate 16 (0 : Int)) (.slice none 0 0))) w := by kernel_rfl
theorem takeW : takeM ⟨false, false, false, [], []⟩ 1 0 3 0 ⟨#[120]⟩ = ⟨⟨false, true, true, [], [⟨⟨#[120]⟩, 1⟩]⟩, [⟨3, ⟨#[120]⟩⟩], ⟨#[120]⟩, true, 0⟩ := by
  have s1 : Cnt.sz 1 = 1 := by decide
  have s2 : ∀ n, hit ⟨#[120]⟩ ⟨⟨#[120]⟩, n⟩ = true := hit_refl _
  have s3 : (⟨#[120]⟩ : ByteArray).size = 1 := rfl
  have b0 : Cnt.hasB 1 0 = true := by decide
  have b1 : Cnt.bitN 0 = 1 := by decide
  have f1 : Cnt.faulty 1 = 0 := by decide
  simp [takeM, readyA, s3, votedL, withL, manyL, forL, readyC, readyO, doneB, s1, s2, b0, b1, f1]
set_option maxRecDepth 100000 in
theorem works_calls (w : World) : Calls Try.prog 4 #[] w (Kp (.bool true) w) := by
  have HB := Aside0.mk (Below.refl w.heap.size w)
  have HF4 : Aside0 (Cnt.faulty 4 = 1) := ⟨by decide⟩
  have hSS : ((⟨#[120]⟩ : ByteArray).toList == (⟨#[120]⟩ : ByteArray).toList) = true := by simp
  go_enter Try.func4, Try.ntmps4
  go_wp2_with (first
    | (go_at_call 12; refine (Vot.take_calls ⟨false, false, false, [], []⟩ none 0 none 0 1 0 3 0 ⟨#[120]⟩ _ (Kd.C_nil _ _) (Kd.C_nil _ _) (Nat.le_refl _) (Nat.le_refl _) (by simp) (by simp) (by omega) (by omega) (by omega) (by omega) (by omega) (by omega) (by omega) (by decide) (fun x hx => by simp at hx) (fun x hx => by simp at hx)).mono ?_; rw [takeW]; rintro e w1 ⟨v, A3, n3, rfl, ⟨B1, d1, B2, d2, rfl, hr1, hr2⟩, hO, hb⟩; clear hr1 hr2 hO; have HBx : Aside0 (Below w.heap.size w w1) := ⟨below_back hb (by repeat (first | (with_reducible exact HB.out) | (with_reducible refine below_alloc ?_ _) | (with_reducible refine pw_below_drewN ?_ _) | (with_reducible refine below_drew ?_)))⟩; clear HB hb; have HB := HBx; clear HBx)
    | (go_at_call 13; refine (Cnt.faulty_calls 4 _).mono ?_; rw [HF4.out]; rintro e w2 ⟨rfl, m2, rfl⟩)
    | fail)
  go_ret
  exact ⟨rfl, (by repeat (first | (with_reducible exact HB.out) | (with_reducible refine below_alloc ?_ _) | (with_reducible refine pw_below_drewN ?_ _) | (with_reducible refine below_drew ?_)))⟩
end Go.Proofs.Ytbaknecnkipooaa.Tld
