/- hold.Put: an item that is ready. -/
import Derived.Test.YtbaknecnkipooaaM23
import Derived.Test.YtbaknecnkipooaaM24
namespace Go.Proofs.Ytbaknecnkipooaa.Hld
open Go Go.RowKit Go.Proofs.YtbaknecnkipooaaW.PrintWords Go.Proofs.Ytbaknecnkipooaa.Sep Go.Proofs.Ytbaknecnkipooaa.Obj
set_option linter.unusedVariables false
set_option linter.unusedSimpArgs false
open Go.Maps Go.Proofs.Ytbaknecnkipooaa.Mp
def lenOf : Value → Nat
  | .slice _ n _ => n
  | _ => 0
theorem row_front {α : Type} {d : Kd α} {e : Nat} {w : World} {S : Nat → Prop} {A : Option Addr} {n c : Nat} {xs : List α} (h : d.R e w 0 S (.slice A n c) xs) (hn : 0 < n) : ∃ g, A = some ⟨g, 0, none⟩ ∧ n ≤ c ∧ c ≤ 9223372036854775807 := by
  obtain ⟨_, inner, hown, hr⟩ := h
  rcases hown.2 with ⟨hv, h0⟩ | ⟨g, cap, cur, hv, _, _, h1, h2, _⟩
  · injection hv with _ h3 _; omega
  · injection hv with h3 h4 h5
    exact ⟨g, h3, by omega, by simp only [maxLen] at h2; omega⟩
theorem evS_lit_it {ops : Array Oper} {rest : List Oper} {op : Oper} {a : Act} {W w0 : World} {Q : Exit → Act → World → Prop} {S : Nat → Prop} {As : List Asr} (HH : OwnS S As w0 W) (hgd : op.guard = none) (x : It) (hx : okI x) {p : Operand} (ho : op.op = .buildSlice 34 1 #[(0, p)]) (hp : a.eval p = .agg (itC x))
    (h : ∀ g w', OwnS S (As ++ [Sep.row kIt 56 (.slice (some ⟨g, 0, none⟩) 1 1) [x]]) w0 w' → wpList Try.prog ops Q rest (a.put op.dst (.slice (some ⟨g, 0, none⟩) 1 1)) w') : wpList Try.prog ops Q (op :: rest) a W :=
  lit1 hgd x hx.1.1 ho hp (h _ _ (HH.add (below_alloc (Below.refl _ _) _) (row_lit kIt 56 (xs := [x]) (inner := itL x) (fun W' T => Reps.snoc (ps := []) (cs := []) (Reps.none _ _) (show kIt.M W' 0 T x (itL x) from kIt_M hx) (itC_size x hx.1.1)) 1 rfl (by simp))))
set_option maxHeartbeats 4000000 in
set_option maxRecDepth 100000 in
theorem put_7 (w : World) (told : List Int) (A : Option Addr) (c : Nat) (l : List It) (x : It) (ht0 : okV told) (hx0 : okI x) (hr : kIt.C w A l.length l) (hq0 : ∀ y ∈ l, WI .i64 y.seq) (hl : l.length ≤ 1000000) (h1 : rightH told l = true) (h2 : rightI x = true) (h3 : ¬ x.seq < ofT told x) (h4 : isIn l x = false) (h5 : readyB told x = true) : Calls Try.prog 10 #[.agg (hoC told (.slice A l.length c)), .agg (itC x)] w (fun e w' => ∃ A' c' A2 c2, e = .returned (.tuple #[.agg (hoC (putH told l x).1.1 (.slice A' (putH told l x).1.2.1.length c')), .slice A2 (putH told l x).1.2.2.length c2, .int .i64 (putH told l x).2]) ∧ Own [Sep.row kIt 56 (.slice A' (putH told l x).1.2.1.length c') (putH told l x).1.2.1, Sep.row kIt 56 (.slice A2 (putH told l x).1.2.2.length c2) (putH told l x).1.2.2] w w') := by
  have HT := Aside0.mk ht0
  have HX := Aside0.mk hx0
  have HR := Aside0.mk hr
  have HQ := Aside0.mk hq0
  have HL := Aside0.mk hl
  clear ht0 hx0 hr hq0 hl
  have HH : Aside0 (OwnS (fun _ => False) [] w w) := ⟨OwnS.of_own (Own.start w)⟩
  have hf0 : 0 ≤ x.frm := HX.out.2.1.1
  obtain ⟨f, hfx⟩ : ∃ f, x.frm = f := ⟨_, rfl⟩
  obtain ⟨q, hqx⟩ : ∃ q, x.seq = q := ⟨_, rfl⟩
  have HFX := Aside0.mk hfx
  have HQX := Aside0.mk hqx
  have hf16 : f < 16 := by
    have hm2 := h2
    unfold rightI rightB at hm2
    rw [Bool.and_eq_true, Bool.and_eq_true] at hm2
    rw [← hfx]
    exact of_decide_eq_true hm2.1.2
  rw [hfx] at hf0
  have HF : Aside0 (f.toNat < 16) := ⟨by omega⟩
  obtain ⟨n, hn⟩ : ∃ n, told.getD f.toNat 0 = n := ⟨_, rfl⟩
  have hr := okV_at HT.out f.toNat HF.out
  rw [hn] at hr
  have HN := Aside0.mk hn
  have hw := wrap_u16 hr.1 hr.2
  have hnn : 0 ≤ n := hr.1
  have hOF : ofT told x = n := by unfold ofT; rw [hfx, hn]
  have hRT0 : ¬ (rightH told l = false ∨ rightI x = false) := by rw [h1, h2]; simp
  obtain ⟨f1, hf1⟩ : ∃ f, x.frm = f := ⟨_, rfl⟩
  obtain ⟨hr1, hl1, htt1⟩ := ready_told HX.out h5
  have ha1 : 0 ≤ x.frm := (HX.out).2.1.1
  obtain ⟨n1, hn1⟩ : ∃ n, told.getD f1.toNat 0 = n := ⟨_, rfl⟩
  obtain ⟨told2, htold2⟩ : ∃ t, inc told x = t := ⟨_, rfl⟩
  have HT2 : Aside0 (okV told2) := ⟨htold2 ▸ inc_ok (HT.out) HX.out h5⟩
  rw [hf1] at hr1 htt1 ha1
  have HFC0 : Aside0 ((itC x)[0]? = some (.int .u8 f1)) := ⟨by rw [← hf1]; rfl⟩
  have HFC1 := HFC0
  have hlt1 : f1.toNat < 16 := by omega
  have HAT1 : Aside0 (∀ s, (hoC told s)[f1.toNat]? = some (.int .u16 n1)) := ⟨fun s => by rw [← hn1]; exact hoC_at _ s _ (by rw [(HT.out).1]; exact hlt1)⟩
  have HFS1 : Aside0 (f1.toNat + 1 ≤ 17) := ⟨by omega⟩
  have HPS1 : Aside0 (∀ s, (putL (hoC told s).toList f1.toNat (#[Value.int .u16 (n1 + 1)]).toList).toArray = hoC told2 s) := ⟨fun s => by rw [← htold2]; unfold inc ofT; rw [hf1, hn1]; exact hoC_put _ s _ _ (HT.out).1 hlt1⟩
  have hng1 := okV_at (HT.out) f1.toNat hlt1
  rw [hn1] at hng1 hr1
  have hwr1 : IntKind.u16.wrap (n1 + 1) = n1 + 1 := by rw [IntKind.wrap_u16]; omega
  have HINC1 := Aside0.mk htold2
  clear HFC0 hr1 hl1 hlt1 hng1 hn1 htold2 hf1
  have HRT := Aside0.mk h1
  have HM := Aside0.mk h2
  have hb1 : decide (q < n) = false := decide_eq_false (by rw [← hqx, ← hOF]; exact h3)
  have HIN := Aside0.mk h4
  have HRD := Aside0.mk h5
  have hno : ¬ (x.seq < ofT told x ∨ isIn l x = true) := by rw [h4]; simpa using h3
  have HPUT : Aside0 (putH told l x = (drain l.length told2 l [x], 0)) := ⟨by unfold putH; rw [if_neg hRT0, if_neg hno, if_pos h5, HINC1.out]⟩
  clear h1 h2 h3 h4 h5 hn hr hfx hqx hOF hRT0 hno
  go_enter Try.func10, Try.ntmps10
  go_wp2_with (first
    | ((with_reducible refine gate_dst (N := 2) rfl ?_); refine evS_box (oh HH) rfl (cs := hoC told (.slice A l.length c)) (T := 36) ?_ ?_; (focus first | (go_simp; done) | (go_simp; rfl)); intro g1 w1 he hh; clear he; replace HH : Aside0 (OwnS (fun _ => False) [Sep.blk g1 (hoC told (.slice A l.length c)) 36] w w1) := ⟨hh⟩; clear hh)
    | ((with_reducible refine gate_dst (N := 3) rfl ?_); refine evS_box (oh HH) rfl (cs := itC x) (T := 56) ?_ ?_; (focus first | (go_simp; done) | (go_simp; rfl)); intro g2 w2 he hh; clear he; replace HH : Aside0 (OwnS (fun _ => False) [Sep.blk g1 (hoC told (.slice A l.length c)) 36, Sep.blk g2 (itC x) 56] w w2) := ⟨hh⟩; clear hh)
    | ((with_reducible refine gate_dst (N := 4) rfl ?_); refine evS_box (oh HH) rfl (cs := hoC (List.replicate 16 (0 : Int)) (.slice none 0 0)) (T := 36) ?_ ?_; (focus first | (go_simp; done) | (go_simp; rfl)); intro g3 w3 he hh; clear he; replace HH : Aside0 (OwnS (fun _ => False) [Sep.blk g1 (hoC told (.slice A l.length c)) 36, Sep.blk g2 (itC x) 56, Sep.blk g3 (hoC (List.replicate 16 (0 : Int)) (.slice none 0 0)) 36] w w3) := ⟨hh⟩; clear hh)
    | ((with_reducible refine gate_ (.load 34 (.tmp 11)) rfl ?_); refine ev_cell (v := .slice A l.length c) ((blk_cell (OwnS.blk (oh HH) 0 rfl) 16).trans (hoC_last _ _ HT.out.1)) rfl rfl (by rfl) Try.underlying34 rfl ?_)
    | (go_at_call 26; refine ownS_call (oh HH) ?_; intro ht; refine (clone_calls A c l _ ?_ HL.out).mono ?_; (focus exact Kd.C_below HR.out (below_frm (OwnS.frm ht))); rintro e w4 ⟨A1, c1, rfl, ho⟩; replace HH : Aside0 (OwnS (fun _ => False) [Sep.blk g1 (hoC told (.slice A l.length c)) 36, Sep.blk g2 (itC x) 56, Sep.blk g3 (hoC (List.replicate 16 (0 : Int)) (.slice none 0 0)) 36, Sep.row kIt 56 (.slice A1 l.length c1) l] w w4) := ⟨OwnS.joinL (Bs := [Sep.row kIt 56 (.slice A1 l.length c1) l]) ht ho⟩; clear ho; clear ht)
    | ((with_reducible refine gate_ (.store 34 (.tmp 14) (.tmp 13)) rfl ?_); refine evS_storeA (oh HH) 0 rfl rfl rfl rfl (by rfl) (.slice A1 l.length c1) (by rfl) (#[.slice A1 l.length c1]) (by rfl) 1 17 rfl (hoC_size _ _ HT.out.1) (by kernel_rfl) (by decide) (by simp [Value.oneCell']) (hoC told (.slice A1 l.length c1)) (hoC_slice _ _ _ HT.out.1) ?_; intro w5 hh; replace HH : Aside0 (OwnS (fun _ => False) [Sep.blk g1 (hoC told (.slice A1 l.length c1)) 36, Sep.blk g2 (itC x) 56, Sep.blk g3 (hoC (List.replicate 16 (0 : Int)) (.slice none 0 0)) 36, Sep.row kIt 56 (.slice A1 l.length c1) l] w w5) := ⟨hh⟩; clear hh)
    | ((with_reducible refine gate_ (.load 36 (.tmp 2)) rfl ?_); refine ev_loadA (OwnS.blk (oh HH) 0 rfl) 0 17 (hoC told (.slice A1 l.length c1)) (all_of _ 17 (hoC_size _ _ HT.out.1)) rfl rfl (by rfl) Try.underlying36 rfl (hoC_size _ _ HT.out.1) (by kernel_rfl) ?_)
    | (go_at_call 28; refine ownS_call (oh HH) ?_; intro ht; refine (right_h _ told A1 c1 l HT.out ?_ HQ.out).mono ?_; (focus exact OwnS.C ht 3 rfl); rintro e w6 ⟨rfl, hb⟩; rw [HRT.out]; replace HH : Aside0 (OwnS (fun _ => False) [Sep.blk g1 (hoC told (.slice A1 l.length c1)) 36, Sep.blk g2 (itC x) 56, Sep.blk g3 (hoC (List.replicate 16 (0 : Int)) (.slice none 0 0)) 36, Sep.row kIt 56 (.slice A1 l.length c1) l] w w6) := ⟨OwnS.step ht hb⟩; clear hb; clear ht)
    | ((with_reducible refine gate_dst (N := 28) rfl ?_); refine loadG (by rfl) _ _ rfl g2 0 rfl (itC x) _ ?_ Try.underlying56 rfl (by rw [itC_size _ HX.out.1.1]; kernel_rfl) ?_; (focus (refine range_it HX.out.1.1 (OwnS.blk (oh HH) 1 rfl))))
    | (go_at_call 29; refine ownS_call (oh HH) ?_; intro ht; refine (imay_calls _ x HX.out).mono ?_; rintro e w7 ⟨rfl, hb⟩; rw [HM.out]; replace HH : Aside0 (OwnS (fun _ => False) [Sep.blk g1 (hoC told (.slice A1 l.length c1)) 36, Sep.blk g2 (itC x) 56, Sep.blk g3 (hoC (List.replicate 16 (0 : Int)) (.slice none 0 0)) 36, Sep.row kIt 56 (.slice A1 l.length c1) l] w w7) := ⟨OwnS.step ht hb⟩; clear hb; clear ht)
    | fail
    | fail)
  have HKV : Aside0 (∀ w' : World, OwnS (fun _ => False) [Sep.blk g1 (hoC told (.slice A1 l.length c1)) 36, Sep.blk g2 (itC x) 56, Sep.blk g3 (hoC (List.replicate 16 (0 : Int)) (.slice none 0 0)) 36, Sep.row kIt 56 (.slice A1 l.length c1) l] w w' → (w'.cell? ⟨g2, 0, none⟩ = some (.int .u8 f) ∧ w'.cell? ⟨g2, 1, none⟩ = some (.int .i64 q) ∧ w'.cell? ⟨g1, f.toNat, none⟩ = some (.int .u16 n) ∧ w'.cell? ⟨g1, 16, none⟩ = some (.slice A1 l.length c1))) := ⟨fun W h => ⟨(by rw [← HFX.out]; exact blk_cell (OwnS.blk h 1 rfl) 0), (by rw [← HQX.out]; exact blk_cell (OwnS.blk h 1 rfl) 1), (by rw [← HN.out]; exact (blk_cell (OwnS.blk h 0 rfl) f.toNat).trans (hoC_at _ _ f.toNat (by rw [HT.out.1]; exact HF.out))), (blk_cell (OwnS.blk h 0 rfl) 16).trans (hoC_last _ _ HT.out.1)⟩⟩
  refine wp_region_held_drew (S := fun w' => w'.cell? ⟨g2, 0, none⟩ = some (.int .u8 f) ∧ w'.cell? ⟨g2, 1, none⟩ = some (.int .i64 q) ∧ w'.cell? ⟨g1, f.toNat, none⟩ = some (.int .u16 n) ∧ w'.cell? ⟨g1, 16, none⟩ = some (.slice A1 l.length c1)) (by kernel_rfl) ?_ (fun hHeld => ?_)
  focus (try dsimp only); (exact HKV.out _ (oh HH))
  (try dsimp only at hHeld)
  refine otk (i := 0) ?_; (try simp only [Act.put, jjA, jjZ, jjS])
  refine otk (i := 1) (v := .int .i64 q) ?_; (try simp only [Act.put, jjA, jjZ, jjS])
  refine otk (i := 2) ?_; (try simp only [Act.put, jjA, jjZ, jjS])
  refine otk (i := 3) (v := .int .u8 f) ?_; (try simp only [Act.put, jjA, jjZ, jjS])
  refine otk (i := 4) ?_; (try simp only [Act.put, jjA, jjZ, jjS])
  refine otk (i := 5) ?_; (try simp only [Act.put, jjA, jjZ, jjS])
  refine otk (i := 6) (v := .int .u16 n) ?_; (try simp only [Act.put, jjA, jjZ, jjS])
  refine otk (i := 7) (v := .int .i64 n) ?_; (try simp only [Act.put, jjA, jjZ, jjS])
  refine otk (i := 8) (v := .bool false) ?_; (try simp only [Act.put, jjA, jjZ, jjS])
  refine otk (i := 9) (v := .bool false) ?_; (try simp only [Act.put, jjA, jjZ, jjS])
  refine otk (i := 10) ?_; (try simp only [Act.put, jjA, jjZ, jjS])
  refine otk (i := 11) (v := .slice A1 l.length c1) ?_; (try simp only [Act.put, jjA, jjZ, jjS])
  refine otk (i := 12) (v := .func (.func 27) #[] #[.pointer (some ⟨g2, 0, none⟩)]) ?_; (try simp only [Act.put, jjA, jjZ, jjS])
  refine wpAnyH_ready (rs := [13]) (by kernel_rfl) (by simp) ?_; refine AllReadyH.cons (by simp only [List.getElem?_toArray, List.getElem?_cons_succ, List.getElem?_cons_zero]; rfl) (fun K hK => ?_) AllReadyH.nil; go_simp; go_at_call 30; refine ownS_call (oh HH) ?_; intro ht; refine (contains_calls A1 c1 l _ ?_ g2 x ?_).mono ?_; (focus exact OwnS.C ht 3 rfl); (focus exact OwnS.blk ht 1 rfl); rintro e w8 ⟨rfl, hb⟩; rw [HIN.out]; replace HH : Aside0 (OwnS (fun _ => False) [Sep.blk g1 (hoC told (.slice A1 l.length c1)) 36, Sep.blk g2 (itC x) 56, Sep.blk g3 (hoC (List.replicate 16 (0 : Int)) (.slice none 0 0)) 36, Sep.row kIt 56 (.slice A1 l.length c1) l] w w8) := ⟨OwnS.step ht hb⟩; clear hb; clear ht; refine hK.out _ _ ?_ (fun hHeld2 => ?_); (focus (try dsimp only); (exact HKV.out _ (oh HH))); clear hK K hHeld; rename _ => hHeld; (try dsimp only at hHeld); (try simp only [Act.put, jjA, jjZ, jjS])
  refine otk (i := 14) (v := .bool false) ?_; (try simp only [Act.put, jjA, jjZ, jjS])
  refine otk (i := 15) (v := .bool false) ?_; (try simp only [Act.put, jjA, jjZ, jjS])
  refine wpAnyH_done (by kernel_rfl) ?_ _
  go_wp2_with (first
    | ((with_reducible refine gate_ (.load 30 (.tmp 51)) rfl ?_); refine ev_loadA (OwnS.blk (oh HH) 0 rfl) 0 16 (vecC told) (hoC_vec _ _ HT.out.1) rfl rfl (by rfl) Try.underlying30 rfl (vecC_size _ HT.out.1) (by kernel_rfl) ?_)
    | ((with_reducible refine gate_ (.load 56 (.tmp 3)) rfl ?_); refine ev_loadA (OwnS.blk (oh HH) 1 rfl) 0 20 (itC x) (all_of _ 20 (itC_size _ HX.out.1.1)) rfl rfl (by rfl) Try.underlying56 rfl (itC_size _ HX.out.1.1) (by kernel_rfl) ?_)
    | (go_at_call 31; refine ownS_call (oh HH) ?_; intro ht; refine (ready_calls _ told x HT.out HX.out).mono ?_; rintro e w9 ⟨rfl, hb⟩; rw [HRD.out]; replace HH : Aside0 (OwnS (fun _ => False) [Sep.blk g1 (hoC told (.slice A1 l.length c1)) 36, Sep.blk g2 (itC x) 56, Sep.blk g3 (hoC (List.replicate 16 (0 : Int)) (.slice none 0 0)) 36, Sep.row kIt 56 (.slice A1 l.length c1) l] w w9) := ⟨OwnS.step ht hb⟩; clear hb; clear ht)
    | ((with_reducible refine gate_ (.load 5 (.tmp 61)) rfl ?_); refine ev_cell (v := .int .u8 f1) ((blk_cell (OwnS.blk (oh HH) 1 rfl) 0).trans HFC1.out) rfl rfl (by rfl) Try.underlying5 rfl ?_)
    | ((with_reducible refine gate_ (.load 27 (.tmp 64)) rfl ?_); refine ev_cell (v := .int .u16 n1) ((blk_cell (OwnS.blk (oh HH) 0 rfl) f1.toNat).trans (HAT1.out _)) rfl rfl (by rfl) Try.underlying27 rfl ?_)
    | ((with_reducible refine gate_ (.store 27 (.tmp 68) (.tmp 66)) rfl ?_); refine evS_storeA (oh HH) 0 rfl rfl rfl rfl (by rfl) (.int .u16 (n1 + 1)) (by rfl) (#[.int .u16 (n1 + 1)]) (by rfl) 1 17 rfl (hoC_size _ _ HT.out.1) (by kernel_rfl) HFS1.out (by simp [Value.oneCell']) (hoC told2 (.slice A1 l.length c1)) (HPS1.out _) ?_; intro w10 hh; replace HH : Aside0 (OwnS (fun _ => False) [Sep.blk g1 (hoC told2 (.slice A1 l.length c1)) 36, Sep.blk g2 (itC x) 56, Sep.blk g3 (hoC (List.replicate 16 (0 : Int)) (.slice none 0 0)) 36, Sep.row kIt 56 (.slice A1 l.length c1) l] w w10) := ⟨hh⟩; clear hh)
    | ((with_reducible refine gate_ (.load 56 (.tmp 3)) rfl ?_); refine ev_loadA (OwnS.blk (oh HH) 1 rfl) 0 20 (itC x) (all_of _ 20 (itC_size _ HX.out.1.1)) rfl rfl (by rfl) Try.underlying56 rfl (itC_size _ HX.out.1.1) (by kernel_rfl) ?_)
    | ((with_reducible refine gate_dst (N := 70) rfl ?_); refine evS_lit_it (oh HH) rfl x HX.out rfl rfl ?_; intro g5 w11 hh; replace HH : Aside0 (OwnS (fun _ => False) [Sep.blk g1 (hoC told2 (.slice A1 l.length c1)) 36, Sep.blk g2 (itC x) 56, Sep.blk g3 (hoC (List.replicate 16 (0 : Int)) (.slice none 0 0)) 36, Sep.row kIt 56 (.slice A1 l.length c1) l, Sep.row kIt 56 (.slice (some ⟨g5, 0, none⟩) 1 1) [x]] w w11) := ⟨hh⟩; clear hh)
    | fail
    | fail)
  clear HKV
  go_loopw [8] (fun v8 W => ∃ (told5 : List Int) (l1 o1 : List It) (B1 B2 : Option Addr) (d1 d2 : Nat), v8 = .slice B2 o1.length d2 ∧ Aside0 (okV told5) ∧ Aside0 (drain l.length told2 l [x] = drain l1.length told5 l1 o1) ∧ o1.length + l1.length = l.length + 1 ∧ Aside0 (OwnS (fun _ => False) [Sep.blk g1 (hoC told5 (.slice B1 l1.length d1)) 36, Sep.blk g2 (itC x) 56, Sep.blk g3 (hoC (List.replicate 16 (0 : Int)) (.slice none 0 0)) 36, Sep.row kIt 56 (.slice B1 l1.length d1) l1, Sep.row kIt 56 (.slice B2 o1.length d2) o1] w W)) (fun v8 _ => l.length + 1 - lenOf v8)
  case atStart => exact ⟨told2, l, [x], A1, _, c1, _, rfl, HT2, ⟨rfl⟩, by simp; omega, HH⟩
  case round =>
    clear HH
    obtain ⟨told5, l1, o1, B1, B2, d1, d2, rfl, HT5, HD, hsum, HH⟩ := hrel
    rcases idx_cases (readyB told5) l1 with ⟨hi0, hno⟩ | ⟨i, hi, hi0, hyr, hbf⟩
    · have HI := Aside0.mk hi0
      have HE : Aside0 (drain l.length told2 l [x] = (told5, l1, o1)) := ⟨by rw [HD.out, drain_no hno]⟩
      clear hi0 hno
      go_wp2_with (first
        | ((with_reducible refine gate_ (.load 34 (.tmp 71)) rfl ?_); refine ev_cell (v := .slice B1 l1.length d1) ((blk_cell (OwnS.blk (oh HH) 0 rfl) 16).trans (hoC_last _ _ HT5.out.1)) rfl rfl (by rfl) Try.underlying34 rfl ?_)
        | (go_at_call 32; refine ownS_call (oh HH) ?_; intro ht; refine (index2_calls B1 d1 l1 _ ?_ g1 told5 (.slice B1 l1.length d1) HT5.out ?_).mono ?_; (focus exact OwnS.C ht 3 rfl); (focus exact OwnS.blk ht 0 rfl); rintro e w61 ⟨rfl, hb⟩; rw [HI.out]; replace HH : Aside0 (OwnS (fun _ => False) [Sep.blk g1 (hoC told5 (.slice B1 l1.length d1)) 36, Sep.blk g2 (itC x) 56, Sep.blk g3 (hoC (List.replicate 16 (0 : Int)) (.slice none 0 0)) 36, Sep.row kIt 56 (.slice B1 l1.length d1) l1, Sep.row kIt 56 (.slice B2 o1.length d2) o1] w w61) := ⟨OwnS.step ht hb⟩; clear hb; clear ht)
        | ((with_reducible refine gate_ (.load 36 (.tmp 2)) rfl ?_); refine ev_loadA (OwnS.blk (oh HH) 0 rfl) 0 17 (hoC told5 (.slice B1 l1.length d1)) (all_of _ 17 (hoC_size _ _ HT5.out.1)) rfl rfl (by rfl) Try.underlying36 rfl (hoC_size _ _ HT5.out.1) (by kernel_rfl) ?_)
        | ((with_reducible refine gate_ (.store 36 (.tmp 4) (.tmp 77)) rfl ?_); refine evS_storeA (oh HH) 2 rfl rfl rfl rfl (by rfl) (.agg (hoC told5 (.slice B1 l1.length d1))) (by rfl) (hoC told5 (.slice B1 l1.length d1)) (by rfl) 17 17 (hoC_size _ _ HT5.out.1) (hoC_size _ _ (by rfl)) (by kernel_rfl) (by decide) (hoC_one _ _ rfl) (hoC told5 (.slice B1 l1.length d1)) (put_all _ _ (by rw [(hoC_size _ _ HT5.out.1), (hoC_size _ _ (by rfl))])) ?_; intro w62 hh; replace HH : Aside0 (OwnS (fun _ => False) [Sep.blk g1 (hoC told5 (.slice B1 l1.length d1)) 36, Sep.blk g2 (itC x) 56, Sep.blk g3 (hoC told5 (.slice B1 l1.length d1)) 36, Sep.row kIt 56 (.slice B1 l1.length d1) l1, Sep.row kIt 56 (.slice B2 o1.length d2) o1] w w62) := ⟨hh⟩; clear hh)
        | fail
        | fail)
      refine bodyPost_ret (v := .tuple #[.agg (hoC told5 (.slice B1 l1.length d1)), .slice B2 o1.length d2, .int .i64 0]) (results_list (rs := [.cell 4 36, .tmp 5, .tmp 6]) (vs := [.agg (hoC told5 (.slice B1 l1.length d1)), _, _]) rfl (by simp) (.cell g3 36 (hoC told5 (.slice B1 l1.length d1)) (0, 0) _ rfl (OwnS.blk HH.out 2 rfl) Try.underlying36 rfl (by rw [(hoC_size _ _ HT5.out.1)]; kernel_rfl) (.tmp (.tmp .nil)))) rfl ?_
      rw [HPUT.out, HE.out]
      exact ⟨B1, d1, B2, d2, rfl, OwnS.own (OwnS.picks HH.out [3, 4] (by decide))⟩
    · obtain ⟨ga, hA, hnc, hcm⟩ := row_front (OwnS.row HH.out 3 rfl) (by omega)
      cases hA
      have HI := Aside0.mk hi0
      obtain ⟨y, hy⟩ : ∃ y, l1[i] = y := ⟨_, rfl⟩
      have HY := Aside0.mk hy
      have HOY : Aside0 (okI y) := ⟨by obtain ⟨_, _, _, h9, _⟩ := at_It (OwnS.C HH.out 3 rfl) i hi; rw [hy] at h9; exact h9⟩
      rw [hy] at hyr
      obtain ⟨f5, hf5⟩ : ∃ f, y.frm = f := ⟨_, rfl⟩
      obtain ⟨hr5, hl5, htt5⟩ := ready_told HOY.out hyr
      have ha5 : 0 ≤ y.frm := (HOY.out).2.1.1
      obtain ⟨n5, hn5⟩ : ∃ n, told5.getD f5.toNat 0 = n := ⟨_, rfl⟩
      obtain ⟨told6, htold6⟩ : ∃ t, inc told5 y = t := ⟨_, rfl⟩
      have HT6 : Aside0 (okV told6) := ⟨htold6 ▸ inc_ok (HT5.out) HOY.out hyr⟩
      rw [hf5] at hr5 htt5 ha5
      have HFC0 : Aside0 ((itC y)[0]? = some (.int .u8 f5)) := ⟨by rw [← hf5]; rfl⟩
      have HFC5 := HFC0
      have hlt5 : f5.toNat < 16 := by omega
      have HAT5 : Aside0 (∀ s, (hoC told5 s)[f5.toNat]? = some (.int .u16 n5)) := ⟨fun s => by rw [← hn5]; exact hoC_at _ s _ (by rw [(HT5.out).1]; exact hlt5)⟩
      have HFS5 : Aside0 (f5.toNat + 1 ≤ 17) := ⟨by omega⟩
      have HPS5 : Aside0 (∀ s, (putL (hoC told5 s).toList f5.toNat (#[Value.int .u16 (n5 + 1)]).toList).toArray = hoC told6 s) := ⟨fun s => by rw [← htold6]; unfold inc ofT; rw [hf5, hn5]; exact hoC_put _ s _ _ (HT5.out).1 hlt5⟩
      have hng5 := okV_at (HT5.out) f5.toNat hlt5
      rw [hn5] at hng5 hr5
      have hwr5 : IntKind.u16.wrap (n5 + 1) = n5 + 1 := by rw [IntKind.wrap_u16]; omega
      have HINC5 := Aside0.mk htold6
      clear HFC0 hr5 hl5 hlt5 hng5 hn5 htold6 hf5
      have HNX : Aside0 (drain l.length told2 l [x] = drain (l1.length - 1) told6 (l1.eraseIdx i) (o1 ++ [y])) := ⟨by
        rw [HD.out, show l1.length = (l1.length - 1) + 1 by omega, drain_yes hi (by rw [hy]; exact hyr) hbf, hy, HINC5.out]; rfl⟩
      clear hi0 hy hyr hbf
      have HROW : Aside0 (∀ W, OwnS (fun _ => False) [Sep.blk g1 (hoC told5 (.slice (some ⟨ga, 0, none⟩) l1.length d1)) 36, Sep.blk g2 (itC x) 56, Sep.blk g3 (hoC (List.replicate 16 (0 : Int)) (.slice none 0 0)) 36, Sep.row kIt 56 (.slice (some ⟨ga, 0, none⟩) l1.length d1) l1, Sep.row kIt 56 (.slice B2 o1.length d2) o1] w W → W.rangeAt ga (i * 20) (itC y).toList) := ⟨fun W h => by obtain ⟨g9, o9, e9, _, r9⟩ := at_It (OwnS.C h 3 rfl) i hi; cases e9; rw [HY.out, Nat.zero_add] at r9; exact r9⟩
      have q0 : 0 ≤ (i : Int) := by omega
      have q1 : (i : Int) < (l1.length : Int) := by omega
      have hneg : decide ((i : Int) < 0) = false := decide_eq_false (by omega)
      go_wp2_with (first
        | ((with_reducible refine gate_ (.load 34 (.tmp 71)) rfl ?_); refine ev_cell (v := .slice (some ⟨ga, 0, none⟩) l1.length d1) ((blk_cell (OwnS.blk (oh HH) 0 rfl) 16).trans (hoC_last _ _ HT5.out.1)) rfl rfl (by rfl) Try.underlying34 rfl ?_)
        | (go_at_call 32; refine ownS_call (oh HH) ?_; intro ht; refine (index2_calls (some ⟨ga, 0, none⟩) d1 l1 _ ?_ g1 told5 (.slice (some ⟨ga, 0, none⟩) l1.length d1) HT5.out ?_).mono ?_; (focus exact OwnS.C ht 3 rfl); (focus exact OwnS.blk ht 0 rfl); rintro e w61 ⟨rfl, hb⟩; rw [HI.out]; replace HH : Aside0 (OwnS (fun _ => False) [Sep.blk g1 (hoC told5 (.slice (some ⟨ga, 0, none⟩) l1.length d1)) 36, Sep.blk g2 (itC x) 56, Sep.blk g3 (hoC (List.replicate 16 (0 : Int)) (.slice none 0 0)) 36, Sep.row kIt 56 (.slice (some ⟨ga, 0, none⟩) l1.length d1) l1, Sep.row kIt 56 (.slice B2 o1.length d2) o1] w w61) := ⟨OwnS.step ht hb⟩; clear hb; clear ht)
        | ((with_reducible refine gate_ (.load 34 (.tmp 79)) rfl ?_); refine ev_cell (v := .slice (some ⟨ga, 0, none⟩) l1.length d1) ((blk_cell (OwnS.blk (oh HH) 0 rfl) 16).trans (hoC_last _ _ HT5.out.1)) rfl rfl (by rfl) Try.underlying34 rfl ?_)
        | ((with_reducible refine gate_ (.load 56 (.tmp 82)) rfl ?_); refine ev_loadR (b := ga) (p0 := i * 20) (n := 20) (cs := itC y) (HROW.out _ ?_) rfl rfl (by rfl) Try.underlying56 rfl (itC_size _ HOY.out.1.1) (by kernel_rfl) ?_; (focus first | with_reducible exact HH.out | ((with_reducible repeat first | refine OwnS.alloc ?_ _ | refine OwnS.drewN ?_ _ | refine OwnS.drew ?_); with_reducible exact HH.out)))
        | ((with_reducible refine gate_dst (N := 10) rfl ?_); refine evS_box (oh HH) rfl (cs := itC zI) (T := 56) ?_ ?_; (focus first | (go_simp; done) | (go_simp; rfl)); intro g4 w62 he hh; clear he; replace HH : Aside0 (OwnS (fun _ => False) [Sep.blk g1 (hoC told5 (.slice (some ⟨ga, 0, none⟩) l1.length d1)) 36, Sep.blk g2 (itC x) 56, Sep.blk g3 (hoC (List.replicate 16 (0 : Int)) (.slice none 0 0)) 36, Sep.row kIt 56 (.slice (some ⟨ga, 0, none⟩) l1.length d1) l1, Sep.row kIt 56 (.slice B2 o1.length d2) o1, Sep.blk g4 (itC zI) 56] w w62) := ⟨hh⟩; clear hh)
        | ((with_reducible refine gate_ (.store 56 (.tmp 10) (.tmp 83)) rfl ?_); refine evS_storeA (oh HH) 5 rfl rfl rfl rfl (by rfl) (.agg (itC y)) (by rfl) (itC y) (by rfl) 20 20 (itC_size _ HOY.out.1.1) (itC_size _ zI_len) (by kernel_rfl) (by decide) (itC_one _) (itC y) (put_all _ _ (by rw [(itC_size _ HOY.out.1.1), (itC_size _ zI_len)])) ?_; intro w63 hh; replace HH : Aside0 (OwnS (fun _ => False) [Sep.blk g1 (hoC told5 (.slice (some ⟨ga, 0, none⟩) l1.length d1)) 36, Sep.blk g2 (itC x) 56, Sep.blk g3 (hoC (List.replicate 16 (0 : Int)) (.slice none 0 0)) 36, Sep.row kIt 56 (.slice (some ⟨ga, 0, none⟩) l1.length d1) l1, Sep.row kIt 56 (.slice B2 o1.length d2) o1, Sep.blk g4 (itC y) 56] w w63) := ⟨hh⟩; clear hh)
        | ((with_reducible refine gate_ (.load 34 (.tmp 84)) rfl ?_); refine ev_cell (v := .slice (some ⟨ga, 0, none⟩) l1.length d1) ((blk_cell (OwnS.blk (oh HH) 0 rfl) 16).trans (hoC_last _ _ HT5.out.1)) rfl rfl (by rfl) Try.underlying34 rfl ?_)
        | (go_at_call 34; refine ownS_call (oh HH) ?_; intro ht; refine ownS_meth ht 3 rfl ?_; intro T hT hTS hput; refine (delete_calls T ga l1.length d1 l1 _ hT i hi hnc hcm).mono ?_; rintro e w64 ⟨rfl, ho⟩; replace HH : Aside0 (OwnS (fun _ => False) [Sep.blk g1 (hoC told5 (.slice (some ⟨ga, 0, none⟩) l1.length d1)) 36, Sep.blk g2 (itC x) 56, Sep.blk g3 (hoC (List.replicate 16 (0 : Int)) (.slice none 0 0)) 36, Sep.row kIt 56 (.slice (some ⟨ga, 0, none⟩) (l1.length - 1) d1) (l1.eraseIdx i), Sep.row kIt 56 (.slice B2 o1.length d2) o1, Sep.blk g4 (itC y) 56] w w64) := ⟨hput (Sep.row kIt 56 (.slice (some ⟨ga, 0, none⟩) (l1.length - 1) d1) (l1.eraseIdx i)) [] w64 ho⟩; clear ho hput hT hTS ht)
        | ((with_reducible refine gate_ (.store 34 (.tmp 90) (.tmp 89)) rfl ?_); refine evS_storeA (oh HH) 0 rfl rfl rfl rfl (by rfl) (.slice (some ⟨ga, 0, none⟩) (l1.length - 1) d1) (by rfl) (#[.slice (some ⟨ga, 0, none⟩) (l1.length - 1) d1]) (by rfl) 1 17 rfl (hoC_size _ _ HT5.out.1) (by kernel_rfl) (by decide) (by simp [Value.oneCell']) (hoC told5 (.slice (some ⟨ga, 0, none⟩) (l1.length - 1) d1)) (hoC_slice _ _ _ HT5.out.1) ?_; intro w65 hh; replace HH : Aside0 (OwnS (fun _ => False) [Sep.blk g1 (hoC told5 (.slice (some ⟨ga, 0, none⟩) (l1.length - 1) d1)) 36, Sep.blk g2 (itC x) 56, Sep.blk g3 (hoC (List.replicate 16 (0 : Int)) (.slice none 0 0)) 36, Sep.row kIt 56 (.slice (some ⟨ga, 0, none⟩) (l1.length - 1) d1) (l1.eraseIdx i), Sep.row kIt 56 (.slice B2 o1.length d2) o1, Sep.blk g4 (itC y) 56] w w65) := ⟨hh⟩; clear hh)
        | ((with_reducible refine gate_ (.load 5 (.tmp 91)) rfl ?_); refine ev_cell (v := .int .u8 f5) ((blk_cell (OwnS.blk (oh HH) 5 rfl) 0).trans HFC5.out) rfl rfl (by rfl) Try.underlying5 rfl ?_)
        | ((with_reducible refine gate_ (.load 27 (.tmp 94)) rfl ?_); refine ev_cell (v := .int .u16 n5) ((blk_cell (OwnS.blk (oh HH) 0 rfl) f5.toNat).trans (HAT5.out _)) rfl rfl (by rfl) Try.underlying27 rfl ?_)
        | ((with_reducible refine gate_ (.store 27 (.tmp 98) (.tmp 96)) rfl ?_); refine evS_storeA (oh HH) 0 rfl rfl rfl rfl (by rfl) (.int .u16 (n5 + 1)) (by rfl) (#[.int .u16 (n5 + 1)]) (by rfl) 1 17 rfl (hoC_size _ _ HT5.out.1) (by kernel_rfl) HFS5.out (by simp [Value.oneCell']) (hoC told6 (.slice (some ⟨ga, 0, none⟩) (l1.length - 1) d1)) (HPS5.out _) ?_; intro w66 hh; replace HH : Aside0 (OwnS (fun _ => False) [Sep.blk g1 (hoC told6 (.slice (some ⟨ga, 0, none⟩) (l1.length - 1) d1)) 36, Sep.blk g2 (itC x) 56, Sep.blk g3 (hoC (List.replicate 16 (0 : Int)) (.slice none 0 0)) 36, Sep.row kIt 56 (.slice (some ⟨ga, 0, none⟩) (l1.length - 1) d1) (l1.eraseIdx i), Sep.row kIt 56 (.slice B2 o1.length d2) o1, Sep.blk g4 (itC y) 56] w w66) := ⟨hh⟩; clear hh)
        | ((with_reducible refine gate_ (.load 56 (.tmp 10)) rfl ?_); refine ev_loadA (OwnS.blk (oh HH) 5 rfl) 0 20 (itC y) (all_of _ 20 (itC_size _ HOY.out.1.1)) rfl rfl (by rfl) Try.underlying56 rfl (itC_size _ HOY.out.1.1) (by kernel_rfl) ?_)
        | ((with_reducible refine gate_dst (N := 101) rfl ?_); refine lit1 rfl y HOY.out.1.1 rfl rfl ?_)
        | (at_builtin; refine evS_appendR kIt (oh HH) 4 rfl (.tmp 99) (.tmp 101) 34 56 (.agg (itC zI)) 72 rfl Try.underlying34 infoI rfl (by first | decide | exact Nat.succ_pos _) (by decide) (.slice B2 o1.length d2) o1 y (itL y) rfl rfl ?_ ?_ ?_ ?_; (focus first | rfl | (simp [Act.eval]; done)); (focus exact fun _ => kIt_M HOY.out); (focus have := HL.out; omega); intro A9 c9 w67 hh; replace HH : Aside0 (OwnS (fun _ => False) [Sep.blk g1 (hoC told6 (.slice (some ⟨ga, 0, none⟩) (l1.length - 1) d1)) 36, Sep.blk g2 (itC x) 56, Sep.blk g3 (hoC (List.replicate 16 (0 : Int)) (.slice none 0 0)) 36, Sep.row kIt 56 (.slice (some ⟨ga, 0, none⟩) (l1.length - 1) d1) (l1.eraseIdx i), Sep.row kIt 56 (.slice A9 (o1.length + 1) c9) (o1 ++ [y]), Sep.blk g4 (itC y) 56] w w67) := ⟨hh⟩; clear hh)
        | fail
        | fail)
      go_roundw
      case rel =>
        have h8 := OwnS.take HH.out 5
        have he : l1.length - 1 = (l1.eraseIdx i).length := by rw [List.length_eraseIdx]; simp [hi]
        have ho : o1.length + 1 = (o1 ++ [y]).length := by simp
        rw [he, ho] at h8
        exact ⟨told6, l1.eraseIdx i, o1 ++ [y], _, _, _, _, by rw [ho], HT6, ⟨by rw [HNX.out, he]⟩, by rw [← he, ← ho]; omega, ⟨h8⟩⟩
      case measure => simp [lenOf]; omega
end Go.Proofs.Ytbaknecnkipooaa.Hld
