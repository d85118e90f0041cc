/- Votes: the walks of Take's closure, of ready, of cast. -/
import Derived.Test.YtbaknecnkipooaaM03
namespace Go.Proofs.Ytbaknecnkipooaa.Vot
open Go Go.RowKit Go.Proofs.YtbaknecnkipooaaW.PrintWords Go.Proofs.Ytbaknecnkipooaa.Cnt Go.Proofs.Ytbaknecnkipooaa.Opn
set_option linter.unusedVariables false
set_option linter.unusedSimpArgs false
theorem kB_openM {w : World} {base : Nat} {ok : Nat → Prop} {x : Bal} {cs : List Value} (h : kB.M w base ok x cs) : cs = [.string x.body, .int .u16 (x.who : Int)] := by
  obtain ⟨_, _, rfl, rfl, rfl⟩ := h
  exact rfl
theorem R_who {w : World} {base g n cap p : Nat} {l : List Bal} (h : kB.R 113 w base (fun _ => True) (.slice (some ⟨g, 0, none⟩) n cap) l) (hp : p < l.length) :
    w.cell? ⟨g, p * 2, none⟩ = some (.string l[p].body) ∧ w.cell? ⟨g, p * 2 + 1, none⟩ = some (.int .u16 (l[p].who : Int)) ∧ w.frozen? ⟨g, p * 2 + 1, none⟩ = false := by
  have hn := (Kd.R_reads' h).1
  obtain ⟨cc, hcl, hM, hcc, hfz⟩ := Kd.R_elem h ⟨ByteArray.empty, 0⟩ (p : Int) (by omega) (by omega)
  have hq : l.getD ((p : Int)).toNat ⟨ByteArray.empty, 0⟩ = l[p] := by simp [hp]
  rw [hq] at hM
  obtain rfl := kB_openM hM
  exact ⟨hcc 0 _ rfl, hcc 1 _ rfl, hfz 1⟩
theorem R_setwho {w : World} {base g n cap p : Nat} {l : List Bal} {m : Nat} (h : kB.R 113 w base (fun _ => True) (.slice (some ⟨g, 0, none⟩) n cap) l) (hp : p < l.length) :
    kB.R 113 (w.setCell ⟨g, p * 2 + 1, none⟩ (.int .u16 (m : Int))) base (fun _ => True) (.slice (some ⟨g, 0, none⟩) n cap) (l.set p ⟨l[p].body, m⟩) := by
  have hn := (Kd.R_reads' h).1
  obtain ⟨cc, hcl, hM, hcc, hfz⟩ := Kd.R_elem h ⟨ByteArray.empty, 0⟩ (p : Int) (by omega) (by omega)
  have hq : l.getD ((p : Int)).toNat ⟨ByteArray.empty, 0⟩ = l[p] := by simp [hp]
  rw [hq] at hM
  obtain rfl := kB_openM hM
  exact (Kd.R_seg (okp := fun _ => False) h (p : Int) (by omega) (by omega) (seg := [.int .u16 (m : Int)]) (j := 1) (x' := ⟨l[p].body, m⟩) hcl hcc (Nat.le_refl 2) (kB_mkM _ _ _ ⟨l[p].body, m⟩) (fun _ hk => hk.elim)).1
def FailR (c : Cas) (er : Int) (w : World) (en : Ending) (w' : World) : Prop := ∃ v, en = .returned (.tuple #[v, .slice none 0 0, .string ⟨#[]⟩, .bool false, .int .i64 er]) ∧ CaseM w' v c ∧ Below w.heap.size w w'
set_option maxHeartbeats 1000000 in
set_option maxRecDepth 100000 in
theorem fail_calls (c : Cas) (AE : Option Addr) (cE : Nat) (AR : Option Addr) (cR : Nat) (er : Int) (g : Nat) (w : World) (hg : w.heap[g]? = some (.cells #[.bool c.echoed, .bool c.readied, .bool c.done, .slice AE c.echoes.length cE, .slice AR c.readies.length cR] 61 (0, 0))) (hE : kB.C w AE c.echoes.length c.echoes) (hR : kB.C w AR c.readies.length c.readies) (hlE : c.echoes.length ≤ 1000000) (hlR : c.readies.length ≤ 1000000) :
    Calls Try.prog 36 #[.int .i64 er, .pointer (some ⟨g, 0, none⟩)] w (FailR c er w) := by
  have HE := Aside0.mk hE
  have HR := Aside0.mk hR
  have HG := Aside0.mk hg
  clear hE hR hg
  have HB := Aside0.mk (Below.refl w.heap.size w)
  go_enter Try.func36, Try.ntmps36
  go_wp2_with (first
    | (refine wpList_load_row rfl 61 (.tmp 1) rfl g rfl 61 #[.bool c.echoed, .bool c.readied, .bool c.done, .slice AE c.echoes.length cE, .slice AR c.readies.length cR] (0, 0) _ (by repeat (first | (with_reducible exact HG.out) | (with_reducible refine blk_drew ?_) | (with_reducible refine blk_drewN ?_ _) | (with_reducible refine blk_newg ?_; (simp; done)) | (with_reducible refine blk_alloc ?_ _))) Try.underlying61 rfl (by kernel_rfl) ?_)
    | (go_at_call 37; refine (own_calls c AE cE AR cR _ (Kd.C_below HE.out (by repeat (first | (with_reducible exact HB.out) | (with_reducible refine below_alloc ?_ _) | (with_reducible refine pw_below_drewN ?_ _) | (with_reducible refine below_drew ?_)))) (Kd.C_below HR.out (by repeat (first | (with_reducible exact HB.out) | (with_reducible refine below_alloc ?_ _) | (with_reducible refine pw_below_drewN ?_ _) | (with_reducible refine below_drew ?_)))) hlE hlR).mono ?_; rintro e w1 ⟨v, rfl, hv, hb⟩; have HBx : Aside0 (Below w.heap.size w w1) := ⟨below_back hb (by repeat (first | (with_reducible exact HB.out) | (with_reducible refine below_alloc ?_ _) | (with_reducible refine pw_below_drewN ?_ _) | (with_reducible refine below_drew ?_)))⟩; have HT : Aside0 (w1.heap[w.heap.size]? = some (.cells #[.bool false, .bool false, .bool false, .slice none 0 0, .slice none 0 0] 61 (0, 0))) := ⟨blk_below (by repeat (first | (with_reducible exact HG.out) | (with_reducible refine blk_drew ?_) | (with_reducible refine blk_drewN ?_ _) | (with_reducible refine blk_newg ?_; (simp; done)) | (with_reducible refine blk_alloc ?_ _))) hb⟩; clear HB hb; have HB := HBx; clear HBx; obtain ⟨A1, c1, A2, c2, rfl, hC1, hC2⟩ := hv; have HC1 := Aside0.mk hC1; have HC2 := Aside0.mk hC2; clear hC1 hC2)
    | (refine wpList_store_row rfl 61 (.tmp 3) (.tmp 9) rfl w.heap.size #[.bool c.echoed, .bool c.readied, .bool c.done, .slice A1 c.echoes.length c1, .slice A2 c.readies.length c2] rfl rfl 61 _ HT.out (by kernel_rfl) rfl (by simp [Value.oneCell']) ?_)
    | fail)
  refine bodyPost_ret (v := .tuple #[.agg #[.bool c.echoed, .bool c.readied, .bool c.done, .slice A1 c.echoes.length c1, .slice A2 c.readies.length c2], .slice none 0 0, .string ⟨#[]⟩, .bool false, .int .i64 er]) (results_list (rs := [.cell 3 61, .tmp 4, .tmp 5, .tmp 6, .tmp 7]) (vs := [.agg #[.bool c.echoed, .bool c.readied, .bool c.done, .slice A1 c.echoes.length c1, .slice A2 c.readies.length c2], .slice none 0 0, .string ⟨#[]⟩, .bool false, .int .i64 er]) rfl (by simp) (.cell w.heap.size 61 #[.bool c.echoed, .bool c.readied, .bool c.done, .slice A1 c.echoes.length c1, .slice A2 c.readies.length c2] (0, 0) _ rfl (setRow_heap _ _ _ _ _ _ HT.out) Try.underlying61 rfl (by kernel_rfl) (.tmp (.tmp (.tmp (.tmp .nil)))))) rfl ⟨_, rfl, ⟨_, _, _, _, rfl, RB_row HC1.out HT.out (by decide) _, RB_row HC2.out HT.out (by decide) _⟩, below_setRow HB.out (Nat.le_refl _) _⟩
theorem ready_yes (g : Nat) (e d : Bool) (vE vR : Value) (body : ByteArray) (w : World) (hg : w.heap[g]? = some (.cells #[.bool e, .bool true, .bool d, vE, vR] 61 (0, 0))) :
    Calls Try.prog 43 #[.pointer (some ⟨g, 0, none⟩), .string body] w (fun en w' => en = .returned (.slice none 0 0) ∧ w = w') := by
  have h1 : w.cell? ⟨g, 1, none⟩ = some (.bool true) := blk_cell hg 1
  clear hg
  go_enter Try.func43, Try.ntmps43
  go_wp2_with fail
  go_ret
  exact ⟨rfl, rfl⟩
theorem ready_no (g : Nat) (e d : Bool) (vE vR : Value) (body : ByteArray) (w : World) (hg : w.heap[g]? = some (.cells #[.bool e, .bool false, .bool d, vE, vR] 61 (0, 0))) :
    Calls Try.prog 43 #[.pointer (some ⟨g, 0, none⟩), .string body] w (fun en w' => en = .returned (.slice (some ⟨w.heap.size, 0, none⟩) 1 1) ∧ (w.setCell ⟨g, 1, none⟩ (.bool true)).alloc (.cells #[.int .i64 3, .string body] 102) = w') := by
  have h1 : w.cell? ⟨g, 1, none⟩ = some (.bool false) := blk_cell hg 1
  have h2 : w.frozen? ⟨g, 1, none⟩ = false := blk_frozen hg 1
  clear hg
  go_enter Try.func43, Try.ntmps43
  go_wp2_with fail
  go_ret
  exact ⟨by simp, rfl⟩
def orL (l : List Bal) : Nat := l.foldl (fun a x => a ||| x.who) 0
theorem orL_snoc (l : List Bal) (x : Bal) : orL (l ++ [x]) = orL l ||| x.who := by simp [orL]
theorem or_lt {a b : Nat} (ha : a < 65536) (hb : b < 65536) : a ||| b < 65536 := Nat.or_lt_two_pow (n := 16) ha hb
theorem orL_take (l : List Bal) (i : Nat) (h : i < l.length) : orL (l.take (i + 1)) = orL (l.take i) ||| l[i].who := by rw [← List.take_append_getElem h, orL_snoc]
theorem orL_lt (l : List Bal) (h : ∀ x ∈ l, x.who < 65536) : ∀ i, i ≤ l.length → orL (l.take i) < 65536
  | 0, _ => by simp [orL]
  | i + 1, hi => by rw [orL_take l i (by omega)]; exact or_lt (orL_lt l h i (by omega)) (h _ (List.getElem_mem _))
def votedL (l : List Bal) (id : Int) : Bool := l.any (fun x => hasB x.who id)
theorem hasB_or (a b : Nat) (id : Int) : hasB (a ||| b) id = (hasB a id || hasB b id) := by
  unfold hasB
  rw [Nat.testBit_or]
  cases decide (id < 16) <;> simp
theorem hasB_zero (id : Int) : hasB 0 id = false := by simp [hasB]
theorem hasB_orL (id : Int) : ∀ l : List Bal, hasB (orL l) id = votedL l id := by
  intro l
  have h : ∀ (l : List Bal) (a : Nat), hasB (l.foldl (fun a x => a ||| x.who) a) id = (hasB a id || votedL l id) := by
    intro l
    induction l with
    | nil => intro a; simp [votedL]
    | cons x r ih =>
      intro a
      rw [List.foldl_cons, ih, hasB_or]
      simp [votedL, Bool.or_assoc]
  have := h l 0
  rw [hasB_zero, Bool.false_or] at this
  exact this
def withL : List Bal → Int → ByteArray → List Bal
  | [], id, body => [⟨body, bitN id⟩]
  | x :: r, id, body => if hit body x = true then ⟨x.body, x.who ||| bitN id⟩ :: r else x :: withL r id body
theorem withL_at : ∀ (l : List Bal) (id : Int) (body : ByteArray), withL l id body = if h : posN l body < l.length then l.set (posN l body) ⟨l[posN l body].body, l[posN l body].who ||| bitN id⟩ else l ++ [⟨body, bitN id⟩]
  | [], _, _ => rfl
  | x :: r, id, body => by
    have ih := withL_at r id body
    unfold withL posN
    by_cases hx : hit body x = true
    · simp [List.findIdx_cons, hx]
    · simp only [hx, Bool.false_eq_true, if_false]
      rw [ih]
      unfold posN
      by_cases hlt : List.findIdx (hit body) r < r.length
      · simp [List.findIdx_cons, hx, hlt]
      · simp [List.findIdx_cons, hx, hlt]
theorem hit_self (body : ByteArray) (n : Nat) : hit body ⟨body, n⟩ = true := (bytes_eq _ _).2 rfl
theorem forL_with : ∀ (l : List Bal) (id : Int) (body : ByteArray), forL (withL l id body) body = forL l body ||| bitN id
  | [], id, body => by simp [withL, forL, hit_self]
  | x :: r, id, body => by
    have ih := forL_with r id body
    unfold withL
    by_cases hx : hit body x = true
    · have : hit body ⟨x.body, x.who ||| bitN id⟩ = true := hx
      simp [forL, hx, this]
    · simp only [hx, Bool.false_eq_true, if_false]
      simp only [forL, hx, Bool.false_eq_true, if_false]
      exact ih
theorem with_yes {l : List Bal} {body : ByteArray} {id : Int} {p : Nat} (hp : p < l.length) (he : posN l body = p) : withL l id body = l.set p ⟨l[p].body, l[p].who ||| bitN id⟩ ∧ forL (withL l id body) body = l[p].who ||| bitN id := by
  subst he
  exact ⟨by rw [withL_at, dif_pos hp], by rw [forL_with, forL_at, dif_pos hp]⟩
theorem with_no {l : List Bal} {body : ByteArray} {id : Int} (hp : ¬ posN l body < l.length) : withL l id body = l ++ [⟨body, bitN id⟩] ∧ forL (withL l id body) body = bitN id :=
  ⟨by rw [withL_at, dif_neg hp], by rw [forL_with, forL_at, dif_neg hp, Nat.zero_or]⟩
def whoOk (l : List Bal) : Prop := ∀ x ∈ l, x.who < 65536
def CastR (l : List Bal) (many : Int) (ok : Bool) (w : World) (en : Ending) (w' : World) : Prop := ∃ A c, en = .returned (.tuple #[.slice A l.length c, .int .i64 many, .bool ok]) ∧ l.length ≤ c ∧ kB.C w' A l.length l ∧ Below w.heap.size w w'
def CastY (l : List Bal) (many : Int) (w : World) (en : Ending) (w' : World) : Prop := ∃ A c, en = .returned (.tuple #[.slice A l.length c, .int .i64 many, .bool true]) ∧ RB w' (.slice A l.length c) l ∧ Below w.heap.size w w'
def CastQ (l : List Bal) (who : Int) (body : ByteArray) (w : World) (en : Ending) (w' : World) : Prop :=
  (votedL l who = true ∧ CastR l 0 false w en w') ∨ (votedL l who = false ∧ CastY (withL l who body) (sz (forL (withL l who body) body) : Nat) w en w')
set_option maxHeartbeats 4000000 in
set_option maxRecDepth 100000 in
theorem cast_calls (A : Option Addr) (ca : Nat) (l : List Bal) (who : Int) (body : ByteArray) (w : World) (hr : kB.C w A l.length l) (hca : l.length ≤ ca) (hl : l.length ≤ 900000) (hw : whoOk l) (h0 : 0 ≤ who) :
    Calls Try.prog 42 #[.slice A l.length ca, .int .u8 who, .string body] w (CastQ l who body w) := by
  have HR := Aside0.mk hr
  have HW := Aside0.mk hw
  clear hr hw
  have hl : l.length ≤ 1000000 := by omega
  have HB := Aside0.mk (Below.refl w.heap.size w)
  have HOr := Aside0.mk (orL_lt l HW.out)
  go_enter Try.func42, Try.ntmps42
  go_wp2_with fail
  go_loopw [9, 16] (fun v9 v16 w' => ∃ (i m : Nat), v16 = .int .i64 (i : Int) ∧ v9 = .int .u16 (m : Int) ∧ i ≤ l.length ∧ Aside0 (m = orL (l.take i)) ∧ Aside0 (Below w.heap.size w w')) (fun _ v16 _ => l.length - (intOf v16).toNat)
  case atStart => exact ⟨0, 0, rfl, rfl, by omega, ⟨rfl⟩, HB⟩
  case round =>
    clear HB
    obtain ⟨i, m, rfl, rfl, hi, HM, HB⟩ := hrel
    by_cases hlt : i < l.length
    · obtain ⟨ad, ea, g0, g1⟩ := at_B (Kd.C_below HR.out HB.out) i hlt
      cases ea
      have HX := Aside0.mk (orL_take l i hlt)
      have hlt1 : l[i].who < 65536 := HW.out _ (List.getElem_mem _)
      have hlt2 : m < 65536 := by rw [HM.out]; exact HOr.out i hi
      have hor := u16_or_nat m l[i].who hlt2 hlt1
      generalize l[i] = x at *
      go_wp2_with fail
      go_roundw
      case rel => exact ⟨i + 1, m ||| x.who, by go_num, rfl, by omega, ⟨by rw [HX.out, HM.out]⟩, ⟨(by repeat (first | (with_reducible exact HB.out) | (with_reducible refine below_alloc ?_ _) | (with_reducible refine pw_below_drewN ?_ _) | (with_reducible refine below_drew ?_)))⟩⟩
      case measure => simp [intOf]; omega
    · have hm : m = orL l := by have := HM.out; rwa [List.take_of_length_le (by omega)] at this
      have HOlt : Aside0 (orL l < 65536) := ⟨by rw [← hm, HM.out]; exact HOr.out i hi⟩
      subst hm
      cases hv : votedL l who with
      | true =>
        have HVd : Aside0 (hasB (orL l) who = true) := ⟨(hasB_orL who l).trans hv⟩
        have HVt := Aside0.mk hv
        clear hv
        go_wp2_with (first | (go_at_call 39; refine (has_calls (orL l) who _ HOlt.out h0).mono ?_; rw [HVd.out]; rintro e w2 ⟨rfl, m2, rfl⟩) | fail)
        go_ret3
        exact .inl ⟨HVt.out, _, _, rfl, hca, Kd.C_below HR.out (by repeat (first | (with_reducible exact HB.out) | (with_reducible refine below_alloc ?_ _) | (with_reducible refine pw_below_drewN ?_ _) | (with_reducible refine below_drew ?_))), (by repeat (first | (with_reducible exact HB.out) | (with_reducible refine below_alloc ?_ _) | (with_reducible refine pw_below_drewN ?_ _) | (with_reducible refine below_drew ?_)))⟩
      | false =>
        have HVd : Aside0 (hasB (orL l) who = false) := ⟨(hasB_orL who l).trans hv⟩
        have HVt := Aside0.mk hv
        clear hv
        by_cases hp : posN l body < l.length
        · have HP : Aside0 (posL l body = (posN l body : Int)) := ⟨by unfold posL; rw [if_pos hp]⟩
          obtain ⟨p, hpe⟩ : ∃ p, posN l body = p := ⟨_, rfl⟩
          rw [hpe] at HP hp
          obtain ⟨hw1, hw2⟩ := with_yes (id := who) hp hpe
          have HWL := Aside0.mk hw1
          have HFL := Aside0.mk hw2
          clear hw1 hw2 hpe
          have HLen : Aside0 (0 < l.length) := ⟨by omega⟩
          have HWlt : Aside0 (l[p].who < 65536) := ⟨HW.out _ (List.getElem_mem _)⟩
          have HNlt : Aside0 (l[p].who ||| bitN who < 65536) := ⟨or_lt HWlt.out (bitN_lt _)⟩
          have HPl := Aside0.mk hp
          go_wp2_with (first
            | (go_at_call 39; refine (has_calls (orL l) who _ HOlt.out h0).mono ?_; rw [HVd.out]; rintro e w2 ⟨rfl, m2, rfl⟩)
            | (go_at_call 51; (refine (clone_calls A ca l _ (Kd.C_below HR.out (by repeat (first | (with_reducible exact HB.out) | (with_reducible refine below_alloc ?_ _) | (with_reducible refine pw_below_drewN ?_ _) | (with_reducible refine below_drew ?_)))) hl).mono ?_); rintro e w3 ⟨v3, rfl, ho, hb⟩; have HBx : Aside0 (Below w.heap.size w w3) := ⟨below_back hb (by repeat (first | (with_reducible exact HB.out) | (with_reducible refine below_alloc ?_ _) | (with_reducible refine pw_below_drewN ?_ _) | (with_reducible refine below_drew ?_)))⟩; obtain ⟨A3, c3, ev⟩ := Kd.R_slice ho; subst ev; have HO : Aside0 (kB.R 113 w3 w.heap.size (fun _ => True) (.slice A3 l.length c3) l) := ⟨Kd.R_lower ho HB.out.size⟩; clear HB hb ho; have HB := HBx; clear HBx)
            | (go_at_call 65; refine (at_calls A3 c3 l body _ (Kd.R_reads' HO.out).2.2 hl).mono ?_; rw [HP.out]; rintro e w4 ⟨rfl, hb⟩; have HBx : Aside0 (Below w.heap.size w w4) := ⟨below_back hb (by repeat (first | (with_reducible exact HB.out) | (with_reducible refine below_alloc ?_ _) | (with_reducible refine pw_below_drewN ?_ _) | (with_reducible refine below_drew ?_)))⟩; have HOx := Aside0.mk (Kd.R_below HO.out hb); clear HB HO hb; have HB := HBx; have HO := HOx; clear HBx HOx; obtain ⟨g, cap, ev, hbg, hlg, cells, hcells⟩ := Kd.R_form HO.out HLen.out; obtain ⟨rfl, rfl⟩ : A3 = some ⟨g, 0, none⟩ ∧ c3 = cap := (by injection ev with e1 e2 e3; exact ⟨e1, e3⟩); obtain ⟨hcb, hcell, hfr⟩ := R_who HO.out (p := p) HPl.out)
            | (go_at_call 66; refine (with_calls l[p].who who _ HWlt.out h0).mono ?_; rintro e w5 ⟨rfl, m5, rfl⟩)
            | (go_at_call 38; refine (size_calls (l[p].who ||| bitN who) _ HNlt.out).mono ?_; rintro e w7 ⟨rfl, m7, rfl⟩)
            | fail)
          go_ret3
          have hF := Kd.R_lower (Kd.R_drewN (R_setwho (m := l[p].who ||| bitN who) (Kd.R_drewN HO.out m5) HPl.out) m7) (Nat.zero_le _)
          exact .inr ⟨HVt.out, by rw [HFL.out, HWL.out]; exact ⟨_, _, by rw [List.length_set]; rfl, by rw [List.length_set]; exact hF, pw_below_drewN ((pw_below_drewN HB.out m5).setCell hbg _) m7⟩⟩
        · have HP : Aside0 (posL l body = -1) := ⟨by unfold posL; rw [if_neg hp]⟩
          obtain ⟨hw1, hw2⟩ := with_no (id := who) hp
          have HWL := Aside0.mk hw1
          have HFL := Aside0.mk hw2
          clear hw1 hw2 hp
          obtain ⟨ys, hys⟩ : ∃ ys, l ++ [(⟨body, 0⟩ : Bal)] = ys := ⟨_, rfl⟩
          have hpl : l.length < ys.length := by rw [← hys]; simp
          have hyl : ys.length = l.length + 1 := by rw [← hys]; simp
          have hyp : ys[l.length] = ⟨body, 0⟩ := by simp [← hys]
          have HYw : Aside0 (ys[l.length].who ||| bitN who = bitN who) := ⟨by rw [hyp, Nat.zero_or]⟩
          have HYl : Aside0 ((l ++ [(⟨body, bitN who⟩ : Bal)]).length = ys.length) := ⟨by rw [hyl]; simp⟩
          have HYs : Aside0 (l ++ [(⟨body, bitN who⟩ : Bal)] = ys.set l.length ⟨ys[l.length].body, ys[l.length].who ||| bitN who⟩) := ⟨by rw [hyp, Nat.zero_or]; simp [← hys]⟩
          have HLen : Aside0 (0 < ys.length) := ⟨by omega⟩
          have HWlt : Aside0 (ys[l.length].who < 65536) := ⟨by rw [hyp]; show (0 : Nat) < 65536; omega⟩
          have HNlt : Aside0 (ys[l.length].who ||| bitN who < 65536) := ⟨by rw [hyp, Nat.zero_or]; exact bitN_lt _⟩
          have HPl := Aside0.mk hpl
          have HY := Aside0.mk hys
          clear hys hyl hyp
          go_wp2_with (first
            | (go_at_call 39; refine (has_calls (orL l) who _ HOlt.out h0).mono ?_; rw [HVd.out]; rintro e w2 ⟨rfl, m2, rfl⟩)
            | (go_at_call 51; (refine (clone_calls A ca l _ (Kd.C_below HR.out (by repeat (first | (with_reducible exact HB.out) | (with_reducible refine below_alloc ?_ _) | (with_reducible refine pw_below_drewN ?_ _) | (with_reducible refine below_drew ?_)))) hl).mono ?_); rintro e w3 ⟨v3, rfl, ho, hb⟩; have HBx : Aside0 (Below w.heap.size w w3) := ⟨below_back hb (by repeat (first | (with_reducible exact HB.out) | (with_reducible refine below_alloc ?_ _) | (with_reducible refine pw_below_drewN ?_ _) | (with_reducible refine below_drew ?_)))⟩; obtain ⟨A3, c3, ev⟩ := Kd.R_slice ho; subst ev; have HO : Aside0 (kB.R 113 w3 w.heap.size (fun _ => True) (.slice A3 l.length c3) l) := ⟨Kd.R_lower ho HB.out.size⟩; clear HB hb ho; have HB := HBx; clear HBx)
            | (go_at_call 65; refine (at_calls A3 c3 l body _ (Kd.R_reads' HO.out).2.2 hl).mono ?_; rw [HP.out]; rintro e w4 ⟨rfl, hb⟩; have HBx : Aside0 (Below w.heap.size w w4) := ⟨below_back hb (by repeat (first | (with_reducible exact HB.out) | (with_reducible refine below_alloc ?_ _) | (with_reducible refine pw_below_drewN ?_ _) | (with_reducible refine below_drew ?_)))⟩; have HOx := Aside0.mk (Kd.R_below HO.out hb); clear HB HO hb; have HB := HBx; have HO := HOx; clear HBx HOx)
            | (at_builtin; refine Kd.R_append kB (w0 := w) w.heap.size rfl (.tmp 38) (.tmp 41) 59 113 (.agg #[(.string ⟨#[]⟩), (.int .u16 0)]) 24 rfl Try.underlying59 infoB rfl (by decide) (by omega) (.slice A3 l.length c3) l (⟨body, 0⟩ : Bal) [.string body, .int .u16 0] (fun _ => True) (fun _ => False) rfl ?aX ?aP (fun _ hk => hk.elim) ?aF ?aO ?aB ?aS ?aL ?_; (case aX => first | rfl | (simp [Act.eval]; done)); (case aP => exact kB_mkM _ _ _ (⟨body, 0⟩ : Bal)); (case aF => exact fun _ _ => trivial); (case aO => exact (by repeat (first | exact HO.out | apply Kd.R_alloc | apply Kd.R_drewN | apply Kd.R_drew))); (case aB => exact (by repeat (first | exact HB.out | apply below_alloc | apply pw_below_drewN | apply below_drew))); (case aS => exact Below.size (by repeat (first | exact HB.out | apply below_alloc | apply pw_below_drewN | apply below_drew))); (case aL => omega); intro v5 w5 ho hb hg hat; have HO5 := Aside0.mk ho; have HB5 := Aside0.mk hb; clear ho hb hg hat; have HOx : Aside0 (kB.R 113 w5 w.heap.size (fun _ => True) v5 ys) := ⟨by rw [← HY.out]; exact HO5.out⟩; clear HO HB HO5; have HO := HOx; have HB := HB5; clear HOx HB5; obtain ⟨g, cap, ev, hbg, hlg, cells, hcells⟩ := Kd.R_form HO.out HLen.out; subst ev; obtain ⟨hcb, hcell, hfr⟩ := R_who HO.out (p := l.length) HPl.out)
            | (go_at_call 66; refine (with_calls ys[l.length].who who _ HWlt.out h0).mono ?_; rintro e w5 ⟨rfl, m5, rfl⟩)
            | (go_at_call 38; refine (size_calls (ys[l.length].who ||| bitN who) _ HNlt.out).mono ?_; rintro e w7 ⟨rfl, m7, rfl⟩)
            | fail)
          go_ret3
          have hF := Kd.R_lower (Kd.R_drewN (R_setwho (m := ys[l.length].who ||| bitN who) (Kd.R_drewN HO.out m5) HPl.out) m7) (Nat.zero_le _)
          rw [← HYs.out] at hF
          exact .inr ⟨HVt.out, by rw [HFL.out, HWL.out]; exact ⟨some ⟨g, 0, none⟩, cap, by (conv => rhs; rw [HYl.out, ← HYw.out]); rfl, by rw [HYl.out]; exact hF, pw_below_drewN ((pw_below_drewN HB.out m5).setCell hbg _) m7⟩⟩
end Go.Proofs.Ytbaknecnkipooaa.Vot
