/- table's settle: those that are done without a gap go. table's may: what is wrong with a name. What is put into a table; what Take comes to. -/
import Derived.Test.YtbaknecnkipooaaM30
import Derived.Test.YtbaknecnkipooaaM31
import Derived.Test.YtbaknecnkipooaaM29
namespace Go.Proofs.Ytbaknecnkipooaa.Tld
open Go Go.RowKit Go.Proofs.YtbaknecnkipooaaW.PrintWords Go.Proofs.Ytbaknecnkipooaa.Sep Go.Proofs.Ytbaknecnkipooaa.Obj Go.Proofs.Ytbaknecnkipooaa.Vot Go.Proofs.Ytbaknecnkipooaa.Hld
set_option linter.unusedVariables false
set_option linter.unusedSimpArgs false
structure Reach (b : List Int) (ys : List OP) (f : Nat) (b' : List Int) (ys' : List OP) (m : Nat) : Prop where
  base : b' = b.set f (b.getD f 0 + (m : Int))
  sub : ys'.Sublist ys
  mem : ∀ y ∈ ys, y ∈ ys' ∨ (y.frm = f ∧ (y.seq : Int) < b.getD f 0 + (m : Int))
  out : ∀ y ∈ ys', ¬ (y.frm = f ∧ (y.seq : Int) < b.getD f 0 + (m : Int))
  done : ∀ s : Nat, s < m → ∃ y ∈ ys, y.frm = f ∧ (y.seq : Int) = b.getD f 0 + (s : Int) ∧ y.x.c.done = true
theorem Reach.start {b : List Int} {ys : List OP} {f : Nat} (hf : f < b.length) (h : ∀ y ∈ ys, y.frm = f → b.getD f 0 ≤ (y.seq : Int)) : Reach b ys f b ys 0 where
  base := by
    have : b.getD f 0 = b[f] := by simp [List.getD_eq_getElem?_getD, hf]
    rw [Int.natCast_zero, Int.add_zero, this, List.set_getElem_self]
  sub := List.Sublist.refl _
  mem := fun y hy => .inl hy
  out := fun y hy ⟨e, h2⟩ => by have := h y hy e; omega
  done := fun s hs => by omega
theorem sortedO_sub {ys zs : List OP} (h : zs.Sublist ys) (hs : SortedO (ys.map OP.o)) : SortedO (zs.map OP.o) := by
  have hp : (ys.map OP.o).Pairwise (fun a b => lex a.frm a.seq b.frm b.seq) := List.pairwise_iff_getElem.2 (fun i j hi hj hij => hs i j hj hij)
  have hq := hp.sublist (h.map OP.o)
  intro i j hj hij
  exact List.pairwise_iff_getElem.1 hq i j (by omega) hj hij
theorem sortedO_inj {ys : List OP} (hs : SortedO (ys.map OP.o)) {i j : Nat} (hi : i < ys.length) (hj : j < ys.length) (h1 : ys[i].frm = ys[j].frm) (h2 : ys[i].seq = ys[j].seq) : i = j := by
  rcases Nat.lt_trichotomy i j with h | h | h
  · have := hs i j (by simpa using hj) h
    simp only [List.getElem_map, OP.o] at this
    rw [h1, h2] at this
    exact absurd this lex_irrefl
  · exact h
  · have := hs j i (by simpa using hi) h
    simp only [List.getElem_map, OP.o] at this
    rw [h1, h2] at this
    exact absurd this lex_irrefl
theorem Reach.step {b : List Int} {ys : List OP} {f : Nat} {b1 : List Int} {y1 : List OP} {m k : Nat} (h : Reach b ys f b1 y1 m) (hf : f < b.length) (hs : SortedO (y1.map OP.o)) (hk : k < y1.length) (hfk : y1[k].frm = f) (hsk : (y1[k].seq : Int) = b.getD f 0 + (m : Int)) (hd : y1[k].x.c.done = true) : Reach b ys f (b1.set f (b.getD f 0 + (m : Int) + 1)) (y1.eraseIdx k) (m + 1) where
  base := by rw [h.base, List.set_set]; congr 1; omega
  sub := (List.eraseIdx_sublist _ _).trans h.sub
  mem := fun y hy => by
    rcases h.mem y hy with h1 | ⟨h1, h2⟩
    · obtain ⟨i, hi, rfl⟩ := List.getElem_of_mem h1
      by_cases e : i = k
      · subst e
        exact .inr ⟨hfk, by rw [hsk]; omega⟩
      · exact .inl (List.mem_eraseIdx_iff_getElem.2 ⟨i, hi, e, rfl⟩)
    · exact .inr ⟨h1, by omega⟩
  out := fun y hy ⟨h1, h2⟩ => by
    obtain ⟨i, hi, e, rfl⟩ := List.mem_eraseIdx_iff_getElem.1 hy
    have h3 := h.out _ (List.getElem_mem hi)
    have h4 : (y1[i].seq : Int) = b.getD f 0 + (m : Int) := by
      have : ¬ (y1[i].seq : Int) < b.getD f 0 + (m : Int) := fun h5 => h3 ⟨h1, h5⟩
      omega
    exact e (sortedO_inj hs hi hk (by rw [h1, hfk]) (by omega))
  done := fun s hs' => by
    rcases Nat.lt_or_ge s m with h1 | h1
    · exact h.done s h1
    · have : s = m := by omega
      subst this
      exact ⟨y1[k], h.sub.subset (List.getElem_mem hk), hfk, hsk, hd⟩
theorem getD_set (b : List Int) (f : Nat) (v : Int) (h : f < b.length) : (b.set f v).getD f 0 = v := by simp [List.getD_eq_getElem?_getD, h]
def SetR (S : Nat → Prop) (g : Nat) (b : List Int) (ys : List OP) (f : Nat) (w : World) (e : Ending) (w' : World) : Prop := ∃ (A' : Option Addr) (c' : Nat) (b' : List Int) (ys' : List OP) (m : Nat), e = .returned (.tuple #[]) ∧ Reach b ys f b' ys' m ∧ (∀ y ∈ ys', ¬ (y.frm = f ∧ (y.seq : Int) = b.getD f 0 + (m : Int) ∧ y.x.c.done = true)) ∧ OwnS S [Sep.blk g (tabC b' (.slice A' ys'.length c')) 33, Sep.row kOP 79 (.slice A' ys'.length c') ys'] w w'
set_option maxHeartbeats 2000000 in
set_option maxRecDepth 100000 in
theorem settle_calls (S : Nat → Prop) (w : World) (g : Nat) (b : List Int) (A : Option Addr) (c : Nat) (ys : List OP) (f : Nat) (hT : OwnS S [Sep.blk g (tabC b (.slice A ys.length c)) 33, Sep.row kOP 79 (.slice A ys.length c) ys] w w) (hb : okV b) (hf : f < 16) (hs : SortedO (ys.map OP.o)) (hlo : ∀ y ∈ ys, y.frm = f → b.getD f 0 ≤ (y.seq : Int)) (hs1 : ∀ y ∈ ys, y.seq < 1000) (hbl : b.getD f 0 ≤ 1000) (hl : ys.length ≤ 1000) : Calls Try.prog 22 #[.pointer (some ⟨g, 0, none⟩), .int .u8 (f : Int)] w (SetR S g b ys f w) := by
  have HH := Aside0.mk hT
  have HRC : Aside0 (Reach b ys f b ys 0) := ⟨Reach.start (by rw [hb.1]; exact hf) hlo⟩
  have HB := Aside0.mk hb
  have HS := Aside0.mk hs
  have HS1 := Aside0.mk hs1
  have HBL := Aside0.mk hbl
  have HL := Aside0.mk hl
  have q1 : (f : Int) < 16 := by omega
  clear hT hb hs hlo hs1 hbl hl
  go_enter Try.func22, Try.ntmps22
  go_wp2_with fail
  go_loopg [] ys.length (fun gg W => ∃ (b1 : List Int) (y1 : List OP) (A1 : Option Addr) (c1 m : Nat), Aside0 (Reach b ys f b1 y1 m) ∧ Aside0 (y1.length ≤ gg) ∧ Aside0 (OwnS S [Sep.blk g (tabC b1 (.slice A1 y1.length c1)) 33, Sep.row kOP 79 (.slice A1 y1.length c1) y1] w W))
  case atStart => exact ⟨b, ys, A, c, 0, HRC, ⟨Nat.le_refl _⟩, HH⟩
  case round =>
    clear HH HRC
    obtain ⟨b1, y1, A1, c1, m, HRC, HGL, HH⟩ := hrel
    have hfb : f < b.length := by rw [HB.out.1]; exact hf
    have hbe : b1.getD f 0 = b.getD f 0 + (m : Int) := by rw [HRC.out.base]; exact getD_set _ _ _ hfb
    have hbv := okV_at HB.out f hf
    have hm1 : b.getD f 0 + (m : Int) ≤ 1000 := by
      cases m with
      | zero => have := HBL.out; omega
      | succ m =>
        obtain ⟨y, hy, _, h2, _⟩ := HRC.out.done m (Nat.lt_succ_self m)
        have := HS1.out y hy
        omega
    obtain ⟨nn, hnn⟩ : ∃ nn : Nat, b.getD f 0 + (m : Int) = (nn : Int) := ⟨(b.getD f 0 + (m : Int)).toNat, by omega⟩
    have HNN := Aside0.mk hnn
    have q5 : (nn : Int) < 1001 := by omega
    have hl1 : b1.length = 16 := by rw [HRC.out.base, List.length_set]; exact HB.out.1
    have HV1 := Aside0.mk hl1
    have HAT : Aside0 (∀ s, (tabC b1 s)[2 + f]? = some (.int .u16 (nn : Int))) := ⟨fun s => by rw [tabC_at b1 s f (by omega), hbe, hnn]⟩
    have hwn : IntKind.u16.wrap (nn : Int) = (nn : Int) := by rw [IntKind.wrap_u16]; omega
    have hwi : IntKind.i64.wrap (nn : Int) = (nn : Int) := by rw [IntKind.wrap_i64]; omega
    have hwr : IntKind.u16.wrap ((nn : Int) + 1) = (nn : Int) + 1 := by rw [IntKind.wrap_u16]; omega
    have HL1 : Aside0 (y1.length ≤ 1000000) := ⟨by have := HRC.out.sub.length_le; have := HL.out; omega⟩
    have HS1' : Aside0 (SortedO (y1.map OP.o)) := ⟨sortedO_sub HRC.out.sub HS.out⟩
    clear hbe hbv hm1 hnn hl1 hfb
    go_upto_region 0 with fail
    have HKV : Aside0 (∀ w' : World, OwnS S [Sep.blk g (tabC b1 (.slice A1 y1.length c1)) 33, Sep.row kOP 79 (.slice A1 y1.length c1) y1] w w' → (w'.cell? ⟨g, 18, none⟩ = some (.slice A1 y1.length c1) ∧ w'.cell? ⟨g, 2 + f, none⟩ = some (.int .u16 (nn : Int)))) := ⟨fun W h => ⟨(blk_cell (OwnS.blk h 0 rfl) 18).trans (tabC_last _ _ HV1.out), (blk_cell (OwnS.blk h 0 rfl) (2 + f)).trans (HAT.out _)⟩⟩
    refine wp_region_held_drew (S := fun w' => w'.cell? ⟨g, 18, none⟩ = some (.slice A1 y1.length c1) ∧ w'.cell? ⟨g, 2 + f, none⟩ = some (.int .u16 (nn : Int))) (by kernel_rfl) ?_ (fun hHeld => ?_)
    focus (try dsimp only); (exact HKV.out _ (oh HH))
    (try dsimp only at hHeld)
    refine otk (i := 0) ?_; (try simp only [Act.put, jjA, jjZ, jjS])
    refine otk (i := 1) ?_; (try simp only [Act.put, jjA, jjZ, jjS])
    refine otk (i := 2) ?_; (try simp only [Act.put, jjA, jjZ, jjS])
    refine otk (i := 3) (v := .slice A1 y1.length c1) ?_; (try simp only [Act.put, jjA, jjZ, jjS])
    refine otk (i := 4) ?_; (try simp only [Act.put, jjA, jjZ, jjS])
    refine otk (i := 5) ?_; (try simp only [Act.put, jjA, jjZ, jjS])
    refine otk (i := 6) ?_; (try simp only [Act.put, jjA, jjZ, jjS])
    refine otk (i := 7) ?_; (try simp only [Act.put, jjA, jjZ, jjS])
    refine otk (i := 8) ?_; (try simp only [Act.put, jjA, jjZ, jjS])
    refine otk (i := 9) (v := .pointer (some ⟨g, 2 + f, none⟩)) ?_; (try simp only [Act.put, jjA, jjZ, jjS])
    refine otk (i := 10) (v := .int .u16 (nn : Int)) ?_; (try simp only [Act.put, jjA, jjZ, jjS])
    refine otk (i := 11) (v := .int .i64 (nn : Int)) ?_; (try simp only [Act.put, jjA, jjZ, jjS])
    refine otk (i := 12) ?_; (try simp only [Act.put, jjA, jjZ, jjS])
    refine wpAnyH_ready (rs := [13]) (by kernel_rfl) (by simp) ?_
    refine AllReadyH.cons (by simp only [List.getElem?_toArray, List.getElem?_cons_succ, List.getElem?_cons_zero]; rfl) (fun K hK => ?_) AllReadyH.nil; go_simp; go_at_call 19; refine ownS_call (oh HH) ?_; intro ht; refine (srch_calls _ A1 c1 y1 ⟨f, nn, ⟨⟨false, false, false, [], []⟩, none, 0, none, 0⟩⟩ ?_ HL1.out HS1'.out).mono ?_; (focus exact OwnS.C ht 1 rfl); rintro e w11 ⟨k5, t5, rfl, h1, h2, h3, h4, hb⟩; have H2 := Aside0.mk h2; have H3 := Aside0.mk h3; have H4 := Aside0.mk h4; clear h1 h2 h3 h4; replace HH : Aside0 (OwnS S [Sep.blk g (tabC b1 (.slice A1 y1.length c1)) 33, Sep.row kOP 79 (.slice A1 y1.length c1) y1] w w11) := ⟨OwnS.step ht hb⟩; clear hb; clear ht; refine hK.out _ _ ?_ (fun hHeld2 => ?_); (focus (try dsimp only); (exact HKV.out _ (oh HH))); clear hK K hHeld; rename _ => hHeld; (try dsimp only at hHeld); (try simp only [Act.put, jjA, jjZ, jjS])
    refine otk (i := 14) ?_; (try simp only [Act.put, jjA, jjZ, jjS])
    refine otk (i := 15) ?_; (try simp only [Act.put, jjA, jjZ, jjS])
    refine otk (i := 16) ?_; (try simp only [Act.put, jjA, jjZ, jjS])
    refine otk (i := 17) ?_; (try simp only [Act.put, jjA, jjZ, jjS])
    refine otk (i := 18) ?_; (try simp only [Act.put, jjA, jjZ, jjS])
    refine wpAnyH_done (by kernel_rfl) ?_ _
    cases t5 with
    | false =>
      go_wp2_with fail
      refine bodyPost_ret (v := .tuple #[]) (results_list (rs := []) (vs := []) rfl (by simp) .nil) rfl ?_
      refine ⟨A1, c1, b1, y1, m, rfl, HRC.out, fun y hy ⟨e1, e2, e3⟩ => ?_, by first | exact HH.out | exact OwnS.drewN HH.out _ | exact OwnS.drew HH.out⟩
      obtain ⟨i, hi, rfl⟩ := List.getElem_of_mem hy
      have e4 : y1[i].seq = nn := by have := HNN.out; omega
      rcases Nat.lt_or_ge i k5 with h1 | h1
      · have := H2.out i hi h1
        rw [e1, e4] at this
        exact lex_irrefl this
      · rcases Nat.lt_or_ge k5 i with h2 | h2
        · have h3 := HS1'.out k5 i (by simpa using hi) h2
          simp only [List.getElem_map, OP.o] at h3
          rw [e1, e4] at h3
          exact H3.out k5 (by omega) (Nat.le_refl _) h3
        · obtain rfl : i = k5 := by omega
          have := H4.out.2 ⟨hi, e1, e4⟩
          cases this
    | true =>
      obtain ⟨hk, hkf, hks⟩ := H4.out.1 rfl
      obtain ⟨ga, ea, hnc0, hcm0⟩ := row_front (OwnS.row HH.out 1 rfl) (by omega)
      cases ea
      have hnc := Aside0.mk hnc0
      have hcm := Aside0.mk hcm0
      have HK := Aside0.mk hk
      have HKF : Aside0 (∀ h : k5 < y1.length, y1[k5].frm = f ∧ y1[k5].seq = nn) := ⟨fun _ => ⟨hkf, hks⟩⟩
      obtain ⟨g9, o9, e9, r9⟩ := at_OP (OwnS.C HH.out 1 rfl) k5 hk
      cases e9
      obtain ⟨dn, hdn⟩ : ∃ dn, y1[k5].x.c.done = dn := ⟨_, rfl⟩
      have fd : World.cell? w11 ⟨ga, k5 * 7 + 2 + 2, none⟩ = some (.bool dn) := by
        have := r9 4 (.bool y1[k5].x.c.done) rfl
        rw [hdn, Nat.zero_add] at this
        exact this
      have HDN : Aside0 (∀ h : k5 < y1.length, y1[k5].x.c.done = dn) := ⟨fun _ => hdn⟩
      have fs : World.cell? _ ⟨g, 18, none⟩ = some (.slice (some ⟨ga, 0, none⟩) y1.length c1) := (blk_cell (OwnS.blk HH.out 0 rfl) 18).trans (tabC_last _ _ HV1.out)
      have q2 : 0 ≤ (k5 : Int) := by omega
      have q3 : (k5 : Int) < (y1.length : Int) := by omega
      have hwk : IntKind.i64.wrap ((k5 : Int) + 1) = (k5 : Int) + 1 := by rw [IntKind.wrap_i64]; have := HL1.out; omega
      have HU : Aside0 (∀ i (hi : i < y1.length), y1[i].frm = f → y1[i].seq = nn → i = k5) := ⟨fun i hi h1 h2 => sortedO_inj HS1'.out hi hk (by rw [h1, hkf]) (by rw [h2, hks])⟩
      clear hdn r9 hk hkf hks hnc0 hcm0
      cases dn with
      | false =>
        go_wp2_with fail
        refine bodyPost_ret (v := .tuple #[]) (results_list (rs := []) (vs := []) rfl (by simp) .nil) rfl ?_
        refine ⟨some ⟨ga, 0, none⟩, c1, b1, y1, m, rfl, HRC.out, fun y hy ⟨e1, e2, e3⟩ => ?_, by first | exact HH.out | exact OwnS.drewN HH.out _ | exact OwnS.drew HH.out⟩
        obtain ⟨i, hi, rfl⟩ := List.getElem_of_mem hy
        have e4 : y1[i].seq = nn := by have := HNN.out; omega
        obtain rfl := HU.out i hi e1 e4
        rw [HDN.out hi] at e3
        cases e3
      | true =>
        obtain ⟨b2, hb2⟩ : ∃ b2, b1.set f ((nn : Int) + 1) = b2 := ⟨_, rfl⟩
        have HFS : Aside0 (2 + f + 1 ≤ 19) := ⟨by omega⟩
        have HPS : Aside0 (∀ s, (putL (tabC b1 s).toList (2 + f) (#[Value.int .u16 ((nn : Int) + 1)]).toList).toArray = tabC b2 s) := ⟨fun s => by rw [← hb2]; exact tabC_put b1 s f _ HV1.out hf⟩
        have HRN : Aside0 (Reach b ys f b2 (y1.eraseIdx k5) (m + 1)) := ⟨by
          rw [← hb2, ← HNN.out]
          exact HRC.out.step (by rw [HB.out.1]; exact hf) HS1'.out HK.out (HKF.out HK.out).1 (by rw [(HKF.out HK.out).2, HNN.out]) (HDN.out HK.out)⟩
        have HLE : Aside0 (y1.length - 1 = (y1.eraseIdx k5).length) := ⟨by rw [List.length_eraseIdx, if_pos HK.out]⟩
        clear hb2
        go_wp2_with (first
        | ((with_reducible refine gate_ (.load 31 (.tmp 40)) rfl ?_); refine ev_cell (v := .slice (some ⟨ga, 0, none⟩) y1.length c1) ((blk_cell (OwnS.blk (oh HH) 0 rfl) 18).trans (tabC_last _ _ HV1.out)) rfl rfl (by rfl) Try.underlying31 rfl ?_)
        | (go_at_call 58; refine ownS_call (oh HH) ?_; intro ht; refine ownS_meth ht 1 rfl ?_; intro T hT hTS hput; refine (deleteO_calls T ga y1.length c1 y1 _ hT k5 HK.out hnc.out hcm.out).mono ?_; rintro e w41 ⟨rfl, ho⟩; replace HH : Aside0 (OwnS S [Sep.blk g (tabC b1 (.slice (some ⟨ga, 0, none⟩) y1.length c1)) 33, Sep.row kOP 79 (.slice (some ⟨ga, 0, none⟩) (y1.length - 1) c1) (y1.eraseIdx k5)] w w41) := ⟨hput (Sep.row kOP 79 (.slice (some ⟨ga, 0, none⟩) (y1.length - 1) c1) (y1.eraseIdx k5)) [] w41 ho⟩; clear ho hput hT hTS ht)
        | ((with_reducible refine gate_ (.store 31 (.tmp 47) (.tmp 45)) rfl ?_); refine evS_storeA (oh HH) 0 rfl rfl rfl rfl (by rfl) (.slice (some ⟨ga, 0, none⟩) (y1.length - 1) c1) (by rfl) (#[.slice (some ⟨ga, 0, none⟩) (y1.length - 1) c1]) (by rfl) 1 19 rfl (tabC_size _ _ HV1.out) (by kernel_rfl) (by decide) (by simp [Value.oneCell']) (tabC b1 (.slice (some ⟨ga, 0, none⟩) (y1.length - 1) c1)) (tabC_slice _ _ _ HV1.out) ?_; intro w42 hh; replace HH : Aside0 (OwnS S [Sep.blk g (tabC b1 (.slice (some ⟨ga, 0, none⟩) (y1.length - 1) c1)) 33, Sep.row kOP 79 (.slice (some ⟨ga, 0, none⟩) (y1.length - 1) c1) (y1.eraseIdx k5)] w w42) := ⟨hh⟩; clear hh)
        | fail
        | fail)
        have HKV : Aside0 (∀ w' : World, OwnS S [Sep.blk g (tabC b1 (.slice (some ⟨ga, 0, none⟩) (y1.length - 1) c1)) 33, Sep.row kOP 79 (.slice (some ⟨ga, 0, none⟩) (y1.length - 1) c1) (y1.eraseIdx k5)] w w' → (True)) := ⟨fun W h => trivial⟩
        refine wp_region_held_drew (S := fun w' => True) (by kernel_rfl) ?_ (fun hHeld => ?_)
        focus trivial
        (try dsimp only at hHeld)
        refine otk (i := 0) ?_; (try simp only [Act.put, jjA, jjZ, jjS])
        refine otk (i := 1) ?_; (try simp only [Act.put, jjA, jjZ, jjS])
        refine otk (i := 2) ?_; (try simp only [Act.put, jjA, jjZ, jjS])
        refine otk (i := 3) ?_; (try simp only [Act.put, jjA, jjZ, jjS])
        refine otk (i := 4) (v := .pointer (some ⟨g, 2 + f, none⟩)) ?_; (try simp only [Act.put, jjA, jjZ, jjS])
        refine otk (i := 7) ?_; (try simp only [Act.put, jjA, jjZ, jjS])
        refine otk (i := 8) ?_; (try simp only [Act.put, jjA, jjZ, jjS])
        refine wpAnyH_ready (rs := [5]) (by kernel_rfl) (by simp) ?_
        refine AllReadyH.cons (by simp only [List.getElem?_toArray, List.getElem?_cons_succ, List.getElem?_cons_zero]; rfl) (fun K hK => ?_) AllReadyH.nil; refine ev_cell_step ((blk_cell (OwnS.blk (oh HH) 0 rfl) (2 + f)).trans (HAT.out _)) (by rfl) rfl (by rfl) Try.underlying27 rfl ?_; refine hK.out _ _ ?_ (fun hHeld2 => ?_); (focus trivial); clear hK K hHeld; rename _ => hHeld; (try dsimp only at hHeld); (try simp only [Act.put, jjA, jjZ, jjS])
        refine otk (i := 6) (v := .int .u16 ((nn : Int) + 1)) ?_; (try simp only [Act.put, jjA, jjZ, jjS])
        refine otk (i := 9) (v := .pointer (some ⟨g, 2 + f, none⟩)) ?_; (try simp only [Act.put, jjA, jjZ, jjS])
        refine wpAnyH_ready (rs := [10]) (by kernel_rfl) (by simp) ?_
        refine AllReadyH.cons (by simp only [List.getElem?_toArray, List.getElem?_cons_succ, List.getElem?_cons_zero]; rfl) (fun K hK => ?_) AllReadyH.nil; refine evS_storeA_step (oh HH) 0 (by rfl) rfl rfl rfl (by rfl) (.int .u16 ((nn : Int) + 1)) (by rfl) (#[.int .u16 ((nn : Int) + 1)]) (by rfl) 1 19 rfl (tabC_size _ _ HV1.out) (by kernel_rfl) HFS.out (by simp [Value.oneCell']) (tabC b2 (.slice (some ⟨ga, 0, none⟩) (y1.length - 1) c1)) (HPS.out _) ?_; intro w43 hh; replace HH : Aside0 (OwnS S [Sep.blk g (tabC b2 (.slice (some ⟨ga, 0, none⟩) (y1.length - 1) c1)) 33, Sep.row kOP 79 (.slice (some ⟨ga, 0, none⟩) (y1.length - 1) c1) (y1.eraseIdx k5)] w w43) := ⟨hh⟩; clear hh; clear HKV; have HKV : Aside0 (∀ w' : World, OwnS S [Sep.blk g (tabC b2 (.slice (some ⟨ga, 0, none⟩) (y1.length - 1) c1)) 33, Sep.row kOP 79 (.slice (some ⟨ga, 0, none⟩) (y1.length - 1) c1) (y1.eraseIdx k5)] w w' → (True)) := ⟨fun W h => trivial⟩; refine hK.out _ _ ?_ (fun hHeld2 => ?_); (focus trivial); clear hK K hHeld; rename _ => hHeld; (try dsimp only at hHeld); (try simp only [Act.put, jjA, jjZ, jjS])
        refine wpAnyH_done (by kernel_rfl) ?_ _
        go_wp2_with fail
        go_roundg (gk - 1)
        case measure => have := HGL.out; have := HK.out; omega
        case rel => exact ⟨b2, y1.eraseIdx k5, some ⟨ga, 0, none⟩, c1, m + 1, HRN, ⟨by have := HGL.out; have := HK.out; have := HLE.out; omega⟩, ⟨by first | exact HLE.out ▸ HH.out | exact HLE.out ▸ OwnS.drewN HH.out _ | exact HLE.out ▸ OwnS.drew HH.out⟩⟩
end Go.Proofs.Ytbaknecnkipooaa.Tld
namespace Go.Proofs.Ytbaknecnkipooaa.Tld
open Go Go.RowKit Go.Proofs.YtbaknecnkipooaaW.PrintWords Go.Proofs.Ytbaknecnkipooaa.Sep Go.Proofs.Ytbaknecnkipooaa.Obj Go.Proofs.Ytbaknecnkipooaa.Vot Go.Proofs.Ytbaknecnkipooaa.Hld
set_option linter.unusedVariables false
set_option linter.unusedSimpArgs false
def mayE (n : Int) (q : Nat) : Int := if (q : Int) < n then 6 else if n + 8 ≤ (q : Int) then 7 else 0
set_option maxHeartbeats 1000000 in
set_option maxRecDepth 100000 in
theorem tmay_calls (w : World) (b : List Int) (A : Option Addr) (c : Nat) (xs : List OP) (f q : Nat) (hk : OkT b xs) (hC : kOP.C w A xs.length xs) (hR : ∀ x ∈ xs, RBs w x.x) (hf : f < 4) (hq : q < 1000) : Calls Try.prog 18 #[.agg (tabC b (.slice A xs.length c)), .agg #[.int .i64 0, .int .u8 (f : Int), .int .i64 (q : Int)]] w (Kp (.int .i64 (mayE (b.getD f 0) q)) w) := by
  have HH : Aside0 (OwnS (fun _ => False) [] w w) := ⟨OwnS.of_own (Own.start w)⟩
  have HV : Aside0 (b.length = 16) := ⟨hk.base.v.1⟩
  have HK := Aside0.mk hk
  have HF := Aside0.mk hf
  have HR : Aside0 (∀ W, Below w.heap.size w W → ∀ x ∈ xs, RBs W x.x) := ⟨fun W hb x hx => RBs_below (hR x hx) hb⟩
  have HCC := Aside0.mk hC
  obtain ⟨n, hn⟩ : ∃ n, b.getD f 0 = n := ⟨_, rfl⟩
  have hv := okV_at hk.base.v f (by omega)
  have hnb := hk.base.le f (by omega)
  rw [hn] at hv hnb ⊢
  have HN := Aside0.mk hn
  have q0 : 0 ≤ n := hv.1
  have hwn := wrap_u16 hv.1 hv.2
  have q1 : (f : Int) < 16 := by omega
  have q2 : f < 16 := by omega
  have q3 : ¬ (1000 ≤ (q : Int)) := by omega
  have q5 : ¬ ((q : Int) < 0) := by omega
  have hw2 : IntKind.i64.wrap n = n := by rw [IntKind.wrap_i64]; omega
  have hw3 : IntKind.i64.wrap ((q : Int) - n) = (q : Int) - n := by rw [IntKind.wrap_i64]; omega
  clear hn hv hk hC hR
  go_enter Try.func18, Try.ntmps18
  go_wp2_with (first
  | ((with_reducible refine gate_dst (N := 2) rfl ?_); refine evS_box (oh HH) rfl (cs := tabC b (.slice A xs.length c)) (T := 33) ?_ ?_; (focus first | (go_simp; done) | (go_simp; rfl)); intro g1 w1 he hh; clear he; replace HH : Aside0 (OwnS (fun _ => False) [Sep.blk g1 (tabC b (.slice A xs.length c)) 33] w w1) := ⟨hh⟩; clear hh)
  | ((with_reducible refine gate_dst (N := 3) rfl ?_); refine evS_box (oh HH) rfl (cs := #[.int .i64 0, .int .u8 (f : Int), .int .i64 (q : Int)]) (T := 42) ?_ ?_; (focus first | (go_simp; done) | (go_simp; rfl)); intro g2 w2 he hh; clear he; replace HH : Aside0 (OwnS (fun _ => False) [Sep.blk g1 (tabC b (.slice A xs.length c)) 33, Sep.blk g2 #[.int .i64 0, .int .u8 (f : Int), .int .i64 (q : Int)] 42] w w2) := ⟨hh⟩; clear hh)
  | ((with_reducible refine gate_ (.load 33 (.tmp 2)) rfl ?_); refine ev_loadA (OwnS.blk (oh HH) 0 rfl) 0 19 (tabC b (.slice A xs.length c)) (all_of _ 19 (tabC_size _ _ HV.out)) rfl rfl (by rfl) Try.underlying33 rfl (tabC_size _ _ HV.out) (by kernel_rfl) ?_)
  | (go_at_call 52; refine ownS_call (oh HH) ?_; intro ht; refine (Right_calls _ b A c xs HK.out ?_ (HR.out _ ?_)).mono ?_; (focus exact Kd.C_below HCC.out (frm_below (OwnS.frm ht))); (focus exact frm_below (OwnS.frm ht)); rintro e w3 ⟨rfl, hb⟩; replace HH : Aside0 (OwnS (fun _ => False) [Sep.blk g1 (tabC b (.slice A xs.length c)) 33, Sep.blk g2 #[.int .i64 0, .int .u8 (f : Int), .int .i64 (q : Int)] 42] w w3) := ⟨OwnS.step ht hb⟩; clear hb; clear ht)
  | ((with_reducible refine gate_ (.load 3 (.tmp 11)) rfl ?_); refine ev_cell (blk_cell (OwnS.blk (oh HH) 1 rfl) 0) rfl rfl (by rfl) Try.underlying3 rfl ?_)
  | ((with_reducible refine gate_ (.load 3 (.tmp 13)) rfl ?_); refine ev_cell (v := .int .i64 0) ((blk_cell (OwnS.blk (oh HH) 0 rfl) 0).trans rfl) rfl rfl (by rfl) Try.underlying3 rfl ?_)
  | ((with_reducible refine gate_ (.load 28 (.tmp 17)) rfl ?_); refine ev_cell (v := .int .u16 15) ((blk_cell (OwnS.blk (oh HH) 0 rfl) 1).trans rfl) rfl rfl (by rfl) Try.underlying28 rfl ?_)
  | ((with_reducible refine gate_ (.load 5 (.tmp 19)) rfl ?_); refine ev_cell (blk_cell (OwnS.blk (oh HH) 1 rfl) 1) rfl rfl (by rfl) Try.underlying5 rfl ?_)
  | (go_at_call 39; refine ownS_call (oh HH) ?_; intro ht; refine (Cnt.has_calls 15 (f : Int) _ (by decide) (by omega)).mono ?_; rintro e w4 hq; obtain ⟨rfl, hb⟩ := ret_kept hq; clear hq; rw [has15 _ HF.out]; replace HH : Aside0 (OwnS (fun _ => False) [Sep.blk g1 (tabC b (.slice A xs.length c)) 33, Sep.blk g2 #[.int .i64 0, .int .u8 (f : Int), .int .i64 (q : Int)] 42] w w4) := ⟨OwnS.step ht hb⟩; clear hb; clear ht)
  | ((with_reducible refine gate_ (.load 3 (.tmp 24)) rfl ?_); refine ev_cell (blk_cell (OwnS.blk (oh HH) 1 rfl) 2) rfl rfl (by rfl) Try.underlying3 rfl ?_; have fc1 : w4.cell? ⟨g2, 2, none⟩ = some (.int .i64 (q : Int)) := (blk_cell (OwnS.blk HH.out 1 rfl) 2))
  | fail
  | fail)
  go_upto_region 9 with fail
  go_cut [5] (fun v5 wx => v5 = .int .i64 ((q : Int) - n) ∧ Aside0 (OwnS (fun _ => False) [Sep.blk g1 (tabC b (.slice A xs.length c)) 33, Sep.blk g2 #[.int .i64 0, .int .u8 (f : Int), .int .i64 (q : Int)] 42] w wx))
  case first =>
    have HKV : Aside0 (∀ w' : World, OwnS (fun _ => False) [Sep.blk g1 (tabC b (.slice A xs.length c)) 33, Sep.blk g2 #[.int .i64 0, .int .u8 (f : Int), .int .i64 (q : Int)] 42] w w' → (w'.cell? ⟨g2, 1, none⟩ = some (.int .u8 (f : Int)) ∧ w'.cell? ⟨g2, 2, none⟩ = some (.int .i64 (q : Int)) ∧ w'.cell? ⟨g1, 2 + f, none⟩ = some (.int .u16 n))) := ⟨fun W h => ⟨blk_cell (OwnS.blk h 1 rfl) 1, blk_cell (OwnS.blk h 1 rfl) 2, (by rw [← HN.out]; exact (blk_cell (OwnS.blk h 0 rfl) (2 + f)).trans (tabC_at _ _ f (by rw [HV.out]; exact Nat.lt_of_lt_of_le HF.out (by decide))))⟩⟩
    refine wp_region_held_drew (S := fun w' => w'.cell? ⟨g2, 1, none⟩ = some (.int .u8 (f : Int)) ∧ w'.cell? ⟨g2, 2, none⟩ = some (.int .i64 (q : Int)) ∧ w'.cell? ⟨g1, 2 + f, none⟩ = some (.int .u16 n)) (by kernel_rfl) ?_ (fun hHeld => ?_)
    focus (try dsimp only); (exact HKV.out _ (oh HH))
    (try dsimp only at hHeld)
    refine otk (i := 0) ?_; (try simp only [Act.put, jjA, jjZ, jjS])
    refine otk (i := 1) (v := .int .i64 (q : Int)) ?_; (try simp only [Act.put, jjA, jjZ, jjS])
    refine otk (i := 2) ?_; (try simp only [Act.put, jjA, jjZ, jjS])
    refine otk (i := 3) (v := .int .u8 (f : Int)) ?_; (try simp only [Act.put, jjA, jjZ, jjS])
    refine otk (i := 4) ?_; (try simp only [Act.put, jjA, jjZ, jjS])
    refine otk (i := 5) (v := .pointer (some ⟨g1, 2 + f, none⟩)) ?_; (try simp only [Act.put, jjA, jjZ, jjS])
    refine otk (i := 6) (v := .int .u16 n) ?_; (try simp only [Act.put, jjA, jjZ, jjS])
    refine otk (i := 7) (v := .int .i64 n) ?_; (try simp only [Act.put, jjA, jjZ, jjS])
    refine otk (i := 8) (v := .int .i64 ((q : Int) - n)) ?_; (try simp only [Act.put, jjA, jjZ, jjS])
    refine otk (i := 9) ?_; (try simp only [Act.put, jjA, jjZ, jjS])
    refine wpAnyH_done (by kernel_rfl) ?_ _
    go_wp2_with fail
    go_meet
    exact ⟨rfl, by first | exact HH | exact ⟨OwnS.drewN HH.out _⟩ | exact ⟨OwnS.drew HH.out⟩⟩
  case rest =>
    clear HH
    obtain ⟨rfl, HH⟩ := hcut
    by_cases h1 : (q : Int) - n < 0
    · have e : Aside0 (mayE n q = 6) := ⟨if_pos (by omega)⟩
      skip
      go_wp2_with fail
      go_ret
      exact ⟨by rw [e.out]; rfl, frm_below (OwnS.frm (oh HH))⟩
    · by_cases h2 : 8 ≤ (q : Int) - n
      · have e : Aside0 (mayE n q = 7) := ⟨by unfold mayE; rw [if_neg (by omega), if_pos (by omega)]⟩
        skip
        go_wp2_with fail
        go_ret
        exact ⟨by rw [e.out]; rfl, frm_below (OwnS.frm (oh HH))⟩
      · have e : Aside0 (mayE n q = 0) := ⟨by unfold mayE; rw [if_neg (by omega), if_neg (by omega)]⟩
        skip
        go_wp2_with fail
        go_ret
        exact ⟨by rw [e.out]; rfl, frm_below (OwnS.frm (oh HH))⟩
end Go.Proofs.Ytbaknecnkipooaa.Tld
namespace Go.Proofs.Ytbaknecnkipooaa.Tld
open Go Go.RowKit Go.Proofs.YtbaknecnkipooaaW.PrintWords Go.Proofs.Ytbaknecnkipooaa.Sep Go.Proofs.Ytbaknecnkipooaa.Obj Go.Proofs.Ytbaknecnkipooaa.Vot Go.Proofs.Ytbaknecnkipooaa.Hld
set_option linter.unusedVariables false
set_option linter.unusedSimpArgs false
theorem evS_lit {P : Program} {ops : Array Oper} {rest : List Oper} {o : Oper} {a : Act} {Q : Exit → Act → World → Prop} {S : Nat → Prop} {As : List Asr} {w0 W : World} (HH : OwnS S As w0 W) (hgd : o.guard = none) {cs : Array Value} {T : TypeId} {n : Nat}
    (hrun : (execOp a.eval o).run P W = .ok (.value (.slice (some ⟨W.heap.size, 0, none⟩) n n)) (W.alloc (.cells cs T (0, 0))))
    (h : ∀ g w', OwnS S (As ++ [Sep.blk g cs T]) w0 w' → wpList P ops Q rest (a.put o.dst (.slice (some ⟨g, 0, none⟩) n n)) w') : wpList P ops Q (o :: rest) a W :=
  Kd.event_run hgd hrun (h _ _ (HH.new cs T))
theorem map_len {ys xs : List OP} (h : ys.map OP.o = xs.map OP.o) : xs.length = ys.length := by
  have := congrArg List.length h
  simpa using this.symm
theorem OkT.map {b : List Int} {xs ys : List OP} (h : OkT b xs) (hm : ys.map OP.o = xs.map OP.o) : OkT b ys where
  base := h.base
  o := fun y hy => by
    have : OP.o y ∈ xs.map OP.o := by rw [← hm]; exact List.mem_map.2 ⟨y, hy, rfl⟩
    obtain ⟨x, hx, e⟩ := List.mem_map.1 this
    injection e with e1 e2 e3
    have := h.o x hx
    rw [e1, e2, e3] at this
    exact this
  s := by rw [hm]; exact h.s
  l := by rw [← map_len hm]; exact h.l
theorem srch_iff {l : List OP} {f s n : Nat} (hs : SortedO (l.map OP.o)) (h2 : ∀ k (hk : k < l.length), k < n → lex l[k].frm l[k].seq f s) (h3 : ∀ k (hk : k < l.length), n ≤ k → ¬ lex l[k].frm l[k].seq f s) : (∃ h : n < l.length, l[n].frm = f ∧ l[n].seq = s) ↔ ∃ y ∈ l, y.frm = f ∧ y.seq = s := by
  refine ⟨fun ⟨h, e⟩ => ⟨_, List.getElem_mem h, e⟩, fun ⟨y, hy, e1, e2⟩ => ?_⟩
  obtain ⟨i, hi, rfl⟩ := List.getElem_of_mem hy
  rcases Nat.lt_trichotomy i n with h | h | h
  · have := h2 i hi h
    rw [e1, e2] at this
    exact absurd this lex_irrefl
  · subst h; exact ⟨hi, e1, e2⟩
  · have h4 := hs n i (by simpa using hi) h
    simp only [List.getElem_map, OP.o] at h4
    rw [e1, e2] at h4
    exact absurd h4 (h3 n (by omega) (Nat.le_refl _))
theorem sizes {w : World} {x : RC} (h : RBs w x) (hc : OkC x.c) : Aside0 (x.c.echoes.length ≤ x.c1) ∧ Aside0 (x.c.readies.length ≤ x.c2) ∧ Aside0 (x.c.echoes.length ≤ 900000) ∧ Aside0 (x.c.readies.length ≤ 900000) ∧ Aside0 (whoOk x.c.echoes) ∧ Aside0 (whoOk x.c.readies) :=
  ⟨⟨(RBs_reads h).1⟩, ⟨(RBs_reads h).2.2.1⟩, ⟨Nat.le_trans hc.le1 (by decide)⟩, ⟨Nat.le_trans hc.lr1 (by decide)⟩, ⟨hc.we⟩, ⟨hc.wr⟩⟩
theorem mayE_lo {n : Int} {q : Nat} (h : mayE n q = 0) : n ≤ (q : Int) := by
  unfold mayE at h
  split at h
  · cases h
  · omega
def PutM (os : List Opn) (o : Opn) (zs : List Opn) : Prop := SortedO zs ∧ (∀ x, x ∈ zs ↔ x = o ∨ (x ∈ os ∧ ¬ (x.frm = o.frm ∧ x.seq = o.seq))) ∧ zs.length ≤ os.length + 1
theorem put_lo {b : List Int} {xs zs : List OP} {f q : Nat} {c : Cas} (hk : OkT b xs) (h : PutM (xs.map OP.o) ⟨f, q, c⟩ (zs.map OP.o)) (hl : b.getD f 0 ≤ (q : Int)) : ∀ y ∈ zs, y.frm = f → b.getD f 0 ≤ (y.seq : Int) := fun y hy e => by
  rcases (h.2.1 (OP.o y)).1 (List.mem_map.2 ⟨y, hy, rfl⟩) with h1 | ⟨h1, _⟩
  · injection h1 with _ e2 _
    rw [e2]; exact hl
  · obtain ⟨x, hx, e2⟩ := List.mem_map.1 h1
    injection e2 with e3 e4 _
    have := (hk.o x hx).lo
    rw [e3, e4, e] at this
    exact this
theorem put_s1 {b : List Int} {xs zs : List OP} {f q : Nat} {c : Cas} (hk : OkT b xs) (h : PutM (xs.map OP.o) ⟨f, q, c⟩ (zs.map OP.o)) (hq : q < 1000) : ∀ y ∈ zs, y.seq < 1000 := fun y hy => by
  rcases (h.2.1 (OP.o y)).1 (List.mem_map.2 ⟨y, hy, rfl⟩) with h1 | ⟨h1, _⟩
  · injection h1 with _ e2 _
    rw [e2]; exact hq
  · obtain ⟨x, hx, e2⟩ := List.mem_map.1 h1
    injection e2 with e3 e4 _
    rw [← e4]; exact (hk.o x hx).s1
theorem put_set {ys : List OP} {k f q : Nat} {y' : OP} {c : Cas} (hs : SortedO (ys.map OP.o)) (hk : k < ys.length) (hf : ys[k].frm = f ∧ ys[k].seq = q) (hy : OP.o y' = ⟨f, q, c⟩) : PutM (ys.map OP.o) ⟨f, q, c⟩ ((ys.set k y').map OP.o) := by
  have hy1 : y'.frm = f ∧ y'.seq = q := by injection hy with h1 h2 _; exact ⟨h1, h2⟩
  refine ⟨fun i j hj hij => ?_, fun x => ⟨fun hx => ?_, fun hx => ?_⟩, by simp⟩
  · have hj' : j < ys.length := by simpa using hj
    have h1 := hs i j (by simpa using hj') hij
    simp only [List.getElem_map, OP.o] at h1 ⊢
    rw [List.getElem_set, List.getElem_set]
    split
    · rename_i e; subst e
      split
      · omega
      · rw [hy1.1, hy1.2]; rw [hf.1, hf.2] at h1; exact h1
    · split
      · rename_i e; subst e
        rw [hy1.1, hy1.2]; rw [hf.1, hf.2] at h1; exact h1
      · exact h1
  · obtain ⟨y, hyz, rfl⟩ := List.mem_map.1 hx
    obtain ⟨i, hi, rfl⟩ := List.getElem_of_mem hyz
    have hi' : i < ys.length := by simpa using hi
    rw [List.getElem_set]
    split
    · exact .inl hy
    · rename_i e
      refine .inr ⟨List.mem_map.2 ⟨ys[i], List.getElem_mem _, rfl⟩, fun ⟨h1, h2⟩ => e ?_⟩
      exact (sortedO_inj hs hi' hk (by rw [hf.1]; exact h1) (by rw [hf.2]; exact h2)).symm
  · rcases hx with rfl | ⟨hx, hn⟩
    · exact List.mem_map.2 ⟨y', by rw [List.mem_iff_getElem]; exact ⟨k, by simpa using hk, by simp⟩, hy⟩
    · obtain ⟨y, hyz, rfl⟩ := List.mem_map.1 hx
      obtain ⟨i, hi, rfl⟩ := List.getElem_of_mem hyz
      have hne : k ≠ i := fun e => hn (by subst e; exact hf)
      exact List.mem_map.2 ⟨ys[i], by rw [List.mem_iff_getElem]; exact ⟨i, by simpa using hi, by rw [List.getElem_set, if_neg hne]⟩, rfl⟩
theorem put_ins {ys : List OP} {k f q : Nat} {y' : OP} {c : Cas} (hs : SortedO (ys.map OP.o)) (h1 : k ≤ ys.length) (h2 : ∀ j (hj : j < ys.length), j < k → lex ys[j].frm ys[j].seq f q) (h3 : ∀ j (hj : j < ys.length), k ≤ j → ¬ lex ys[j].frm ys[j].seq f q) (hn : ¬ ∃ y ∈ ys, y.frm = f ∧ y.seq = q) (hy : OP.o y' = ⟨f, q, c⟩) : PutM (ys.map OP.o) ⟨f, q, c⟩ ((ys.take k ++ y' :: ys.drop k).map OP.o) := by
  have hp : (ys.map OP.o).Pairwise (fun a b => lex a.frm a.seq b.frm b.seq) := List.pairwise_iff_getElem.2 (fun i j hi hj hij => hs i j hj hij)
  refine ⟨?_, fun x => ?_, by simp [List.length_take, List.length_drop]; omega⟩
  · have : ((ys.take k ++ y' :: ys.drop k).map OP.o).Pairwise (fun a b => lex a.frm a.seq b.frm b.seq) := by
      rw [List.map_append, List.map_cons, List.pairwise_append, List.pairwise_cons, List.map_take, List.map_drop]
      refine ⟨hp.sublist (List.take_sublist _ _), ⟨fun o ho => ?_, hp.sublist (List.drop_sublist _ _)⟩, fun o ho o2 ho2 => ?_⟩
      · rw [hy]
        rw [← List.map_drop] at ho
        obtain ⟨y, hyd, rfl⟩ := List.mem_map.1 ho
        obtain ⟨i, hi, e⟩ := List.getElem_of_mem hyd
        rw [List.getElem_drop] at e
        have hki : k + i < ys.length := by simp at hi; omega
        have h4 := h3 (k + i) hki (by omega)
        rw [e] at h4
        rcases lex_total (a := y.frm) (b := y.seq) (c := f) (d := q) with h5 | ⟨h5, h6⟩ | h5
        · exact absurd h5 h4
        · exact absurd ⟨y, List.mem_of_mem_drop hyd, h5, h6⟩ hn
        · exact h5
      · rw [← List.map_take] at ho
        obtain ⟨y, hyt, rfl⟩ := List.mem_map.1 ho
        obtain ⟨i, hi, e⟩ := List.getElem_of_mem hyt
        rw [List.getElem_take] at e
        have hik : i < k := by simp at hi; omega
        have h4 := h2 i (by omega) hik
        rw [e] at h4
        rcases List.mem_cons.1 ho2 with rfl | ho2
        · rw [hy]; exact h4
        · rw [← List.map_drop] at ho2
          obtain ⟨y2, hyd, rfl⟩ := List.mem_map.1 ho2
          obtain ⟨j, hj, e2⟩ := List.getElem_of_mem hyd
          rw [List.getElem_drop] at e2
          have hkj : k + j < ys.length := by simp at hj; omega
          have h5 := hs i (k + j) (by simpa using hkj) (by omega)
          simp only [List.getElem_map, OP.o] at h5
          rw [e, e2] at h5
          exact h5
    intro i j hj hij
    exact List.pairwise_iff_getElem.1 this i j (by omega) hj hij
  · have hm : x ∈ (ys.take k ++ y' :: ys.drop k).map OP.o ↔ x = OP.o y' ∨ x ∈ ys.map OP.o := by
      conv => rhs; rw [← List.take_append_drop k ys]
      simp only [List.map_append, List.map_cons, List.mem_append, List.mem_cons]
      constructor
      · rintro (h | h | h)
        · exact .inr (.inl h)
        · exact .inl h
        · exact .inr (.inr h)
      · rintro (h | h | h)
        · exact .inr (.inl h)
        · exact .inl h
        · exact .inr (.inr h)
    rw [hm, hy]
    refine ⟨fun h => h.elim .inl (fun h => .inr ⟨h, fun ⟨e1, e2⟩ => ?_⟩), fun h => h.elim .inl (fun h => .inr h.1)⟩
    obtain ⟨y, hyz, rfl⟩ := List.mem_map.1 h
    exact hn ⟨y, hyz, e1, e2⟩
def TakeErr (b : List Int) (xs : List OP) (er : Int) (w : World) (e : Ending) (w' : World) : Prop := ∃ A' c' ys, e = .returned (.tuple #[.agg (tabC b (.slice A' ys.length c')), .slice none 0 0, .string ⟨#[]⟩, .bool false, .int .i64 er]) ∧ ys.map OP.o = xs.map OP.o ∧ (∀ y ∈ ys, RBs w' y.x) ∧ Own [Sep.row kOP 79 (.slice A' ys.length c') ys] w w'
def TakeOk (b : List Int) (os : List Opn) (f q : Nat) (a : Ans) (w : World) (e : Ending) (w' : World) : Prop := ∃ (A' : Option Addr) (c' : Nat) (b' : List Int) (ys' zs : List OP) (m : Nat) (A3 : Option Addr) (n3 : Nat), e = .returned (.tuple #[.agg (tabC b' (.slice A' ys'.length c')), .slice A3 a.outs.length n3, .string a.body, .bool a.is, .int .i64 0]) ∧
  PutM os ⟨f, q, a.c⟩ (zs.map OP.o) ∧ Reach b zs f b' ys' m ∧ (∀ y ∈ ys', ¬ (y.frm = f ∧ (y.seq : Int) = b.getD f 0 + (m : Int) ∧ y.x.c.done = true)) ∧ (∀ y ∈ ys', RBs w' y.x) ∧ Own [Sep.row kOP 79 (.slice A' ys'.length c') ys'] w w'
end Go.Proofs.Ytbaknecnkipooaa.Tld
