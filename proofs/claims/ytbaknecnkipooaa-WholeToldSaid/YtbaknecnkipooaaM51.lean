/- WholeTold: the walk. -/
import Derived.Test.YtbaknecnkipooaaM50
namespace Go.Proofs.Ytbaknecnkipooaa.Tld
open Go Go.RowKit Go.Proofs.YtbaknecnkipooaaW.PrintWords Go.Proofs.Ytbaknecnkipooaa.Sep Go.Proofs.Ytbaknecnkipooaa.Obj Go.Proofs.Ytbaknecnkipooaa.Vot Go.Proofs.Ytbaknecnkipooaa.Hld Go.Proofs.Ytbaknecnkipooaa.Opn
set_option linter.unusedVariables false
set_option linter.unusedSimpArgs false
theorem put_len {told : List Int} {wait : List It} {x : It} : (putH told wait x).1.2.1.length ≤ wait.length + 1 ∧ (putH told wait x).1.2.2.length ≤ wait.length + 1 := by
  by_cases h : (putH told wait x).2 = 0
  · obtain ⟨_, h2, _, _, ⟨_, h1⟩ | ⟨_, _, h1⟩⟩ := putH_ok h
    · rw [h1]
      have := drain_ind (fun _ w o => o.length + w.length = wait.length + 1) (fun t w o i hi hr h => by rw [List.length_eraseIdx]; simp [hi]; omega) wait.length (Hld.inc told x) wait [x] (by simp; omega)
      omega
    · rw [h1]; simp
  · rw [putH_err h]; simp
theorem range_bod {k : Int} {v : List Int} {t : ByteArray} (hv : v.length = 16) {w : World} {g : Nat} {T : TypeId} (h : w.heap[g]? = some (.cells (bodC k v t) T (0, 0))) : w.rangeAt g 0 (bodC k v t).toList := by
  have := World.rangeAt_of_block h 0 18
  rw [all_of _ _ (bodC_size k v t hv)] at this
  exact this
theorem range_itb {x : It} (hv : x.past.length = 16) {w : World} {g : Nat} {T : TypeId} (h : w.heap[g]? = some (.cells (itC x) T (0, 0))) : w.rangeAt g 2 (bodC x.kind x.past x.text).toList := by
  have := World.rangeAt_of_block h 2 18
  rw [itC_bod _ hv] at this
  exact this
theorem range_tabv {b : List Int} {s : Value} (hv : b.length = 16) {w : World} {g : Nat} {T : TypeId} (h : w.heap[g]? = some (.cells (tabC b s) T (0, 0))) : w.rangeAt g 2 (vecC b).toList := (range_tab hv h).2
theorem range_vec2 {v : List Int} (hv : v.length = 16) {w : World} {g : Nat} {T : TypeId} (h : w.heap[g]? = some (.cells (vecC v) T (0, 0))) : w.rangeAt g 0 (vecC v).toList := by
  have := World.rangeAt_of_block h 0 16
  rw [all_of _ _ (vecC_size v hv)] at this
  exact this
theorem buildE {P : Program} {ops : Array Oper} {rest : List Oper} {op : Oper} {a : Act} {w : World} {Q : Exit → Act → World → Prop} (hgd : op.guard = none) {t : TypeId} {parts : Array (Nat × Operand)} {v : Value} (ho : op.op = .build t parts)
    (hr : (Instr.build t (parts.map fun p => (p.1, a.eval p.2))).run P w = .ok v w) (h : wpList P ops Q rest (a.put op.dst v) w) : wpList P ops Q (op :: rest) a w := by
  refine wpList_plain hgd fun K' hK' => ?_
  unfold Oper.wp
  simp only [execOp, ho, Sem.run_bind, hr, Result.andThen_ok, Sem.run_pure]
  exact hK' _ _ h
def AllK (pre : List It) (y : It) (k : Nat) (t : List Int) (wl : List It) : Prop := if k ≤ 2 then AllI pre t wl else AllI (pre ++ [y]) t wl
section
variable {pre : List It} {y : It} {k : Nat} {t : List Int} {wl : List It}
theorem AllK.start (h : AllI pre t wl) : AllK pre y 0 t wl := h
theorem AllK.lo (h : AllK pre y k t wl) (hk : k ≤ 2) : AllI pre t wl := by unfold AllK at h; rw [if_pos hk] at h; exact h
theorem AllK.hi (h : AllK pre y k t wl) (hk : 3 ≤ k) : AllI (pre ++ [y]) t wl := by unfold AllK at h; rw [if_neg (by omega)] at h; exact h
theorem AllK.of (h : AllI (pre ++ [y]) t wl) (hk : 3 ≤ k) : AllK pre y k t wl := by unfold AllK; rw [if_neg (by omega)]; exact h
theorem AllK.ok (h : AllK pre y k t wl) : okV t := by
  unfold AllK at h
  split at h
  · exact AllI.ok h
  · exact AllI.ok h
theorem AllK.next (h : AllK pre y k t wl) (hk : k ≠ 2) : AllK pre y (k + 1) t wl := by
  unfold AllK at h ⊢
  split at h
  · rw [if_pos (by omega)]; exact h
  · rw [if_neg (by omega)]; exact h
end
set_option maxHeartbeats 2000000 in
set_option maxRecDepth 100000 in
theorem told_calls (w : World) (A : Option Addr) (c : Nat) (l : List (Int × Int)) (A2 : Option Addr) (c2 : Nat) (ord : List Int) (hr : kSe.C w A l.length l) (hl : ∀ x ∈ l, WI .u8 x.1 ∧ WI .u8 x.2) (hr2 : (Kd.int .u8).C w A2 ord.length ord) (hord : ∀ x ∈ ord, WI .u8 x) : Calls Try.prog 3 #[.slice A l.length c, .slice A2 ord.length c2] w (Kp (.bool true) w) := by
  have HH : Aside0 (OwnS (fun _ => False) [] w w) := ⟨OwnS.of_own (Own.start w)⟩
  have hom : ord.length ≤ 9223372036854775807 := hr2.2.1
  have HR := Aside0.mk hr
  have HLW := Aside0.mk hl
  have HR2 := Aside0.mk hr2
  have HORD := Aside0.mk hord
  clear hr hl hr2 hord
  go_enter Try.func3, Try.ntmps3
  go_wp2_with (first
  | (go_at_call 4; refine ownS_call (oh HH) ?_; intro ht; refine (works_calls _).mono ?_; rintro e w1 ⟨rfl, hb⟩; replace HH : Aside0 (OwnS (fun _ => False) [] w w1) := ⟨OwnS.step ht hb⟩; clear hb; clear ht)
  | (go_at_call 5; refine ownS_call (oh HH) ?_; intro ht; refine (his_calls _ A c l ?_ HLW.out).mono ?_; (focus exact Kd.C_below HR.out (frm_below (OwnS.frm ht))); rintro e w2 ⟨IA, ci, KK, H, rfl, ho, hI, hH40⟩; obtain ⟨N, hN⟩ : ∃ N, H.length = N := ⟨_, rfl⟩; rw [hN] at ho hH40 ⊢; have HN := Aside0.mk hN; have HGH : Aside0 (∀ y ∈ H, GoodY y) := ⟨fun y hy => good_of hI (by rw [hN]; exact hH40) hy⟩; have HHI := Aside0.mk hI; replace HH : Aside0 (OwnS (fun _ => False) [Sep.row kIt 40 (.slice IA N ci) H] w w2) := ⟨OwnS.joinL (Bs := [Sep.row kIt 40 (.slice IA N ci) H]) ht ho⟩; clear hN hI ho ht)
  | ((with_reducible refine gate_dst (N := 33) rfl ?_); refine buildE rfl rfl (v := .agg (tabC (List.replicate 16 (0 : Int)) (.slice none 0 0))) (by simp only [List.map_toArray, List.map_cons, List.map_nil]; exact build_tab _) ?_)
  | ((with_reducible refine gate_dst (N := 6) rfl ?_); refine evS_box (oh HH) rfl (cs := zTab) (T := 33) ?_ ?_; (focus first | (go_simp; done) | (go_simp; rfl)); intro g1 w3 he hh; clear he; replace HH : Aside0 (OwnS (fun _ => False) [Sep.row kIt 40 (.slice IA N ci) H, Sep.blk g1 (zTab) 33] w w3) := ⟨hh⟩; clear hh)
  | ((with_reducible refine gate_ (.store 33 (.tmp 6) (.tmp 33)) rfl ?_); refine evS_storeA (oh HH) 1 rfl rfl rfl rfl (by rfl) (.agg (tabC (List.replicate 16 (0 : Int)) (.slice none 0 0))) (by rfl) (tabC (List.replicate 16 (0 : Int)) (.slice none 0 0)) (by rfl) 19 19 (tabC_size _ _ (by rfl)) zTab_size (by kernel_rfl) (by decide) (tabC_one _ _ rfl) (tabC (List.replicate 16 (0 : Int)) (.slice none 0 0)) (put_all _ _ (by rw [(tabC_size _ _ (by rfl)), zTab_size])) ?_; intro w4 hh; replace HH : Aside0 (OwnS (fun _ => False) [Sep.row kIt 40 (.slice IA N ci) H, Sep.blk g1 (tabC (List.replicate 16 (0 : Int)) (.slice none 0 0)) 33] w w4) := ⟨hh⟩; clear hh)
  | ((with_reducible refine gate_dst (N := 7) rfl ?_); refine evS_box (oh HH) rfl (cs := hoC (List.replicate 16 (0 : Int)) (.slice none 0 0)) (T := 36) ?_ ?_; (focus first | (go_simp; done) | (go_simp; rfl)); intro g2 w5 he hh; clear he; replace HH : Aside0 (OwnS (fun _ => False) [Sep.row kIt 40 (.slice IA N ci) H, Sep.blk g1 (tabC (List.replicate 16 (0 : Int)) (.slice none 0 0)) 33, Sep.blk g2 (hoC (List.replicate 16 (0 : Int)) (.slice none 0 0)) 36] w w5) := ⟨hh⟩; clear hh)
  | ((with_reducible refine gate_dst (N := 8) rfl ?_); refine evS_box (oh HH) rfl (cs := vecC (List.replicate 16 (0 : Int))) (T := 30) ?_ ?_; (focus first | (go_simp; done) | (go_simp; rfl)); intro g3 w6 he hh; clear he; replace HH : Aside0 (OwnS (fun _ => False) [Sep.row kIt 40 (.slice IA N ci) H, Sep.blk g1 (tabC (List.replicate 16 (0 : Int)) (.slice none 0 0)) 33, Sep.blk g2 (hoC (List.replicate 16 (0 : Int)) (.slice none 0 0)) 36, Sep.blk g3 (vecC (List.replicate 16 (0 : Int))) 30] w w6) := ⟨hh⟩; clear hh)
  | fail
  | fail)
  go_loopw [9, 36] (fun v9 vi W => ∃ (i : Nat) (xs : List It) (b : List Int) (ops : List OP) (t : List Int) (wl : List It) (TA : Option Addr) (tc : Nat) (B : Option Addr) (d : Nat) (s : Int), v9 = .int .i64 s ∧ vi = .int .i64 (i : Int) ∧ i ≤ N ∧ Aside0 (xs.length = N) ∧ Aside0 (xs.Perm H) ∧ Aside0 (AllI (xs.take i) t wl) ∧ Aside0 (TabI (xs.take i) b (ops.map OP.o)) ∧ Aside0 (ops.length ≤ 4 * i) ∧ Aside0 (∀ y ∈ ops, RBs W y.x) ∧ Aside0 (s = sumD t z16 16) ∧ Aside0 (OwnS (fun _ => False) [Sep.row kIt 40 (.slice IA N ci) xs, Sep.blk g1 (tabC b (.slice TA ops.length tc)) 33, Sep.blk g2 (hoC t (.slice B wl.length d)) 36, Sep.blk g3 (vecC t) 30, Sep.row kOP 79 (.slice TA ops.length tc) ops, Sep.row kIt 56 (.slice B wl.length d) wl] w W)) (fun _ vi _ => N - (intOf vi).toNat)
  case atStart => exact ⟨0, H, z16, [], z16, [], none, 0, none, 0, 0, rfl, rfl, by omega, HN, ⟨List.Perm.refl _⟩, ⟨AllI.start⟩, ⟨TabI.start⟩, ⟨by simp⟩, ⟨fun y hy => by simp at hy⟩, ⟨by decide⟩, ⟨OwnS.joinL (OwnS.joinL HH.out (Bs := [Sep.row kOP 79 (.slice none 0 0) []]) (Own.nil (Own.start _))) (Bs := [Sep.row kIt 56 (.slice none 0 0) []]) (Own.nil (Own.start _))⟩⟩
  case round =>
    clear HH
    obtain ⟨i, xs, b, ops, t, wl, TA, tc, B, d, s, rfl, rfl, hi, HXL0, HXP0, HI, HTI, HOL, HRB, HS, HH⟩ := hrel
    by_cases hlt : i < N
    · obtain ⟨W1, hW1⟩ : ∃ W1 : World, W1 = wr := ⟨_, rfl⟩
      subst hW1
      obtain ⟨S1, h1, hnb1, hun1⟩ := rebase HH.out (List.forall_mem_cons.2 ⟨noBal_it (notKept (by decide) (by decide)), List.forall_mem_cons.2 ⟨noBal_blk (notKept (by decide) (by decide)), List.forall_mem_cons.2 ⟨noBal_blk (notKept (by decide) (by decide)), List.forall_mem_cons.2 ⟨noBal_blk (notKept (by decide) (by decide)), List.forall_mem_cons.2 ⟨noBal_flat (notKept (by decide) (by decide)), List.forall_mem_cons.2 ⟨noBal_it (notKept (by decide) (by decide)), List.forall_mem_nil _⟩⟩⟩⟩⟩⟩)
      have HNB1 := Aside0.mk hnb1
      have HUN1 := Aside0.mk hun1
      have HHx : Aside0 (OwnS S1 [Sep.row kIt 40 (.slice IA N ci) xs, Sep.blk g1 (tabC b (.slice TA ops.length tc)) 33, Sep.blk g2 (hoC t (.slice B wl.length d)) 36, Sep.blk g3 (vecC t) 30, Sep.row kOP 79 (.slice TA ops.length tc) ops, Sep.row kIt 56 (.slice B wl.length d) wl] W1 W1) := ⟨h1⟩
      clear HH h1 hnb1 hun1
      have HH := HHx
      clear HHx
      obtain ⟨gi, hgi, _, _⟩ := row_front (OwnS.row HH.out 0 rfl) (by omega)
      subst hgi
      have q0 : 0 ≤ (i : Int) := by omega
      have q1 : (i : Int) < (N : Int) := by omega
      go_upto_if 42 with fail
      go_cut [] (fun wx => ∃ x2 : List It, Aside0 (x2.Perm H) ∧ Aside0 (x2.length = N) ∧ Aside0 (x2.take i = xs.take i) ∧ Aside0 (OwnS S1 [Sep.row kIt 40 (.slice (some ⟨gi, 0, none⟩) N ci) x2, Sep.blk g1 (tabC b (.slice TA ops.length tc)) 33, Sep.blk g2 (hoC t (.slice B wl.length d)) 36, Sep.blk g3 (vecC t) 30, Sep.row kOP 79 (.slice TA ops.length tc) ops, Sep.row kIt 56 (.slice B wl.length d) wl] W1 wx))
      case first =>
       by_cases hio : i < ord.length
       · obtain ⟨g0, o0, ea, f0⟩ := Hld.at_B (Kd.C_below HR2.out (frm_below (OwnS.frm (HUN1.out _ _ HH.out)))) i hio
         subst ea
         obtain ⟨u, hu⟩ : ∃ u, ord[i] = u := ⟨_, rfl⟩
         have hwu := HORD.out ord[i] (List.getElem_mem hio)
         rw [hu] at f0 hwu
         obtain ⟨u0, u1⟩ := wf_u8 hwu
         obtain ⟨D, hD⟩ : ∃ D : Nat, (N : Int) - (i : Int) = (D : Int) := ⟨N - i, by omega⟩
         obtain ⟨E, hE⟩ : ∃ E : Nat, (if 3 < (D : Int) then (3 : Int) else (D : Int)) = (E : Int) := ⟨min D 3, by split <;> omega⟩
         have hE0 : 0 < (E : Int) := by split at hE <;> omega
         have hEne : ¬ ((E : Int) = 0) := by omega
         have hE3 : (E : Int) ≤ 3 := by split at hE <;> omega
         have hED : (E : Int) ≤ (D : Int) := by split at hE <;> omega
         obtain ⟨r, hr⟩ : ∃ r : Nat, u % (E : Int) = (r : Int) := ⟨(u % (E : Int)).toNat, by have := Int.emod_nonneg u hEne; omega⟩
         have hrl : (r : Int) < (E : Int) := by rw [← hr]; exact Int.emod_lt_of_pos u hE0
         have hrt : Int.tmod u (E : Int) = (r : Int) := by rw [Int.tmod_eq_emod_of_nonneg u0]; exact hr
         obtain ⟨k, hk⟩ : ∃ k : Nat, (i : Int) + (r : Int) = (k : Int) := ⟨i + r, by omega⟩
         have hkn : k < N := by omega
         have hik : i ≤ k := by omega
         have k0 : 0 ≤ (k : Int) := by omega
         have k1 : (k : Int) < (N : Int) := by omega
         have p1 : (i : Int) < (ord.length : Int) := by omega
         have r9 : (r : Int) ≤ 40 := by omega
         obtain ⟨x, hx⟩ : ∃ x, xs[i]'(by rw [HXL0.out]; exact hlt) = x := ⟨_, rfl⟩
         obtain ⟨z, hz⟩ : ∃ z, xs[k]'(by rw [HXL0.out]; exact hkn) = z := ⟨_, rfl⟩
         have HXI := Aside0.mk hx
         have HZK := Aside0.mk hz
         have HOX : Aside0 (okI x) := ⟨(HGH.out x (HXP0.out.mem_iff.1 (hx ▸ List.getElem_mem _))).ok⟩
         have HOZ : Aside0 (okI z) := ⟨(HGH.out z (HXP0.out.mem_iff.1 (hz ▸ List.getElem_mem _))).ok⟩
         have HRX : Aside0 (∀ W, OwnS S1 [Sep.row kIt 40 (.slice (some ⟨gi, 0, none⟩) N ci) xs, Sep.blk g1 (tabC b (.slice TA ops.length tc)) 33, Sep.blk g2 (hoC t (.slice B wl.length d)) 36, Sep.blk g3 (vecC t) 30, Sep.row kOP 79 (.slice TA ops.length tc) ops, Sep.row kIt 56 (.slice B wl.length d) wl] W1 W → W.rangeAt gi (i * 20) (itC x).toList) := ⟨fun W h => by
           obtain ⟨g', o', ea', _, hr'⟩ := at_It (OwnS.C h 0 rfl) i (by rw [HXL0.out]; exact hlt)
           cases ea'
           rw [HXI.out] at hr'
           simpa using hr'⟩
         have HRZ : Aside0 (∀ W, OwnS S1 [Sep.row kIt 40 (.slice (some ⟨gi, 0, none⟩) N ci) xs, Sep.blk g1 (tabC b (.slice TA ops.length tc)) 33, Sep.blk g2 (hoC t (.slice B wl.length d)) 36, Sep.blk g3 (vecC t) 30, Sep.row kOP 79 (.slice TA ops.length tc) ops, Sep.row kIt 56 (.slice B wl.length d) wl] W1 W → W.rangeAt gi (k * 20) (itC z).toList) := ⟨fun W h => by
           obtain ⟨g', o', ea', _, hr'⟩ := at_It (OwnS.C h 0 rfl) k (by rw [HXL0.out]; exact hkn)
           cases ea'
           rw [HZK.out] at hr'
           simpa using hr'⟩
         clear hwu hu hx hz
         have HXP : Aside0 (((xs.set i z).set k x).Perm H) := ⟨by rw [← HXI.out, ← HZK.out]; exact (swap_perm _ _).trans HXP0.out⟩
         have HXL : Aside0 (((xs.set i z).set k x).length = N) := ⟨by simp [HXL0.out]⟩
         have HTE : Aside0 (((xs.set i z).set k x).take i = xs.take i) := ⟨swap_take xs hik _ _⟩
         go_upto_region 13 with fail
         have HKV : Aside0 (∀ w' : World, OwnS S1 [Sep.row kIt 40 (.slice (some ⟨gi, 0, none⟩) N ci) xs, Sep.blk g1 (tabC b (.slice TA ops.length tc)) 33, Sep.blk g2 (hoC t (.slice B wl.length d)) 36, Sep.blk g3 (vecC t) 30, Sep.row kOP 79 (.slice TA ops.length tc) ops, Sep.row kIt 56 (.slice B wl.length d) wl] W1 w' → (True)) := ⟨fun W h => trivial⟩
         refine wp_region_held_drew (S := fun w' => True) (by kernel_rfl) ?_ (fun hHeld => ?_)
         focus trivial
         (try dsimp only at hHeld)
         refine otk (i := 0) (v := .slice (some ⟨gi, 0, none⟩) N ci) ?_; (try simp only [Act.put, jjA, jjZ, jjS])
         refine otk (i := 1) (v := .int .i64 (i : Int)) ?_; (try simp only [Act.put, jjA, jjZ, jjS])
         refine otk (i := 2) (v := .slice (some ⟨gi, 0, none⟩) N ci) ?_; (try simp only [Act.put, jjA, jjZ, jjS])
         refine otk (i := 3) (v := .int .i64 (k : Int)) ?_; (try simp only [Act.put, jjA, jjZ, jjS])
         refine otk (i := 4) (v := .slice (some ⟨gi, 0, none⟩) N ci) ?_; (try simp only [Act.put, jjA, jjZ, jjS])
         refine otk (i := 5) (v := .int .i64 (k : Int)) ?_; (try simp only [Act.put, jjA, jjZ, jjS])
         refine otk (i := 6) ?_; (try simp only [Act.put, jjA, jjZ, jjS])
         refine otk (i := 8) (v := .slice (some ⟨gi, 0, none⟩) N ci) ?_; (try simp only [Act.put, jjA, jjZ, jjS])
         refine otk (i := 9) (v := .int .i64 (i : Int)) ?_; (try simp only [Act.put, jjA, jjZ, jjS])
         refine otk (i := 10) ?_; (try simp only [Act.put, jjA, jjZ, jjS])
         refine wpAnyH_ready (rs := [7, 11]) (by kernel_rfl) (by simp) ?_
         refine AllReadyH.cons (by simp only [List.getElem?_toArray, List.getElem?_cons_succ, List.getElem?_cons_zero]; rfl) (fun K hK => ?_) ?_
         · refine Hld.ev_loadR_step (b := gi) (p0 := (k * 20)) (n := 20) (cs := itC z) (HRZ.out _ ?_) (by rfl) rfl (by rfl) Try.underlying40 rfl (itC_size _ HOZ.out.1.1) (by kernel_rfl) ?_; (focus first | with_reducible exact HH.out | ((with_reducible repeat first | refine OwnS.alloc ?_ _ | refine OwnS.drewN ?_ _ | refine OwnS.drew ?_); with_reducible exact HH.out)); refine hK.out _ _ ?_ (fun hHeld2 => ?_); (focus trivial); clear hK K hHeld; rename _ => hHeld; (try dsimp only at hHeld); (try simp only [Act.put, jjA, jjZ, jjS])
           refine wpAnyH_ready (rs := [11]) (by kernel_rfl) (by simp) ?_
           refine AllReadyH.cons (by simp only [List.getElem?_toArray, List.getElem?_cons_succ, List.getElem?_cons_zero]; rfl) (fun K hK => ?_) AllReadyH.nil; refine Hld.ev_loadR_step (b := gi) (p0 := (i * 20)) (n := 20) (cs := itC x) (HRX.out _ ?_) (by rfl) rfl (by rfl) Try.underlying40 rfl (itC_size _ HOX.out.1.1) (by kernel_rfl) ?_; (focus first | with_reducible exact HH.out | ((with_reducible repeat first | refine OwnS.alloc ?_ _ | refine OwnS.drewN ?_ _ | refine OwnS.drew ?_); with_reducible exact HH.out)); refine hK.out _ _ ?_ (fun hHeld2 => ?_); (focus trivial); clear hK K hHeld; rename _ => hHeld; (try dsimp only at hHeld); (try simp only [Act.put, jjA, jjZ, jjS])
           refine otk (i := 12) ?_; (try simp only [Act.put, jjA, jjZ, jjS])
           refine wpAnyH_ready (rs := [13]) (by kernel_rfl) (by simp) ?_
           refine AllReadyH.cons (by simp only [List.getElem?_toArray, List.getElem?_cons_succ, List.getElem?_cons_zero]; rfl) (fun K hK => ?_) AllReadyH.nil; refine Hld.evS_elem_step (oh HH) 0 (by rfl) rfl rfl rfl i hlt (by rfl) rfl z HOZ.out (by rfl) (by kernel_rfl) ?_; intro w41 hh; replace HH : Aside0 (OwnS S1 [Sep.row kIt 40 (.slice (some ⟨gi, 0, none⟩) N ci) (xs.set i z), Sep.blk g1 (tabC b (.slice TA ops.length tc)) 33, Sep.blk g2 (hoC t (.slice B wl.length d)) 36, Sep.blk g3 (vecC t) 30, Sep.row kOP 79 (.slice TA ops.length tc) ops, Sep.row kIt 56 (.slice B wl.length d) wl] W1 w41) := ⟨hh⟩; clear hh; clear HKV; have HKV : Aside0 (∀ w' : World, OwnS S1 [Sep.row kIt 40 (.slice (some ⟨gi, 0, none⟩) N ci) (xs.set i z), Sep.blk g1 (tabC b (.slice TA ops.length tc)) 33, Sep.blk g2 (hoC t (.slice B wl.length d)) 36, Sep.blk g3 (vecC t) 30, Sep.row kOP 79 (.slice TA ops.length tc) ops, Sep.row kIt 56 (.slice B wl.length d) wl] W1 w' → (True)) := ⟨fun W h => trivial⟩; refine hK.out _ _ ?_ (fun hHeld2 => ?_); (focus trivial); clear hK K hHeld; rename _ => hHeld; (try dsimp only at hHeld); (try simp only [Act.put, jjA, jjZ, jjS])
           refine otk (i := 14) ?_; (try simp only [Act.put, jjA, jjZ, jjS])
           refine wpAnyH_ready (rs := [15]) (by kernel_rfl) (by simp) ?_
           refine AllReadyH.cons (by simp only [List.getElem?_toArray, List.getElem?_cons_succ, List.getElem?_cons_zero]; rfl) (fun K hK => ?_) AllReadyH.nil; refine Hld.evS_elem_step (oh HH) 0 (by rfl) rfl rfl rfl k hkn (by rfl) rfl x HOX.out (by rfl) (by kernel_rfl) ?_; intro w42 hh; replace HH : Aside0 (OwnS S1 [Sep.row kIt 40 (.slice (some ⟨gi, 0, none⟩) N ci) ((xs.set i z).set k x), Sep.blk g1 (tabC b (.slice TA ops.length tc)) 33, Sep.blk g2 (hoC t (.slice B wl.length d)) 36, Sep.blk g3 (vecC t) 30, Sep.row kOP 79 (.slice TA ops.length tc) ops, Sep.row kIt 56 (.slice B wl.length d) wl] W1 w42) := ⟨hh⟩; clear hh; clear HKV; have HKV : Aside0 (∀ w' : World, OwnS S1 [Sep.row kIt 40 (.slice (some ⟨gi, 0, none⟩) N ci) ((xs.set i z).set k x), Sep.blk g1 (tabC b (.slice TA ops.length tc)) 33, Sep.blk g2 (hoC t (.slice B wl.length d)) 36, Sep.blk g3 (vecC t) 30, Sep.row kOP 79 (.slice TA ops.length tc) ops, Sep.row kIt 56 (.slice B wl.length d) wl] W1 w' → (True)) := ⟨fun W h => trivial⟩; refine hK.out _ _ ?_ (fun hHeld2 => ?_); (focus trivial); clear hK K hHeld; rename _ => hHeld; (try dsimp only at hHeld); (try simp only [Act.put, jjA, jjZ, jjS])
           refine wpAnyH_done (by kernel_rfl) ?_ _
           go_wp2_with fail
           go_meet
           exact ⟨_, HXP, HXL, HTE, by first | exact HH | exact ⟨OwnS.drewN HH.out _⟩ | exact ⟨OwnS.drew HH.out⟩⟩
         refine AllReadyH.cons (by simp only [List.getElem?_toArray, List.getElem?_cons_succ, List.getElem?_cons_zero]; rfl) (fun K hK => ?_) ?_
         · refine Hld.ev_loadR_step (b := gi) (p0 := (i * 20)) (n := 20) (cs := itC x) (HRX.out _ ?_) (by rfl) rfl (by rfl) Try.underlying40 rfl (itC_size _ HOX.out.1.1) (by kernel_rfl) ?_; (focus first | with_reducible exact HH.out | ((with_reducible repeat first | refine OwnS.alloc ?_ _ | refine OwnS.drewN ?_ _ | refine OwnS.drew ?_); with_reducible exact HH.out)); refine hK.out _ _ ?_ (fun hHeld2 => ?_); (focus trivial); clear hK K hHeld; rename _ => hHeld; (try dsimp only at hHeld); (try simp only [Act.put, jjA, jjZ, jjS])
           refine wpAnyH_ready (rs := [7]) (by kernel_rfl) (by simp) ?_
           refine AllReadyH.cons (by simp only [List.getElem?_toArray, List.getElem?_cons_succ, List.getElem?_cons_zero]; rfl) (fun K hK => ?_) AllReadyH.nil; refine Hld.ev_loadR_step (b := gi) (p0 := (k * 20)) (n := 20) (cs := itC z) (HRZ.out _ ?_) (by rfl) rfl (by rfl) Try.underlying40 rfl (itC_size _ HOZ.out.1.1) (by kernel_rfl) ?_; (focus first | with_reducible exact HH.out | ((with_reducible repeat first | refine OwnS.alloc ?_ _ | refine OwnS.drewN ?_ _ | refine OwnS.drew ?_); with_reducible exact HH.out)); refine hK.out _ _ ?_ (fun hHeld2 => ?_); (focus trivial); clear hK K hHeld; rename _ => hHeld; (try dsimp only at hHeld); (try simp only [Act.put, jjA, jjZ, jjS])
           refine otk (i := 12) ?_; (try simp only [Act.put, jjA, jjZ, jjS])
           refine wpAnyH_ready (rs := [13]) (by kernel_rfl) (by simp) ?_
           refine AllReadyH.cons (by simp only [List.getElem?_toArray, List.getElem?_cons_succ, List.getElem?_cons_zero]; rfl) (fun K hK => ?_) AllReadyH.nil; refine Hld.evS_elem_step (oh HH) 0 (by rfl) rfl rfl rfl i hlt (by rfl) rfl z HOZ.out (by rfl) (by kernel_rfl) ?_; intro w41 hh; replace HH : Aside0 (OwnS S1 [Sep.row kIt 40 (.slice (some ⟨gi, 0, none⟩) N ci) (xs.set i z), Sep.blk g1 (tabC b (.slice TA ops.length tc)) 33, Sep.blk g2 (hoC t (.slice B wl.length d)) 36, Sep.blk g3 (vecC t) 30, Sep.row kOP 79 (.slice TA ops.length tc) ops, Sep.row kIt 56 (.slice B wl.length d) wl] W1 w41) := ⟨hh⟩; clear hh; clear HKV; have HKV : Aside0 (∀ w' : World, OwnS S1 [Sep.row kIt 40 (.slice (some ⟨gi, 0, none⟩) N ci) (xs.set i z), Sep.blk g1 (tabC b (.slice TA ops.length tc)) 33, Sep.blk g2 (hoC t (.slice B wl.length d)) 36, Sep.blk g3 (vecC t) 30, Sep.row kOP 79 (.slice TA ops.length tc) ops, Sep.row kIt 56 (.slice B wl.length d) wl] W1 w' → (True)) := ⟨fun W h => trivial⟩; refine hK.out _ _ ?_ (fun hHeld2 => ?_); (focus trivial); clear hK K hHeld; rename _ => hHeld; (try dsimp only at hHeld); (try simp only [Act.put, jjA, jjZ, jjS])
           refine otk (i := 14) ?_; (try simp only [Act.put, jjA, jjZ, jjS])
           refine wpAnyH_ready (rs := [15]) (by kernel_rfl) (by simp) ?_
           refine AllReadyH.cons (by simp only [List.getElem?_toArray, List.getElem?_cons_succ, List.getElem?_cons_zero]; rfl) (fun K hK => ?_) AllReadyH.nil; refine Hld.evS_elem_step (oh HH) 0 (by rfl) rfl rfl rfl k hkn (by rfl) rfl x HOX.out (by rfl) (by kernel_rfl) ?_; intro w42 hh; replace HH : Aside0 (OwnS S1 [Sep.row kIt 40 (.slice (some ⟨gi, 0, none⟩) N ci) ((xs.set i z).set k x), Sep.blk g1 (tabC b (.slice TA ops.length tc)) 33, Sep.blk g2 (hoC t (.slice B wl.length d)) 36, Sep.blk g3 (vecC t) 30, Sep.row kOP 79 (.slice TA ops.length tc) ops, Sep.row kIt 56 (.slice B wl.length d) wl] W1 w42) := ⟨hh⟩; clear hh; clear HKV; have HKV : Aside0 (∀ w' : World, OwnS S1 [Sep.row kIt 40 (.slice (some ⟨gi, 0, none⟩) N ci) ((xs.set i z).set k x), Sep.blk g1 (tabC b (.slice TA ops.length tc)) 33, Sep.blk g2 (hoC t (.slice B wl.length d)) 36, Sep.blk g3 (vecC t) 30, Sep.row kOP 79 (.slice TA ops.length tc) ops, Sep.row kIt 56 (.slice B wl.length d) wl] W1 w' → (True)) := ⟨fun W h => trivial⟩; refine hK.out _ _ ?_ (fun hHeld2 => ?_); (focus trivial); clear hK K hHeld; rename _ => hHeld; (try dsimp only at hHeld); (try simp only [Act.put, jjA, jjZ, jjS])
           refine wpAnyH_done (by kernel_rfl) ?_ _
           go_wp2_with fail
           go_meet
           exact ⟨_, HXP, HXL, HTE, by first | exact HH | exact ⟨OwnS.drewN HH.out _⟩ | exact ⟨OwnS.drew HH.out⟩⟩
         exact AllReadyH.nil
       · have p1 : ¬ ((i : Int) < (ord.length : Int)) := by omega
         go_wp2_with fail
         go_meet
         exact ⟨xs, HXP0, HXL0, ⟨rfl⟩, HH⟩
      case rest =>
        clear HH
        obtain ⟨x2, HXP, HXL, HTE, HH⟩ := hcut
        obtain ⟨y, hy⟩ : ∃ y, x2[i]'(by rw [HXL.out]; exact hlt) = y := ⟨_, rfl⟩
        have HGY : Aside0 (GoodY y) := ⟨HGH.out y (HXP.out.mem_iff.1 (hy ▸ List.getElem_mem _))⟩
        have HYI := Aside0.mk hy
        clear hy
        have HOY : Aside0 (okI y) := ⟨HGY.out.ok⟩
        have hap := take_apart (perm_apart HXP.out HHI.out.caus.apart) (show i < x2.length by rw [HXL.out]; exact hlt)
        rw [HYI.out, HTE.out] at hap
        have HAP : Aside0 (∀ u ∈ xs.take i, same u y = false) := ⟨hap⟩
        have HGP : Aside0 (∀ u ∈ xs.take i, GoodY u) := ⟨fun u hu => HGH.out u (HXP0.out.mem_iff.1 (List.mem_of_mem_take hu))⟩
        have HTK : Aside0 (x2.take (i + 1) = xs.take i ++ [y]) := ⟨by rw [← List.take_append_getElem (show i < x2.length by rw [HXL.out]; exact hlt), HTE.out, HYI.out]⟩
        have HRI : Aside0 (rightB y.kind y.past y.text y.frm y.seq = true) := ⟨HGY.out.right⟩
        have HPL : Aside0 ((xs.take i).length ≤ 40) := ⟨by rw [List.length_take]; omega⟩
        clear hap
        have HRY : Aside0 (∀ W, OwnS S1 [Sep.row kIt 40 (.slice (some ⟨gi, 0, none⟩) N ci) x2, Sep.blk g1 (tabC b (.slice TA ops.length tc)) 33, Sep.blk g2 (hoC t (.slice B wl.length d)) 36, Sep.blk g3 (vecC t) 30, Sep.row kOP 79 (.slice TA ops.length tc) ops, Sep.row kIt 56 (.slice B wl.length d) wl] W1 W → W.rangeAt gi (i * 20) (itC y).toList) := ⟨fun W h => by
          obtain ⟨g', o', ea', _, hr'⟩ := at_It (OwnS.C h 0 rfl) i (by rw [HXL.out]; exact hlt)
          cases ea'
          rw [HYI.out] at hr'
          simpa using hr'⟩
        go_wp2_with (first
                  | ((with_reducible refine gate_ (.load 40 (.tmp 72)) rfl ?_); refine Hld.ev_loadR (b := gi) (p0 := i * 20) (n := 20) (cs := itC y) (HRY.out _ ?_) rfl rfl (by rfl) Try.underlying40 rfl (itC_size _ HOY.out.1.1) (by kernel_rfl) ?_; (focus first | with_reducible exact HH.out | ((with_reducible repeat first | refine OwnS.alloc ?_ _ | refine OwnS.drewN ?_ _ | refine OwnS.drew ?_); with_reducible exact HH.out)))
                  | ((with_reducible refine gate_dst (N := 12) rfl ?_); refine evS_box (oh HH) rfl (cs := itC zI) (T := 40) ?_ ?_; (focus first | (go_simp; done) | (go_simp; rfl)); intro g4 w201 he hh; clear he; replace HH : Aside0 (OwnS S1 [Sep.row kIt 40 (.slice (some ⟨gi, 0, none⟩) N ci) x2, Sep.blk g1 (tabC b (.slice TA ops.length tc)) 33, Sep.blk g2 (hoC t (.slice B wl.length d)) 36, Sep.blk g3 (vecC t) 30, Sep.row kOP 79 (.slice TA ops.length tc) ops, Sep.row kIt 56 (.slice B wl.length d) wl, Sep.blk g4 (itC zI) 40] W1 w201) := ⟨hh⟩; clear hh)
                  | ((with_reducible refine gate_ (.store 40 (.tmp 12) (.tmp 73)) rfl ?_); refine evS_storeA (oh HH) 6 rfl rfl rfl rfl (by rfl) (.agg (itC y)) (by rfl) (itC y) (by rfl) 20 20 (itC_size _ HOY.out.1.1) (itC_size _ zI_len) (by kernel_rfl) (by decide) (itC_one _) (itC y) (put_all _ _ (by rw [(itC_size _ HOY.out.1.1), (itC_size _ zI_len)])) ?_; intro w202 hh; replace HH : Aside0 (OwnS S1 [Sep.row kIt 40 (.slice (some ⟨gi, 0, none⟩) N ci) x2, Sep.blk g1 (tabC b (.slice TA ops.length tc)) 33, Sep.blk g2 (hoC t (.slice B wl.length d)) 36, Sep.blk g3 (vecC t) 30, Sep.row kOP 79 (.slice TA ops.length tc) ops, Sep.row kIt 56 (.slice B wl.length d) wl, Sep.blk g4 (itC y) 40] W1 w202) := ⟨hh⟩; clear hh)
                  | ((with_reducible refine gate_ (.load 5 (.tmp 74)) rfl ?_); refine ev_cell (v := .int .u8 y.frm) ((blk_cell (OwnS.blk (oh HH) 6 rfl) 0).trans rfl) rfl rfl (by rfl) Try.underlying5 rfl ?_)
                  | ((with_reducible refine gate_ (.load 3 (.tmp 76)) rfl ?_); refine ev_cell (v := .int .i64 y.seq) ((blk_cell (OwnS.blk (oh HH) 6 rfl) 1).trans rfl) rfl rfl (by rfl) Try.underlying3 rfl ?_)
                  | ((with_reducible refine gate_dst (N := 13) rfl ?_); refine evS_box (oh HH) rfl (cs := #[.int .i64 0, .int .u8 0, .int .i64 0]) (T := 42) ?_ ?_; (focus first | (go_simp; done) | (go_simp; rfl)); intro g5 w203 he hh; clear he; replace HH : Aside0 (OwnS S1 [Sep.row kIt 40 (.slice (some ⟨gi, 0, none⟩) N ci) x2, Sep.blk g1 (tabC b (.slice TA ops.length tc)) 33, Sep.blk g2 (hoC t (.slice B wl.length d)) 36, Sep.blk g3 (vecC t) 30, Sep.row kOP 79 (.slice TA ops.length tc) ops, Sep.row kIt 56 (.slice B wl.length d) wl, Sep.blk g4 (itC y) 40, Sep.blk g5 #[.int .i64 0, .int .u8 0, .int .i64 0] 42] W1 w203) := ⟨hh⟩; clear hh)
                  | ((with_reducible refine gate_ (.store 42 (.tmp 13) (.tmp 78)) rfl ?_); refine evS_store (oh HH) 7 rfl rfl rfl rfl (by rfl) (.agg #[.int .i64 0, .int .u8 y.frm, .int .i64 y.seq]) (by rfl) [.int .i64 0, .int .u8 y.frm, .int .i64 y.seq] (by rfl) (by kernel_rfl) (by simp) (by simp [Value.oneCell']) ?_; intro w204 hh; replace HH : Aside0 (OwnS S1 [Sep.row kIt 40 (.slice (some ⟨gi, 0, none⟩) N ci) x2, Sep.blk g1 (tabC b (.slice TA ops.length tc)) 33, Sep.blk g2 (hoC t (.slice B wl.length d)) 36, Sep.blk g3 (vecC t) 30, Sep.row kOP 79 (.slice TA ops.length tc) ops, Sep.row kIt 56 (.slice B wl.length d) wl, Sep.blk g4 (itC y) 40, Sep.blk g5 #[.int .i64 0, .int .u8 y.frm, .int .i64 y.seq] 42] W1 w204) := ⟨hh⟩; clear hh)
                  | ((with_reducible refine gate_ (.load 38 (.tmp 80)) rfl ?_); refine ev_loadA (OwnS.blk (oh HH) 6 rfl) 2 18 (bodC (y.kind) (y.past) (y.text)) (itC_bod _ HOY.out.1.1) rfl rfl (by rfl) Try.underlying38 rfl (bodC_size _ _ _ HOY.out.1.1) (by kernel_rfl) ?_)
                  | (go_at_call 6; refine ownS_call (oh HH) ?_; intro ht; refine (pencY_calls _ y HGY.out).mono ?_; rintro e w205 ⟨rfl, hb⟩; replace HH : Aside0 (OwnS S1 [Sep.row kIt 40 (.slice (some ⟨gi, 0, none⟩) N ci) x2, Sep.blk g1 (tabC b (.slice TA ops.length tc)) 33, Sep.blk g2 (hoC t (.slice B wl.length d)) 36, Sep.blk g3 (vecC t) 30, Sep.row kOP 79 (.slice TA ops.length tc) ops, Sep.row kIt 56 (.slice B wl.length d) wl, Sep.blk g4 (itC y) 40, Sep.blk g5 #[.int .i64 0, .int .u8 y.frm, .int .i64 y.seq] 42] W1 w205) := ⟨OwnS.step ht hb⟩; clear hb; clear ht)
                  | fail
                  | fail)
        go_loopw [9, 87] (fun v9 v87 W => ∃ (k : Nat) (b2 : List Int) (op2 : List OP) (t2 : List Int) (wl2 : List It) (TA2 : Option Addr) (tc2 : Nat) (B2 : Option Addr) (d2 : Nat) (s2 : Int), v9 = .int .i64 s2 ∧ v87 = .int .u8 (k : Int) ∧ k ≤ 4 ∧ Aside0 (MidI (xs.take i) y y.frm.toNat y.seq.toNat (encY y) k b2 (op2.map OP.o)) ∧ Aside0 (op2.length ≤ 4 * i + k) ∧ Aside0 (AllK (xs.take i) y k t2 wl2) ∧ Aside0 (s2 = sumD t2 z16 16) ∧ Aside0 (∀ y ∈ op2, RBs W y.x) ∧ Aside0 (OwnS S1 [Sep.row kIt 40 (.slice (some ⟨gi, 0, none⟩) N ci) x2, Sep.blk g1 (tabC b2 (.slice TA2 op2.length tc2)) 33, Sep.blk g2 (hoC t2 (.slice B2 wl2.length d2)) 36, Sep.blk g3 (vecC t2) 30, Sep.row kOP 79 (.slice TA2 op2.length tc2) op2, Sep.row kIt 56 (.slice B2 wl2.length d2) wl2, Sep.blk g4 (itC y) 40, Sep.blk g5 #[.int .i64 0, .int .u8 y.frm, .int .i64 y.seq] 42] W1 W)) (fun _ v87 _ => 4 - (intOf v87).toNat)
        case atStart => exact ⟨0, b, ops, t, wl, TA, tc, B, d, s, rfl, rfl, by omega, ⟨MidI.start HTI.out⟩, ⟨by have := HOL.out; omega⟩, ⟨AllK.start HI.out⟩, HS, ⟨fun y hy => RBs_frm (HRB.out y hy) (OwnS.frm (oh HH)) HNB1.out⟩, ⟨(oh HH)⟩⟩
        case round =>
          clear HH HRY
          obtain ⟨k, b2, op2, t2, wl2, TA2, tc2, B2, d2, s2, rfl, rfl, hk4, HM, HOL2, HA, HS2, HRB2, HH⟩ := hrel
          have HT2 : Aside0 (okV t2) := ⟨HA.out.ok⟩
          by_cases hkl : k < 4
          · have HL9 : Aside0 (op2.length ≤ 900) := ⟨by have := HOL2.out; omega⟩
            have r4 : (k : Int) < 4 := by omega
            have r5 : 0 ≤ (k : Int) := by omega
            have hwk : IntKind.u8.wrap ((k : Int) + 1) = (k : Int) + 1 := by rw [IntKind.wrap_u8]; omega
            go_upto_region 23 with (first
                  | ((with_reducible refine gate_ (.load 33 (.tmp 6)) rfl ?_); refine ev_loadA (OwnS.blk (oh HH) 1 rfl) 0 19 (tabC b2 (.slice TA2 op2.length tc2)) (all_of _ 19 (tabC_size _ _ HM.out.okb)) rfl rfl (by rfl) Try.underlying33 rfl (tabC_size _ _ HM.out.okb) (by kernel_rfl) ?_)
                  | ((with_reducible refine gate_ (.load 42 (.tmp 13)) rfl ?_); refine ev_load (OwnS.blk (oh HH) 7 rfl) 0 3 [.int .i64 0, .int .u8 y.frm, .int .i64 y.seq] rfl rfl rfl (by rfl) Try.underlying42 rfl (by kernel_rfl) ?_)
                  | (go_at_call 7; refine ownS_call (oh HH) ?_; intro ht; refine (takeY_calls _ b2 TA2 tc2 op2 (xs.take i) y k HM.out HGY.out HGP.out HAP.out hkl HL9.out ?_ HRB2.out).mono ?_; (focus exact OwnS.C ht 4 rfl); rintro e w231 ⟨TA3, tc3, b3, ys, A3, m3, n3, bd, is, er, rfl, hb16, hB, ho, hlen, hcase⟩; have HB3 := Aside0.mk hb16; have HRB3 := Aside0.mk hB; have HL3 := Aside0.mk hlen; have HCS := Aside0.mk hcase; have ht2 := OwnS.joinL (Bs := [Sep.row kOP 79 (.slice TA3 ys.length tc3) ys]) ht ho; obtain ⟨S2, h2, hnb2, hun2⟩ := rebase (OwnS.picks ht2 [0, 1, 2, 3, 8, 5, 6, 7] (by decide)) (List.forall_mem_cons.2 ⟨noBal_it (notKept (by decide) (by decide)), List.forall_mem_cons.2 ⟨noBal_blk (notKept (by decide) (by decide)), List.forall_mem_cons.2 ⟨noBal_blk (notKept (by decide) (by decide)), List.forall_mem_cons.2 ⟨noBal_blk (notKept (by decide) (by decide)), List.forall_mem_cons.2 ⟨noBal_flat (notKept (by decide) (by decide)), List.forall_mem_cons.2 ⟨noBal_it (notKept (by decide) (by decide)), List.forall_mem_cons.2 ⟨noBal_blk (notKept (by decide) (by decide)), List.forall_mem_cons.2 ⟨noBal_blk (notKept (by decide) (by decide)), List.forall_mem_nil _⟩⟩⟩⟩⟩⟩⟩⟩); have HNB2 := Aside0.mk hnb2; have HUN2 := Aside0.mk hun2; replace HH : Aside0 (OwnS S2 [Sep.row kIt 40 (.slice (some ⟨gi, 0, none⟩) N ci) x2, Sep.blk g1 (tabC b2 (.slice TA2 op2.length tc2)) 33, Sep.blk g2 (hoC t2 (.slice B2 wl2.length d2)) 36, Sep.blk g3 (vecC t2) 30, Sep.row kOP 79 (.slice TA3 ys.length tc3) ys, Sep.row kIt 56 (.slice B2 wl2.length d2) wl2, Sep.blk g4 (itC y) 40, Sep.blk g5 #[.int .i64 0, .int .u8 y.frm, .int .i64 y.seq] 42] w231 w231) := ⟨h2⟩; clear ht ht2 ho hb16 hB hlen hcase h2 hnb2 hun2)
                  | ((with_reducible refine gate_dst (N := 17) rfl ?_); refine evS_box (oh HH) rfl (cs := zTab) (T := 33) ?_ ?_; (focus first | (go_simp; done) | (go_simp; rfl)); intro g6 w232 he hh; clear he; replace HH : Aside0 (OwnS S2 [Sep.row kIt 40 (.slice (some ⟨gi, 0, none⟩) N ci) x2, Sep.blk g1 (tabC b2 (.slice TA2 op2.length tc2)) 33, Sep.blk g2 (hoC t2 (.slice B2 wl2.length d2)) 36, Sep.blk g3 (vecC t2) 30, Sep.row kOP 79 (.slice TA3 ys.length tc3) ys, Sep.row kIt 56 (.slice B2 wl2.length d2) wl2, Sep.blk g4 (itC y) 40, Sep.blk g5 #[.int .i64 0, .int .u8 y.frm, .int .i64 y.seq] 42, Sep.blk g6 (zTab) 33] w231 w232) := ⟨hh⟩; clear hh)
                  | ((with_reducible refine gate_ (.store 33 (.tmp 17) (.tmp 96)) rfl ?_); refine evS_storeA (oh HH) 8 rfl rfl rfl rfl (by rfl) (.agg (tabC b3 (.slice TA3 ys.length tc3))) (by rfl) (tabC b3 (.slice TA3 ys.length tc3)) (by rfl) 19 19 (tabC_size _ _ HB3.out) zTab_size (by kernel_rfl) (by decide) (tabC_one _ _ rfl) (tabC b3 (.slice TA3 ys.length tc3)) (put_all _ _ (by rw [(tabC_size _ _ HB3.out), zTab_size])) ?_; intro w233 hh; replace HH : Aside0 (OwnS S2 [Sep.row kIt 40 (.slice (some ⟨gi, 0, none⟩) N ci) x2, Sep.blk g1 (tabC b2 (.slice TA2 op2.length tc2)) 33, Sep.blk g2 (hoC t2 (.slice B2 wl2.length d2)) 36, Sep.blk g3 (vecC t2) 30, Sep.row kOP 79 (.slice TA3 ys.length tc3) ys, Sep.row kIt 56 (.slice B2 wl2.length d2) wl2, Sep.blk g4 (itC y) 40, Sep.blk g5 #[.int .i64 0, .int .u8 y.frm, .int .i64 y.seq] 42, Sep.blk g6 (tabC b3 (.slice TA3 ys.length tc3)) 33] w231 w233) := ⟨hh⟩; clear hh)
                  | fail
                  | fail)
            rcases HCS.out with ⟨he7, _⟩ | ⟨hne, his, hbd, hM3⟩
            · subst he7
              go_wp2_with fail
              go_ret
              exact ⟨rfl, frm_below (OwnS.frm (HUN1.out _ _ (HUN2.out _ _ (oh HH))))⟩
            · have HM3 := Aside0.mk hM3
              by_cases hk2 : k = 2
              · obtain rfl : is = true := by rw [his]; exact decide_eq_true hk2
                obtain rfl : bd = encY y := hbd hk2
                have hA2 : AllI (xs.take i) t2 wl2 := HA.out.lo (by omega)
                have hgo := goes_all (t := t2) (wl := wl2) (x := y)
                obtain ⟨e0, hJ, hS⟩ := hA2.put (fun u hu => (HGP.out u hu).ok) HOY.out HGY.out.right HAP.out (by have := HPL.out; omega)
                have hlen := put_len (told := t2) (wait := wl2) (x := y)
                obtain ⟨dd, hput⟩ : ∃ dd, putH t2 wl2 y = dd := ⟨_, rfl⟩
                rw [hput] at e0 hJ hS hlen hgo
                obtain ⟨⟨t3, w3, o3⟩, er3⟩ := dd
                simp only at e0 hJ hS hlen hgo
                subst e0
                have HPUT := Aside0.mk hput
                have HJ := Aside0.mk hJ
                have HGO := Aside0.mk hgo
                have HT3 : Aside0 (okV t3) := ⟨hJ.ok⟩
                have hsum := hA2.sum
                have hpl := HPL.out
                have hs0 := sumD_nonneg hA2.ok 16 (Nat.le_refl _)
                have hw40 : wl2.length ≤ 40 := by omega
                have HQ : Aside0 (∀ u ∈ wl2, WI .i64 u.seq) := ⟨fun u hu => (HGP.out u (hA2.its u hu)).cmp.1⟩
                have HLW2 : Aside0 (wl2.length ≤ 1000000) := ⟨by omega⟩
                have ho3 : o3.length ≤ 41 := by omega
                rw [← HS2.out] at hS hs0
                obtain ⟨s3, hs3⟩ : ∃ s', s2 + (o3.length : Int) = s' := ⟨_, rfl⟩
                have HS3 : Aside0 (s3 = sumD t3 z16 16) := ⟨by rw [hS, hs3]⟩
                have hs4 : s2 ≤ 40 := by rw [← HS2.out] at hsum; omega
                clear hput hJ hS hlen hsum hA2 hpl hgo
                have hq : ∀ W : World, (Op.equalIn 10000 38 (.agg (bodC y.kind y.past y.text)) (.agg (bodC y.kind y.past y.text))).run Try.prog W = .ok true W := fun W => eqBodR y HOY.out HGY.out.cmp W
                clear his hbd hM3 HCS
                go_wp2_with (first
                    | ((with_reducible refine gate_ (.load 33 (.tmp 17)) rfl ?_); refine ev_loadA (OwnS.blk (oh HH) 8 rfl) 0 19 (tabC b3 (.slice TA3 ys.length tc3)) (all_of _ 19 (tabC_size _ _ HB3.out)) rfl rfl (by rfl) Try.underlying33 rfl (tabC_size _ _ HB3.out) (by kernel_rfl) ?_)
                    | ((with_reducible refine gate_ (.store 33 (.tmp 6) (.tmp 103)) rfl ?_); refine evS_storeA (oh HH) 1 rfl rfl rfl rfl (by rfl) (.agg (tabC b3 (.slice TA3 ys.length tc3))) (by rfl) (tabC b3 (.slice TA3 ys.length tc3)) (by rfl) 19 19 (tabC_size _ _ HB3.out) (tabC_size _ _ HM.out.okb) (by kernel_rfl) (by decide) (tabC_one _ _ rfl) (tabC b3 (.slice TA3 ys.length tc3)) (put_all _ _ (by rw [(tabC_size _ _ HB3.out), (tabC_size _ _ HM.out.okb)])) ?_; intro w301 hh; replace HH : Aside0 (OwnS S2 [Sep.row kIt 40 (.slice (some ⟨gi, 0, none⟩) N ci) x2, Sep.blk g1 (tabC b3 (.slice TA3 ys.length tc3)) 33, Sep.blk g2 (hoC t2 (.slice B2 wl2.length d2)) 36, Sep.blk g3 (vecC t2) 30, Sep.row kOP 79 (.slice TA3 ys.length tc3) ys, Sep.row kIt 56 (.slice B2 wl2.length d2) wl2, Sep.blk g4 (itC y) 40, Sep.blk g5 #[.int .i64 0, .int .u8 y.frm, .int .i64 y.seq] 42, Sep.blk g6 (tabC b3 (.slice TA3 ys.length tc3)) 33] w231 w301) := ⟨hh⟩; clear hh)
                    | (go_at_call 8; refine ownS_call (oh HH) ?_; intro ht; refine (pdecY_calls _ y HGY.out).mono ?_; rintro e w302 ⟨rfl, hb⟩; replace HH : Aside0 (OwnS S2 [Sep.row kIt 40 (.slice (some ⟨gi, 0, none⟩) N ci) x2, Sep.blk g1 (tabC b3 (.slice TA3 ys.length tc3)) 33, Sep.blk g2 (hoC t2 (.slice B2 wl2.length d2)) 36, Sep.blk g3 (vecC t2) 30, Sep.row kOP 79 (.slice TA3 ys.length tc3) ys, Sep.row kIt 56 (.slice B2 wl2.length d2) wl2, Sep.blk g4 (itC y) 40, Sep.blk g5 #[.int .i64 0, .int .u8 y.frm, .int .i64 y.seq] 42, Sep.blk g6 (tabC b3 (.slice TA3 ys.length tc3)) 33] w231 w302) := ⟨OwnS.step ht hb⟩; clear hb; clear ht)
                    | ((with_reducible refine gate_dst (N := 22) rfl ?_); refine evS_box (oh HH) rfl (cs := bodC 0 (List.replicate 16 (0 : Int)) ⟨#[]⟩) (T := 46) ?_ ?_; (focus first | (go_simp; done) | (go_simp; rfl)); intro g7 w303 he hh; clear he; replace HH : Aside0 (OwnS S2 [Sep.row kIt 40 (.slice (some ⟨gi, 0, none⟩) N ci) x2, Sep.blk g1 (tabC b3 (.slice TA3 ys.length tc3)) 33, Sep.blk g2 (hoC t2 (.slice B2 wl2.length d2)) 36, Sep.blk g3 (vecC t2) 30, Sep.row kOP 79 (.slice TA3 ys.length tc3) ys, Sep.row kIt 56 (.slice B2 wl2.length d2) wl2, Sep.blk g4 (itC y) 40, Sep.blk g5 #[.int .i64 0, .int .u8 y.frm, .int .i64 y.seq] 42, Sep.blk g6 (tabC b3 (.slice TA3 ys.length tc3)) 33, Sep.blk g7 (bodC 0 (List.replicate 16 (0 : Int)) ⟨#[]⟩) 46] w231 w303) := ⟨hh⟩; clear hh)
                    | ((with_reducible refine gate_ (.store 46 (.tmp 22) (.tmp 109)) rfl ?_); refine evS_storeA (oh HH) 9 rfl rfl rfl rfl (by rfl) (.agg (bodC (y.kind) (y.past) (y.text))) (by rfl) (bodC (y.kind) (y.past) (y.text)) (by rfl) 18 18 (bodC_size _ _ _ HOY.out.1.1) (bodC_size _ _ _ (by rfl)) (by kernel_rfl) (by decide) (bodC_one _ _ _) (bodC (y.kind) (y.past) (y.text)) (put_all _ _ (by rw [(bodC_size _ _ _ HOY.out.1.1), (bodC_size _ _ _ (by rfl))])) ?_; intro w304 hh; replace HH : Aside0 (OwnS S2 [Sep.row kIt 40 (.slice (some ⟨gi, 0, none⟩) N ci) x2, Sep.blk g1 (tabC b3 (.slice TA3 ys.length tc3)) 33, Sep.blk g2 (hoC t2 (.slice B2 wl2.length d2)) 36, Sep.blk g3 (vecC t2) 30, Sep.row kOP 79 (.slice TA3 ys.length tc3) ys, Sep.row kIt 56 (.slice B2 wl2.length d2) wl2, Sep.blk g4 (itC y) 40, Sep.blk g5 #[.int .i64 0, .int .u8 y.frm, .int .i64 y.seq] 42, Sep.blk g6 (tabC b3 (.slice TA3 ys.length tc3)) 33, Sep.blk g7 (bodC (y.kind) (y.past) (y.text)) 46] w231 w304) := ⟨hh⟩; clear hh; have fn1 : World.cell? _ ⟨g5, 1, none⟩ = some (.int .u8 y.frm) := blk_cell (OwnS.blk HH.out 7 rfl) 1; have fn2 : World.cell? _ ⟨g5, 2, none⟩ = some (.int .i64 y.seq) := blk_cell (OwnS.blk HH.out 7 rfl) 2)
                    | ((with_reducible refine gate_dst (N := 114) rfl ?_); refine loadG (by rfl) _ _ rfl g7 0 rfl (bodC y.kind y.past y.text) _ ?_ Try.underlying46 rfl (by rw [bodC_size _ _ _ HOY.out.1.1]; kernel_rfl) ?_; (focus (refine range_bod HOY.out.1.1 (OwnS.blk (oh HH) 9 rfl))))
                    | ((with_reducible refine gate_dst (N := 116) rfl ?_); refine loadG (by rfl) _ _ rfl g4 2 rfl (bodC y.kind y.past y.text) _ ?_ Try.underlying38 rfl (by rw [bodC_size _ _ _ HOY.out.1.1]; kernel_rfl) ?_; (focus (refine range_itb HOY.out.1.1 (OwnS.blk (oh HH) 6 rfl))))
                    | ((with_reducible refine gate_dst (N := 120) rfl ?_); refine loadG (by rfl) _ _ rfl g7 0 rfl (bodC y.kind y.past y.text) _ ?_ Try.underlying46 rfl (by rw [bodC_size _ _ _ HOY.out.1.1]; kernel_rfl) ?_; (focus (refine range_bod HOY.out.1.1 (OwnS.blk (oh HH) 9 rfl))))
                    | (go_at_call 9; refine ownS_call (oh HH) ?_; intro ht; refine (Hld.right_calls _ y.kind y.past y.text y.frm y.seq HOY.out.1 HOY.out.2.2 HGY.out.f0).mono ?_; rintro e w305 ⟨rfl, hb⟩; rw [HRI.out]; replace HH : Aside0 (OwnS S2 [Sep.row kIt 40 (.slice (some ⟨gi, 0, none⟩) N ci) x2, Sep.blk g1 (tabC b3 (.slice TA3 ys.length tc3)) 33, Sep.blk g2 (hoC t2 (.slice B2 wl2.length d2)) 36, Sep.blk g3 (vecC t2) 30, Sep.row kOP 79 (.slice TA3 ys.length tc3) ys, Sep.row kIt 56 (.slice B2 wl2.length d2) wl2, Sep.blk g4 (itC y) 40, Sep.blk g5 #[.int .i64 0, .int .u8 y.frm, .int .i64 y.seq] 42, Sep.blk g6 (tabC b3 (.slice TA3 ys.length tc3)) 33, Sep.blk g7 (bodC (y.kind) (y.past) (y.text)) 46] w231 w305) := ⟨OwnS.step ht hb⟩; clear hb; clear ht; clear fn1 fn2)
                    | ((with_reducible refine gate_ (.load 36 (.tmp 7)) rfl ?_); refine ev_loadA (OwnS.blk (oh HH) 2 rfl) 0 17 (hoC t2 (.slice B2 wl2.length d2)) (all_of _ 17 (hoC_size _ _ HT2.out.1)) rfl rfl (by rfl) Try.underlying36 rfl (hoC_size _ _ HT2.out.1) (by kernel_rfl) ?_)
                    | ((with_reducible refine gate_ (.load 5 (.tmp 130)) rfl ?_); refine ev_cell (blk_cell (OwnS.blk (oh HH) 7 rfl) 1) rfl rfl (by rfl) Try.underlying5 rfl ?_)
                    | ((with_reducible refine gate_ (.load 3 (.tmp 132)) rfl ?_); refine ev_cell (blk_cell (OwnS.blk (oh HH) 7 rfl) 2) rfl rfl (by rfl) Try.underlying3 rfl ?_)
                    | ((with_reducible refine gate_ (.load 46 (.tmp 22)) rfl ?_); refine ev_loadA (OwnS.blk (oh HH) 9 rfl) 0 18 (bodC (y.kind) (y.past) (y.text)) (all_of _ 18 (bodC_size _ _ _ HOY.out.1.1)) rfl rfl (by rfl) Try.underlying46 rfl (bodC_size _ _ _ HOY.out.1.1) (by kernel_rfl) ?_)
                    | ((with_reducible refine gate_dst (N := 135) rfl ?_); refine buildE rfl rfl (v := .agg (itC y)) (by simp only [List.map_toArray, List.map_cons, List.map_nil]; exact build_it y HOY.out.1.1 _) ?_)
                    | (go_at_call 10; refine ownS_call (oh HH) ?_; intro ht; refine (put_calls _ t2 B2 d2 wl2 y HT2.out HOY.out ?_ HQ.out HLW2.out).mono ?_; (focus exact OwnS.C ht 5 rfl); rw [HPUT.out]; rintro e w306 ⟨B3, d3, B4, d4, rfl, ho⟩; (try dsimp only at ho ⊢); (try simp only [List.length_nil] at ho ⊢); replace HH : Aside0 (OwnS S2 [Sep.row kIt 40 (.slice (some ⟨gi, 0, none⟩) N ci) x2, Sep.blk g1 (tabC b3 (.slice TA3 ys.length tc3)) 33, Sep.blk g2 (hoC t2 (.slice B2 wl2.length d2)) 36, Sep.blk g3 (vecC t2) 30, Sep.row kOP 79 (.slice TA3 ys.length tc3) ys, Sep.row kIt 56 (.slice B2 wl2.length d2) wl2, Sep.blk g4 (itC y) 40, Sep.blk g5 #[.int .i64 0, .int .u8 y.frm, .int .i64 y.seq] 42, Sep.blk g6 (tabC b3 (.slice TA3 ys.length tc3)) 33, Sep.blk g7 (bodC (y.kind) (y.past) (y.text)) 46, Sep.row kIt 56 (.slice B3 w3.length d3) w3, Sep.row kIt 56 (.slice B4 o3.length d4) o3] w231 w306) := ⟨OwnS.joinL (Bs := [Sep.row kIt 56 (.slice B3 w3.length d3) w3, Sep.row kIt 56 (.slice B4 o3.length d4) o3]) ht ho⟩; clear ho ht)
                    | ((with_reducible refine gate_dst (N := 24) rfl ?_); refine evS_box (oh HH) rfl (cs := hoC (List.replicate 16 (0 : Int)) (.slice none 0 0)) (T := 36) ?_ ?_; (focus first | (go_simp; done) | (go_simp; rfl)); intro g8 w307 he hh; clear he; replace HH : Aside0 (OwnS S2 [Sep.row kIt 40 (.slice (some ⟨gi, 0, none⟩) N ci) x2, Sep.blk g1 (tabC b3 (.slice TA3 ys.length tc3)) 33, Sep.blk g2 (hoC t2 (.slice B2 wl2.length d2)) 36, Sep.blk g3 (vecC t2) 30, Sep.row kOP 79 (.slice TA3 ys.length tc3) ys, Sep.row kIt 56 (.slice B2 wl2.length d2) wl2, Sep.blk g4 (itC y) 40, Sep.blk g5 #[.int .i64 0, .int .u8 y.frm, .int .i64 y.seq] 42, Sep.blk g6 (tabC b3 (.slice TA3 ys.length tc3)) 33, Sep.blk g7 (bodC (y.kind) (y.past) (y.text)) 46, Sep.row kIt 56 (.slice B3 w3.length d3) w3, Sep.row kIt 56 (.slice B4 o3.length d4) o3, Sep.blk g8 (hoC (List.replicate 16 (0 : Int)) (.slice none 0 0)) 36] w231 w307) := ⟨hh⟩; clear hh)
                    | ((with_reducible refine gate_ (.store 36 (.tmp 24) (.tmp 137)) rfl ?_); refine evS_storeA (oh HH) 12 rfl rfl rfl rfl (by rfl) (.agg (hoC t3 (.slice B3 w3.length d3))) (by rfl) (hoC t3 (.slice B3 w3.length d3)) (by rfl) 17 17 (hoC_size _ _ HT3.out.1) (hoC_size _ _ (by rfl)) (by kernel_rfl) (by decide) (hoC_one _ _ rfl) (hoC t3 (.slice B3 w3.length d3)) (put_all _ _ (by rw [(hoC_size _ _ HT3.out.1), (hoC_size _ _ (by rfl))])) ?_; intro w308 hh; replace HH : Aside0 (OwnS S2 [Sep.row kIt 40 (.slice (some ⟨gi, 0, none⟩) N ci) x2, Sep.blk g1 (tabC b3 (.slice TA3 ys.length tc3)) 33, Sep.blk g2 (hoC t2 (.slice B2 wl2.length d2)) 36, Sep.blk g3 (vecC t2) 30, Sep.row kOP 79 (.slice TA3 ys.length tc3) ys, Sep.row kIt 56 (.slice B2 wl2.length d2) wl2, Sep.blk g4 (itC y) 40, Sep.blk g5 #[.int .i64 0, .int .u8 y.frm, .int .i64 y.seq] 42, Sep.blk g6 (tabC b3 (.slice TA3 ys.length tc3)) 33, Sep.blk g7 (bodC (y.kind) (y.past) (y.text)) 46, Sep.row kIt 56 (.slice B3 w3.length d3) w3, Sep.row kIt 56 (.slice B4 o3.length d4) o3, Sep.blk g8 (hoC t3 (.slice B3 w3.length d3)) 36] w231 w308) := ⟨hh⟩; clear hh)
                    | ((with_reducible refine gate_ (.load 36 (.tmp 24)) rfl ?_); refine ev_loadA (OwnS.blk (oh HH) 12 rfl) 0 17 (hoC t3 (.slice B3 w3.length d3)) (all_of _ 17 (hoC_size _ _ HT3.out.1)) rfl rfl (by rfl) Try.underlying36 rfl (hoC_size _ _ HT3.out.1) (by kernel_rfl) ?_)
                    | ((with_reducible refine gate_ (.store 36 (.tmp 7) (.tmp 142)) rfl ?_); refine evS_storeA (oh HH) 2 rfl rfl rfl rfl (by rfl) (.agg (hoC t3 (.slice B3 w3.length d3))) (by rfl) (hoC t3 (.slice B3 w3.length d3)) (by rfl) 17 17 (hoC_size _ _ HT3.out.1) (hoC_size _ _ HT2.out.1) (by kernel_rfl) (by decide) (hoC_one _ _ rfl) (hoC t3 (.slice B3 w3.length d3)) (put_all _ _ (by rw [(hoC_size _ _ HT3.out.1), (hoC_size _ _ HT2.out.1)])) ?_; intro w309 hh; replace HH : Aside0 (OwnS S2 [Sep.row kIt 40 (.slice (some ⟨gi, 0, none⟩) N ci) x2, Sep.blk g1 (tabC b3 (.slice TA3 ys.length tc3)) 33, Sep.blk g2 (hoC t3 (.slice B3 w3.length d3)) 36, Sep.blk g3 (vecC t2) 30, Sep.row kOP 79 (.slice TA3 ys.length tc3) ys, Sep.row kIt 56 (.slice B2 wl2.length d2) wl2, Sep.blk g4 (itC y) 40, Sep.blk g5 #[.int .i64 0, .int .u8 y.frm, .int .i64 y.seq] 42, Sep.blk g6 (tabC b3 (.slice TA3 ys.length tc3)) 33, Sep.blk g7 (bodC (y.kind) (y.past) (y.text)) 46, Sep.row kIt 56 (.slice B3 w3.length d3) w3, Sep.row kIt 56 (.slice B4 o3.length d4) o3, Sep.blk g8 (hoC t3 (.slice B3 w3.length d3)) 36] w231 w309) := ⟨hh⟩; clear hh)
                    | fail
                    | fail)
                go_loopw [149] (fun vj W => ∃ (j : Nat) (tj : List Int), vj = .int .i64 (j : Int) ∧ j ≤ o3.length ∧ Aside0 (okV tj ∧ Goes tj (o3.drop j) t3) ∧ Aside0 (OwnS S2 [Sep.row kIt 40 (.slice (some ⟨gi, 0, none⟩) N ci) x2, Sep.blk g1 (tabC b3 (.slice TA3 ys.length tc3)) 33, Sep.blk g2 (hoC t3 (.slice B3 w3.length d3)) 36, Sep.blk g3 (vecC tj) 30, Sep.row kOP 79 (.slice TA3 ys.length tc3) ys, Sep.row kIt 56 (.slice B3 w3.length d3) w3, Sep.blk g4 (itC y) 40, Sep.blk g5 #[.int .i64 0, .int .u8 y.frm, .int .i64 y.seq] 42, Sep.row kIt 56 (.slice B4 o3.length d4) o3] w231 W)) (fun vj _ => o3.length - (intOf vj).toNat)
                case atStart => exact ⟨0, t2, rfl, by omega, ⟨HT2.out, HGO.out⟩, ⟨OwnS.picks (oh HH) [0, 1, 2, 3, 4, 10, 6, 7, 11] (by decide)⟩⟩
                case round =>
                  clear HH
                  obtain ⟨j, tj, rfl, hj, HG, HH⟩ := hrel
                  by_cases hlt2 : j < o3.length
                  · obtain ⟨gb4, ob, ea, hou, _⟩ := at_It (OwnS.C HH.out 8 rfl) j hlt2
                    subst ea
                    obtain ⟨u, hu⟩ : ∃ u, o3[j] = u := ⟨_, rfl⟩
                    rw [hu] at hou
                    have HOU := Aside0.mk hou
                    have HROW : Aside0 (∀ W, OwnS S2 [Sep.row kIt 40 (.slice (some ⟨gi, 0, none⟩) N ci) x2, Sep.blk g1 (tabC b3 (.slice TA3 ys.length tc3)) 33, Sep.blk g2 (hoC t3 (.slice B3 w3.length d3)) 36, Sep.blk g3 (vecC tj) 30, Sep.row kOP 79 (.slice TA3 ys.length tc3) ys, Sep.row kIt 56 (.slice B3 w3.length d3) w3, Sep.blk g4 (itC y) 40, Sep.blk g5 #[.int .i64 0, .int .u8 y.frm, .int .i64 y.seq] 42, Sep.row kIt 56 (.slice (some ⟨gb4, ob, none⟩) o3.length d4) o3] w231 W → W.rangeAt gb4 (ob + j * 20) (itC u).toList) := ⟨fun W h => by
                      obtain ⟨g', o', ea', _, hr'⟩ := at_It (OwnS.C h 8 rfl) j hlt2
                      cases ea'
                      rw [hu] at hr'
                      exact hr'⟩
                    obtain ⟨hry, hgn⟩ := goes_at HG.out.2 hlt2
                    rw [hu] at hry hgn
                    obtain ⟨hri, hof, hbe⟩ := ready_right hry
                    obtain ⟨_, hle, _⟩ := ready_told HOU.out hry
                    obtain ⟨hf1, hf2, hf3⟩ := right_frm HOU.out hri
                    obtain ⟨f, hfx⟩ : ∃ f, u.frm = f := ⟨_, rfl⟩
                    obtain ⟨n, hn⟩ : ∃ n, u.seq = n := ⟨_, rfl⟩
                    have HFX := Aside0.mk hfx
                    have HQX := Aside0.mk hn
                    have HBWL := Aside0.mk hbe
                    obtain ⟨tj2, htj⟩ : ∃ t, inc tj u = t := ⟨_, rfl⟩
                    have HG2 : Aside0 (okV tj2 ∧ Goes tj2 (o3.drop (j + 1)) t3) := ⟨htj ▸ inc_ok HG.out.1 HOU.out hry, htj ▸ hgn⟩
                    unfold ofT at hof
                    rw [hfx] at hf1 hf2 hf3 hof
                    rw [hn] at hof hle
                    have HNN := Aside0.mk hof
                    have HF := Aside0.mk hf1
                    have HFS : Aside0 (f.toNat + 1 ≤ 16) := ⟨by omega⟩
                    have HPS : Aside0 ((putL (vecC tj).toList f.toNat (#[Value.int .u16 (n + 1)]).toList).toArray = vecC tj2) := ⟨by rw [← htj]; unfold inc ofT; rw [hfx, hof]; exact vecC_put _ _ _ HG.out.1.1 hf1⟩
                    have hnn := okV_at HG.out.1 f.toNat hf1
                    rw [hof] at hnn
                    obtain ⟨hn0, hn1⟩ := hnn
                    have hw := wrap_u16 hn0 hn1
                    have hw2 : IntKind.u16.wrap (n + 1) = n + 1 := by rw [IntKind.wrap_u16]; omega
                    have hd : decide (15 < f) = false := decide_eq_false (by omega)
                    have r0 : 0 ≤ (j : Int) := by omega
                    have r1 : (j : Int) < (o3.length : Int) := by omega
                    clear hou hu hry hgn hri hof hbe hfx hn htj
                    go_upto_region 38 with (first
                              | ((with_reducible refine gate_ (.load 56 (.tmp 151)) rfl ?_); refine Hld.ev_loadR (b := gb4) (p0 := ob + j * 20) (n := 20) (cs := itC u) (HROW.out _ ?_) rfl rfl (by rfl) Try.underlying56 rfl (itC_size _ HOU.out.1.1) (by kernel_rfl) ?_; (focus first | with_reducible exact HH.out | ((with_reducible repeat first | refine OwnS.alloc ?_ _ | refine OwnS.drewN ?_ _ | refine OwnS.drew ?_); with_reducible exact HH.out)))
                              | ((with_reducible refine gate_dst (N := 28) rfl ?_); refine evS_box (oh HH) rfl (cs := itC zI) (T := 56) ?_ ?_; (focus first | (go_simp; done) | (go_simp; rfl)); intro g9 w421 he hh; clear he; replace HH : Aside0 (OwnS S2 [Sep.row kIt 40 (.slice (some ⟨gi, 0, none⟩) N ci) x2, Sep.blk g1 (tabC b3 (.slice TA3 ys.length tc3)) 33, Sep.blk g2 (hoC t3 (.slice B3 w3.length d3)) 36, Sep.blk g3 (vecC tj) 30, Sep.row kOP 79 (.slice TA3 ys.length tc3) ys, Sep.row kIt 56 (.slice B3 w3.length d3) w3, Sep.blk g4 (itC y) 40, Sep.blk g5 #[.int .i64 0, .int .u8 y.frm, .int .i64 y.seq] 42, Sep.row kIt 56 (.slice (some ⟨gb4, ob, none⟩) o3.length d4) o3, Sep.blk g9 (itC zI) 56] w231 w421) := ⟨hh⟩; clear hh)
                              | ((with_reducible refine gate_ (.store 56 (.tmp 28) (.tmp 152)) rfl ?_); refine evS_storeA (oh HH) 9 rfl rfl rfl rfl (by rfl) (.agg (itC u)) (by rfl) (itC u) (by rfl) 20 20 (itC_size _ HOU.out.1.1) (itC_size _ zI_len) (by kernel_rfl) (by decide) (itC_one _) (itC u) (put_all _ _ (by rw [(itC_size _ HOU.out.1.1), (itC_size _ zI_len)])) ?_; intro w422 hh; replace HH : Aside0 (OwnS S2 [Sep.row kIt 40 (.slice (some ⟨gi, 0, none⟩) N ci) x2, Sep.blk g1 (tabC b3 (.slice TA3 ys.length tc3)) 33, Sep.blk g2 (hoC t3 (.slice B3 w3.length d3)) 36, Sep.blk g3 (vecC tj) 30, Sep.row kOP 79 (.slice TA3 ys.length tc3) ys, Sep.row kIt 56 (.slice B3 w3.length d3) w3, Sep.blk g4 (itC y) 40, Sep.blk g5 #[.int .i64 0, .int .u8 y.frm, .int .i64 y.seq] 42, Sep.row kIt 56 (.slice (some ⟨gb4, ob, none⟩) o3.length d4) o3, Sep.blk g9 (itC u) 56] w231 w422) := ⟨hh⟩; clear hh)
                              | fail
                              | fail)
                    have HCF : Aside0 (∀ W, OwnS S2 [Sep.row kIt 40 (.slice (some ⟨gi, 0, none⟩) N ci) x2, Sep.blk g1 (tabC b3 (.slice TA3 ys.length tc3)) 33, Sep.blk g2 (hoC t3 (.slice B3 w3.length d3)) 36, Sep.blk g3 (vecC tj) 30, Sep.row kOP 79 (.slice TA3 ys.length tc3) ys, Sep.row kIt 56 (.slice B3 w3.length d3) w3, Sep.blk g4 (itC y) 40, Sep.blk g5 #[.int .i64 0, .int .u8 y.frm, .int .i64 y.seq] 42, Sep.row kIt 56 (.slice (some ⟨gb4, ob, none⟩) o3.length d4) o3, Sep.blk g9 (itC u) 56] w231 W → W.cell? ⟨g9, 0, none⟩ = some (.int .u8 f)) := ⟨fun W h => by rw [← HFX.out]; exact blk_cell (OwnS.blk h 9 rfl) 0⟩
                    have HCT : Aside0 (∀ W, OwnS S2 [Sep.row kIt 40 (.slice (some ⟨gi, 0, none⟩) N ci) x2, Sep.blk g1 (tabC b3 (.slice TA3 ys.length tc3)) 33, Sep.blk g2 (hoC t3 (.slice B3 w3.length d3)) 36, Sep.blk g3 (vecC tj) 30, Sep.row kOP 79 (.slice TA3 ys.length tc3) ys, Sep.row kIt 56 (.slice B3 w3.length d3) w3, Sep.blk g4 (itC y) 40, Sep.blk g5 #[.int .i64 0, .int .u8 y.frm, .int .i64 y.seq] 42, Sep.row kIt 56 (.slice (some ⟨gb4, ob, none⟩) o3.length d4) o3, Sep.blk g9 (itC u) 56] w231 W → W.cell? ⟨g3, f.toNat, none⟩ = some (.int .u16 n)) := ⟨fun W h => by rw [← HNN.out]; exact (blk_cell (OwnS.blk h 3 rfl) f.toNat).trans (vecC_at _ f.toNat (by rw [HG.out.1.1]; exact HF.out))⟩
                    have HKV : Aside0 (∀ w' : World, OwnS S2 [Sep.row kIt 40 (.slice (some ⟨gi, 0, none⟩) N ci) x2, Sep.blk g1 (tabC b3 (.slice TA3 ys.length tc3)) 33, Sep.blk g2 (hoC t3 (.slice B3 w3.length d3)) 36, Sep.blk g3 (vecC tj) 30, Sep.row kOP 79 (.slice TA3 ys.length tc3) ys, Sep.row kIt 56 (.slice B3 w3.length d3) w3, Sep.blk g4 (itC y) 40, Sep.blk g5 #[.int .i64 0, .int .u8 y.frm, .int .i64 y.seq] 42, Sep.row kIt 56 (.slice (some ⟨gb4, ob, none⟩) o3.length d4) o3, Sep.blk g9 (itC u) 56] w231 w' → (w'.cell? ⟨g9, 0, none⟩ = some (.int .u8 f) ∧ w'.cell? ⟨g9, 1, none⟩ = some (.int .i64 n) ∧ w'.cell? ⟨g3, f.toNat, none⟩ = some (.int .u16 n) ∧ w'.rangeAt g9 3 (nums .u16 u.past) ∧ w'.rangeAt g3 0 (nums .u16 tj))) := ⟨fun W h => ⟨(by rw [← HFX.out]; exact blk_cell (OwnS.blk h 9 rfl) 0), (by rw [← HQX.out]; exact blk_cell (OwnS.blk h 9 rfl) 1), (by rw [← HNN.out]; exact (blk_cell (OwnS.blk h 3 rfl) f.toNat).trans (vecC_at _ f.toNat (by rw [HG.out.1.1]; exact HF.out))), range_past HOU.out.1.1 (OwnS.blk h 9 rfl), range_vec HG.out.1.1 (OwnS.blk h 3 rfl)⟩⟩
                    refine wp_region_held_drew (S := fun w' => w'.cell? ⟨g9, 0, none⟩ = some (.int .u8 f) ∧ w'.cell? ⟨g9, 1, none⟩ = some (.int .i64 n) ∧ w'.cell? ⟨g3, f.toNat, none⟩ = some (.int .u16 n) ∧ w'.rangeAt g9 3 (nums .u16 u.past) ∧ w'.rangeAt g3 0 (nums .u16 tj)) (by kernel_rfl) ?_ (fun hHeld => ?_)
                    focus (try dsimp only); (exact HKV.out _ (oh HH))
                    (try dsimp only at hHeld)
                    refine otk (i := 0) ?_; (try simp only [Act.put, jjA, jjZ, jjS])
                    refine otk (i := 1) (v := .int .u8 f) ?_; (try simp only [Act.put, jjA, jjZ, jjS])
                    refine otk (i := 2) (v := .bool false) ?_; (try simp only [Act.put, jjA, jjZ, jjS])
                    refine otk (i := 3) (v := .bool false) ?_; (try simp only [Act.put, jjA, jjZ, jjS])
                    refine otk (i := 4) ?_; (try simp only [Act.put, jjA, jjZ, jjS])
                    refine otk (i := 5) ?_; (try simp only [Act.put, jjA, jjZ, jjS])
                    refine tk (i := 6) (hy := yieldsIf_load_mid (by rfl) _ _ rfl _ _ rfl (nums .u16 (u.past)) _ ?_ Try.underlying30 rfl (infoV HOU.out.1.1)) (h := ?_); (focus (intro w hSw; (try dsimp only at hSw); go_split_ands; assumption)); (try simp only [Act.put, jjA, jjZ, jjS])
                    refine tk (i := 7) (hy := yieldsIf_load_mid (by rfl) _ _ rfl _ _ rfl (nums .u16 tj) _ ?_ Try.underlying30 rfl (infoV HG.out.1.1)) (h := ?_); (focus (intro w hSw; (try dsimp only at hSw); go_split_ands; assumption)); (try simp only [Act.put, jjA, jjZ, jjS])
                    refine wpAnyH_ready (rs := [8]) (by kernel_rfl) (by simp) ?_
                    refine AllReadyH.cons (by simp only [List.getElem?_toArray, List.getElem?_cons_succ, List.getElem?_cons_zero]; rfl) (fun K hK => ?_) AllReadyH.nil; go_simp; go_at_call 11; refine ownS_call (oh HH) ?_; intro ht; refine (below_calls _ u.past tj HOU.out.1 HG.out.1).mono ?_; rintro e w461 ⟨rfl, hb⟩; rw [HBWL.out]; replace HH : Aside0 (OwnS S2 [Sep.row kIt 40 (.slice (some ⟨gi, 0, none⟩) N ci) x2, Sep.blk g1 (tabC b3 (.slice TA3 ys.length tc3)) 33, Sep.blk g2 (hoC t3 (.slice B3 w3.length d3)) 36, Sep.blk g3 (vecC tj) 30, Sep.row kOP 79 (.slice TA3 ys.length tc3) ys, Sep.row kIt 56 (.slice B3 w3.length d3) w3, Sep.blk g4 (itC y) 40, Sep.blk g5 #[.int .i64 0, .int .u8 y.frm, .int .i64 y.seq] 42, Sep.row kIt 56 (.slice (some ⟨gb4, ob, none⟩) o3.length d4) o3, Sep.blk g9 (itC u) 56] w231 w461) := ⟨OwnS.step ht hb⟩; clear hb; clear ht; refine hK.out _ _ ?_ (fun hHeld2 => ?_); (focus (try dsimp only); (exact HKV.out _ (oh HH))); clear hK K hHeld; rename _ => hHeld; (try dsimp only at hHeld); (try simp only [Act.put, jjA, jjZ, jjS])
                    refine otk (i := 9) (v := .bool false) ?_; (try simp only [Act.put, jjA, jjZ, jjS])
                    refine otk (i := 10) (v := .bool false) ?_; (try simp only [Act.put, jjA, jjZ, jjS])
                    refine otk (i := 11) (v := .bool false) ?_; (try simp only [Act.put, jjA, jjZ, jjS])
                    refine otk (i := 12) ?_; (try simp only [Act.put, jjA, jjZ, jjS])
                    refine otk (i := 13) (v := .int .u8 f) ?_; (try simp only [Act.put, jjA, jjZ, jjS])
                    refine otk (i := 14) ?_; (try simp only [Act.put, jjA, jjZ, jjS])
                    refine otk (i := 15) (v := .int .u16 n) ?_; (try simp only [Act.put, jjA, jjZ, jjS])
                    refine otk (i := 16) (v := .int .i64 n) ?_; (try simp only [Act.put, jjA, jjZ, jjS])
                    refine otk (i := 17) ?_; (try simp only [Act.put, jjA, jjZ, jjS])
                    refine otk (i := 18) (v := .int .i64 n) ?_; (try simp only [Act.put, jjA, jjZ, jjS])
                    refine otk (i := 19) (v := .bool false) ?_; (try simp only [Act.put, jjA, jjZ, jjS])
                    refine otk (i := 20) (v := .bool false) ?_; (try simp only [Act.put, jjA, jjZ, jjS])
                    refine wpAnyH_done (by kernel_rfl) ?_ _
                    go_wp2_with (first
                                | ((with_reducible refine gate_ (.load 5 (.tmp 174)) rfl ?_); refine ev_cell (v := .int .u8 f) (HCF.out _ ?_) rfl rfl (by rfl) Try.underlying5 rfl ?_; (focus first | with_reducible exact HH.out | ((with_reducible repeat first | refine OwnS.alloc ?_ _ | refine OwnS.drewN ?_ _ | refine OwnS.drew ?_); with_reducible exact HH.out)))
                                | ((with_reducible refine gate_ (.load 27 (.tmp 176)) rfl ?_); refine ev_cell (v := .int .u16 n) (HCT.out _ ?_) rfl rfl (by rfl) Try.underlying27 rfl ?_; (focus first | with_reducible exact HH.out | ((with_reducible repeat first | refine OwnS.alloc ?_ _ | refine OwnS.drewN ?_ _ | refine OwnS.drew ?_); with_reducible exact HH.out)))
                                | ((with_reducible refine gate_ (.store 27 (.tmp 179) (.tmp 178)) rfl ?_); refine evS_storeA (oh HH) 3 rfl rfl rfl rfl (by rfl) (.int .u16 (n + 1)) (by rfl) (#[.int .u16 (n + 1)]) (by rfl) 1 16 rfl (vecC_size _ HG.out.1.1) (by kernel_rfl) HFS.out (by simp [Value.oneCell']) (vecC tj2) HPS.out ?_; intro w481 hh; replace HH : Aside0 (OwnS S2 [Sep.row kIt 40 (.slice (some ⟨gi, 0, none⟩) N ci) x2, Sep.blk g1 (tabC b3 (.slice TA3 ys.length tc3)) 33, Sep.blk g2 (hoC t3 (.slice B3 w3.length d3)) 36, Sep.blk g3 (vecC tj2) 30, Sep.row kOP 79 (.slice TA3 ys.length tc3) ys, Sep.row kIt 56 (.slice B3 w3.length d3) w3, Sep.blk g4 (itC y) 40, Sep.blk g5 #[.int .i64 0, .int .u8 y.frm, .int .i64 y.seq] 42, Sep.row kIt 56 (.slice (some ⟨gb4, ob, none⟩) o3.length d4) o3, Sep.blk g9 (itC u) 56] w231 w481) := ⟨hh⟩; clear hh)
                                | fail
                                | fail)
                    go_roundw
                    case rel => exact ⟨j + 1, tj2, by go_num, by omega, HG2, ⟨OwnS.picks (oh HH) [0, 1, 2, 3, 4, 5, 6, 7, 8] (by decide)⟩⟩
                    case measure => simp [intOf]; omega
                  · have r1 : ¬ ((j : Int) < (o3.length : Int)) := by omega
                    have hj2 : j = o3.length := by omega
                    have hte : tj = t3 := by
                      have := HG.out.2
                      rw [hj2] at this
                      exact goes_end this
                    subst hte
                    clear hj2
                    go_wp2_with fail
                    go_roundw
                    case rel => exact ⟨k + 1, b3, ys, tj, w3, TA3, tc3, B3, d3, s3, rfl, by go_num, by omega, HM3, ⟨by have := HL3.out; have := HOL2.out; omega⟩, ⟨AllK.of HJ.out (by omega)⟩, HS3, ⟨fun y hy => RBs_frm (HRB3.out y hy) (OwnS.frm (oh HH)) HNB2.out⟩, ⟨HUN2.out _ _ (OwnS.picks (oh HH) [0, 1, 2, 3, 4, 5, 6, 7] (by decide))⟩⟩
                    case measure => simp [intOf]; omega
              · obtain rfl : is = false := by rw [his]; exact decide_eq_false hk2
                clear his hbd hM3 HCS
                go_wp2_with (first
                    | ((with_reducible refine gate_ (.load 33 (.tmp 17)) rfl ?_); refine ev_loadA (OwnS.blk (oh HH) 8 rfl) 0 19 (tabC b3 (.slice TA3 ys.length tc3)) (all_of _ 19 (tabC_size _ _ HB3.out)) rfl rfl (by rfl) Try.underlying33 rfl (tabC_size _ _ HB3.out) (by kernel_rfl) ?_)
                    | ((with_reducible refine gate_ (.store 33 (.tmp 6) (.tmp 103)) rfl ?_); refine evS_storeA (oh HH) 1 rfl rfl rfl rfl (by rfl) (.agg (tabC b3 (.slice TA3 ys.length tc3))) (by rfl) (tabC b3 (.slice TA3 ys.length tc3)) (by rfl) 19 19 (tabC_size _ _ HB3.out) (tabC_size _ _ HM.out.okb) (by kernel_rfl) (by decide) (tabC_one _ _ rfl) (tabC b3 (.slice TA3 ys.length tc3)) (put_all _ _ (by rw [(tabC_size _ _ HB3.out), (tabC_size _ _ HM.out.okb)])) ?_; intro w234 hh; replace HH : Aside0 (OwnS S2 [Sep.row kIt 40 (.slice (some ⟨gi, 0, none⟩) N ci) x2, Sep.blk g1 (tabC b3 (.slice TA3 ys.length tc3)) 33, Sep.blk g2 (hoC t2 (.slice B2 wl2.length d2)) 36, Sep.blk g3 (vecC t2) 30, Sep.row kOP 79 (.slice TA3 ys.length tc3) ys, Sep.row kIt 56 (.slice B2 wl2.length d2) wl2, Sep.blk g4 (itC y) 40, Sep.blk g5 #[.int .i64 0, .int .u8 y.frm, .int .i64 y.seq] 42, Sep.blk g6 (tabC b3 (.slice TA3 ys.length tc3)) 33] w231 w234) := ⟨hh⟩; clear hh)
                    | fail
                    | fail)
                go_roundw
                case rel => exact ⟨k + 1, b3, ys, t2, wl2, TA3, tc3, B2, d2, s2, rfl, by go_num, by omega, HM3, ⟨by have := HL3.out; have := HOL2.out; omega⟩, ⟨HA.out.next hk2⟩, HS2, ⟨fun y hy => RBs_frm (HRB3.out y hy) (OwnS.frm (oh HH)) HNB2.out⟩, ⟨HUN2.out _ _ (OwnS.picks (oh HH) [0, 1, 2, 3, 4, 5, 6, 7] (by decide))⟩⟩
                case measure => simp [intOf]; omega
          · have r4 : ¬ ((k : Int) < 4) := by omega
            have hke : k = 4 := by omega
            have HM4 : Aside0 (TabI (xs.take i ++ [y]) b2 (op2.map OP.o)) := ⟨by have := HM.out; rw [hke] at this; exact this.end⟩
            have HA4 : Aside0 (AllI (xs.take i ++ [y]) t2 wl2) := ⟨HA.out.hi (by omega)⟩
            clear hke
            go_wp2_with fail
            go_roundw
            case rel => exact ⟨i + 1, x2, b2, op2, t2, wl2, TA2, tc2, B2, d2, s2, rfl, by go_num, by omega, HXL, HXP, ⟨by rw [HTK.out]; exact HA4.out⟩, ⟨by rw [HTK.out]; exact HM4.out⟩, ⟨by have := HOL2.out; omega⟩, HRB2, HS2, ⟨HUN1.out _ _ (OwnS.picks (oh HH) [0, 1, 2, 3, 4, 5] (by decide))⟩⟩
            case measure => simp [intOf]; omega
    · have hge : i = N := by omega
      have HIE : Aside0 (xs.take i = xs) := ⟨by rw [hge]; exact List.take_of_length_le (by rw [HXL0.out]; exact Nat.le_refl _)⟩
      have hsum := HI.out.sum
      have hw0 := HI.out.done HHI.out.caus (fun y => by rw [HIE.out]; exact HXP0.out.mem_iff)
      have hbt : b = t := by
        have h2 := HI.out
        rw [hw0] at h2
        exact HTI.out.told h2 (GoodY.small (fun y hy => HGH.out y (HXP0.out.mem_iff.1 (List.mem_of_mem_take hy))))
      have hwl : wl.length = 0 := by rw [hw0]; rfl
      rw [HIE.out, HXL0.out, hwl, ← HS.out] at hsum
      have hsN : s = (N : Int) := by omega
      have hq : ∀ W : World, (Op.equalIn 10000 30 (.agg (vecC b)) (.agg (vecC t))).run Try.prog W = .ok true W := fun W => by rw [eqV b t HTI.out.ok HI.out.ok, decide_eq_true hbt]
      have f16 : World.cell? _ ⟨g2, 16, none⟩ = some (.slice B wl.length d) := (blk_cell (OwnS.blk HH.out 2 rfl) 16).trans (hoC_last _ _ HI.out.ok.1)
      have q1 : ¬ ((i : Int) < (N : Int)) := by omega
      clear hge hw0 hsum hbt
      go_wp2_with (first
        | ((with_reducible refine gate_dst (N := 195) rfl ?_); refine loadG (by rfl) _ _ rfl g1 2 rfl (vecC b) _ ?_ Try.underlying30 rfl (by rw [vecC_size _ HTI.out.ok.1]; kernel_rfl) ?_; (focus (refine range_tabv HTI.out.ok.1 (OwnS.blk (oh HH) 1 rfl))))
        | ((with_reducible refine gate_dst (N := 196) rfl ?_); refine loadG (by rfl) _ _ rfl g3 0 rfl (vecC t) _ ?_ Try.underlying30 rfl (by rw [vecC_size _ HI.out.ok.1]; kernel_rfl) ?_; (focus (refine range_vec2 HI.out.ok.1 (OwnS.blk (oh HH) 3 rfl))))
        | fail
        | fail)
      go_ret
      exact ⟨rfl, frm_below (OwnS.frm (oh HH))⟩
end Go.Proofs.Ytbaknecnkipooaa.Tld
