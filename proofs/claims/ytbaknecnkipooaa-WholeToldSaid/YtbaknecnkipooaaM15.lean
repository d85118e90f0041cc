/- slices.Insert over openings, whichever way. slices.Clone and Delete, of openings. -/
import Derived.Test.YtbaknecnkipooaaM14
namespace Go.Proofs.Ytbaknecnkipooaa.Tld
open Go Go.RowKit Go.Proofs.YtbaknecnkipooaaW.PrintWords Go.Proofs.Ytbaknecnkipooaa.Sep Go.Proofs.Ytbaknecnkipooaa.Obj Go.Proofs.Ytbaknecnkipooaa.Vot
set_option linter.unusedVariables false
set_option linter.unusedSimpArgs false
set_option maxHeartbeats 1000000 in
set_option maxRecDepth 100000 in
theorem ins_end (S : Nat → Prop) (w : World) (A : Option Addr) (n c gv : Nat) (xs : List OP) (y : OP) (hT : OwnS S [Sep.row kOP 79 (.slice A n c) xs, Sep.blk gv (opC y).toArray 79] w w) (hn : n = xs.length) (hl : n ≤ 1000) :
    Calls Try.prog 21 #[.slice A n c, .int .i64 (n : Int), .slice (some ⟨gv, 0, none⟩) 1 1] w (fun e w' => ∃ A' c', e = .returned (.slice A' (n + 1) c') ∧ OwnS S [Sep.row kOP 79 (.slice A' (n + 1) c') (xs ++ [y]), Sep.blk gv (opC y).toArray 79] w w') := by
  have HH := Aside0.mk hT
  have hv := hT.blk 1 rfl
  have HRD : Aside0 (ReadsRow (fun (x : OP) cs => cs = opC x) kOP.sz w (some ⟨gv, 0, none⟩) 1 [y]) := ⟨rfl, by decide, fun _ => ⟨_, rfl, fun j p hj => ⟨opC p, rfl, rfl, fun i u hu => by
    have h0 : j = 0 := by
      have := (List.getElem?_eq_some_iff.1 hj).1
      simpa using this
    subst h0
    have e : y = p := by simpa using hj
    subst e
    rw [Addr.add_lit, blk_cell hv]
    simpa using hu⟩⟩⟩
  have HLL : Aside0 ((xs.length + 1) * 72 ≤ 140737488355328) := ⟨by omega⟩
  have HN := Aside0.mk hn
  clear hT hv hl hn
  go_enter Try.func21, Try.ntmps21
  go_wp2_with (first
    | (at_builtin; refine evS_append_rows kOP (Rr := (fun x cs => cs = opC x)) (oh HH) 0 rfl (.tmp 23) (.tmp 24) 31 79 (.agg #[.int .u8 0, .int .i64 0, .bool false, .bool false, .bool false, .slice none 0 0, .slice none 0 0]) 72 rfl Try.underlying31 infoOP rfl (by first | decide | exact Nat.succ_pos _) (by decide) (.slice A n c) xs [y] (some ⟨gv, 0, none⟩) 1 1 rfl rfl rfl ?_ (fun _ _ _ h => h) ?_ ?_; (focus exact HRD.out); (focus exact HLL.out); intro A9 c9 w1 hh; replace HH : Aside0 (OwnS S [Sep.row kOP 79 (.slice A9 (xs ++ [y]).length c9) (xs ++ [y]), Sep.blk gv (opC y).toArray 79] w w1) := ⟨hh⟩; clear hh)
    | fail)
  all_goals go_ret
  all_goals
    refine ⟨A9, c9, ?_, ?_⟩
    · rw [HN.out]; simp [List.length_append]
    · have h := HH.out
      rw [List.length_append, List.length_singleton, ← HN.out] at h
      exact h
theorem frm_sets {w : World} {g : Nat} {cur : Array Value} (h : w.heap[g]? = some (.cells cur 79 (0, 0))) (j : Nat) (vs : List Value) (hj : j + vs.length ≤ cur.size) :
    (w.setCells g j vs).heap[g]? = some (.cells (putL cur.toList j vs).toArray 79 (0, 0)) ∧ Frm (· = g) w (w.setCells g j vs) := by
  have := blk_sets (T := 79) vs w cur j h
  rw [putA_eq _ _ _ hj] at this
  exact this
theorem putL_len (l : List Value) (j : Nat) (vs : List Value) (hj : j + vs.length ≤ l.length) : (putL l j vs).length = l.length := by
  simp only [putL, List.length_append, List.length_take, List.length_drop]
  omega
theorem ins_calls (S : Nat → Prop) (w : World) (A : Option Addr) (n c i gv : Nat) (xs : List OP) (y : OP) (hT : OwnS S [Sep.row kOP 79 (.slice A n c) xs, Sep.blk gv (opC y).toArray 79] w w) (hi : i ≤ n) (hl : n ≤ 1000) :
    Calls Try.prog 21 #[.slice A n c, .int .i64 (i : Int), .slice (some ⟨gv, 0, none⟩) 1 1] w (fun e w' => ∃ A' c', e = .returned (.slice A' (n + 1) c') ∧ OwnS S [Sep.row kOP 79 (.slice A' (n + 1) c') (xs.take i ++ y :: xs.drop i), Sep.blk gv (opC y).toArray 79] w w') := by
  have hlen := (hT.len 0 rfl).1
  rcases Nat.lt_or_ge i n with hlt | hge
  · have hv := hT.blk 1 rfl
    obtain ⟨h0, F, hF⟩ := hT
    have hr0 : (Sep.row kOP 79 (.slice A n c) xs).P w (Fp S w w F 0) := hF 0 _ rfl
    have hb1 : (Sep.blk gv (opC y).toArray 79).P w (Fp S w w F 1) := hF 1 _ rfl
    cases A with
    | none =>
      exfalso
      obtain ⟨_, inner, ho, _⟩ := hr0
      rcases ho.2 with ⟨hv, h⟩ | ⟨g', c', cur, hv, _⟩
      · omega
      · injection hv with hv; cases hv
    | some ad =>
      obtain ⟨g, o, sp⟩ := ad
      obtain rfl : sp = none := by
        obtain ⟨_, inner, ho, _⟩ := hr0
        rcases ho.2 with ⟨hv, h⟩ | ⟨g', c', cur, hv, _⟩
        · cases hv
        · injection hv with hv; injection hv with hv; injection hv
      obtain ⟨rfl, _, hS, cur, hg, hnc, hcm, hsz, ht⟩ := row_cur hr0
      have hgv : gv ≠ g := fun e => by
        have := hb1.2.2
        rw [e, hS.2] at this
        cases this
      have hfl : (fl xs).length = n * 7 := by rw [fl_len, hlen]
      have hyl : (opC y).length = 7 := rfl
      have hne : w.heap[gv]? = some (.cells (opC y).toArray 79 (0, 0)) := hv
      have hcat : (fl xs).take (i * 7) ++ (opC y ++ (fl xs).drop (i * 7)) = fl (xs.take i ++ y :: xs.drop i) := by rw [fl_append, fl_cons, fl_take, fl_drop]
      have hnl : n + 1 = (xs.take i ++ y :: xs.drop i).length := by simp [List.length_take, List.length_drop]; omega
      have hdl : ((fl xs).drop (i * 7)).length = (n - i) * 7 := by rw [List.length_drop, hfl]; omega
      have hm : maxLen = 9223372036854775807 := rfl
      rcases Nat.lt_or_ge c (n + 1) with hc | hc
      · obtain rfl : c = n := by omega
        refine (ins_grow w g c i gv cur (fl xs) y hlt hl hgv hg hsz ht (fl_one xs) hv).mono ?_
        rintro e w' ⟨G, ROW, W1, W2, hG, hGm, hR, hRt, rfl, hW1, hW2, hw'⟩
        have q1 : W1.heap[w.heap.size]? = some (.cells ROW 79 (0, 0)) := by rw [hW1]; exact blk_new w.drew _
        obtain ⟨q2, f2⟩ := frm_sets q1 (i * 7) (opC y) (by rw [hR, hyl]; omega)
        rw [← hW2] at q2 f2
        have hRL : ROW.toList.length = G * 7 := by rw [← hR]; exact Array.length_toList
        have hl2 := putL_len ROW.toList (i * 7) (opC y) (by rw [hRL, hyl]; omega)
        rw [hRL] at hl2
        have q2' : W2.drew.heap[w.heap.size]? = some (.cells (putL ROW.toList (i * 7) (opC y)).toArray 79 (0, 0)) := q2
        obtain ⟨q3, f3⟩ := frm_sets q2' ((i + 1) * 7) ((fl xs).drop (i * 7)) (by rw [hdl]; simp only [List.size_toArray, hl2]; omega)
        rw [← hw'] at q3 f3
        have hl3 := putL_len (putL ROW.toList (i * 7) (opC y)) ((i + 1) * 7) ((fl xs).drop (i * 7)) (by rw [hdl, hl2]; omega)
        have B1 : Below w.heap.size w W1 := by rw [hW1]; exact below_alloc (below_drew (Below.refl _ _)) _
        have B2 : Below w.heap.size w W2 := f2.below B1 B1.size (fun k hk => by rw [hk]; exact Nat.le_refl _)
        have B3 : Below w.heap.size w w' := f3.below (below_drew B2) B2.size (fun k hk => by rw [hk]; exact Nat.le_refl _)
        refine ⟨_, _, rfl, ownS_modF (As := [Sep.row kOP 79 (.slice (some ⟨g, 0, none⟩) c c) xs, Sep.blk gv (opC y).toArray 79]) h0 hF 0 rfl _ (Frm.bel B3) (row_of q3 hnl hG hGm ?_ ?_ (.inr ⟨Nat.le_refl _, blk_lt q3⟩))⟩
        · simp only [List.size_toArray, hl3, hl2]
        · simp only [List.toList_toArray]
          rw [← hcat]
          have e1 : putL ROW.toList (i * 7) (opC y) = (fl xs).take (i * 7) ++ (opC y ++ ROW.toList.drop (i * 7 + 7)) := by
            unfold putL
            rw [hRt, hyl]
          have hA : ((fl xs).take (i * 7)).length = i * 7 := by rw [List.length_take]; omega
          rw [e1]
          generalize ROW.toList.drop (i * 7 + 7) = Z
          unfold putL
          have e2 : ((fl xs).take (i * 7) ++ (opC y ++ Z)).take ((i + 1) * 7) = (fl xs).take (i * 7) ++ opC y := by
            rw [← List.append_assoc, show (i + 1) * 7 = ((fl xs).take (i * 7) ++ opC y).length by rw [List.length_append, hA, hyl]; omega, List.take_left']
            rfl
          rw [e2]
          generalize ((fl xs).take (i * 7) ++ (opC y ++ Z)).drop _ = Z2
          have e3 : (fl xs).take (i * 7) ++ opC y ++ ((fl xs).drop (i * 7) ++ Z2) = ((fl xs).take (i * 7) ++ (opC y ++ (fl xs).drop (i * 7))) ++ Z2 := by simp
          rw [e3, show (c + 1) * 7 = ((fl xs).take (i * 7) ++ (opC y ++ (fl xs).drop (i * 7))).length by rw [List.length_append, List.length_append, hA, hyl, hdl]; omega, List.take_left']
          rfl
      · refine (ins_shift w g n c i gv cur (fl xs) y hlt hc (by rw [← hm]; exact hcm) hgv hg hsz ht (fl_one xs) hv).mono ?_
        rintro e w' ⟨rfl, hw'⟩
        have q1 : w.drew.heap[g]? = some (.cells cur 79 (0, 0)) := hg
        obtain ⟨q2, f2⟩ := frm_sets q1 ((i + 1) * 7) ((fl xs).drop (i * 7)) (by rw [hdl, hsz]; omega)
        have hCL : cur.toList.length = c * 7 := by rw [← hsz]; exact Array.length_toList
        have hl2 := putL_len cur.toList ((i + 1) * 7) ((fl xs).drop (i * 7)) (by rw [hdl, hCL]; omega)
        rw [hCL] at hl2
        obtain ⟨q3, f3⟩ := frm_sets q2 (i * 7) (opC y) (by simp only [List.size_toArray, hl2, hyl]; omega)
        have hl3 := putL_len (putL cur.toList ((i + 1) * 7) ((fl xs).drop (i * 7))) (i * 7) (opC y) (by rw [hl2, hyl]; omega)
        rw [← hw'] at q3 f3
        have fr : Frm (Fp S w w F 0) w w' := Frm.mono (((Frm.bel (below_drew (Below.refl w.heap.size w))).trans f2).trans f3) (fun k _ hk => by rw [hk]; exact hS)
        refine ⟨_, _, rfl, ownS_modF (As := [Sep.row kOP 79 (.slice (some ⟨g, 0, none⟩) n c) xs, Sep.blk gv (opC y).toArray 79]) h0 hF 0 rfl _ fr (row_of q3 hnl hc hcm ?_ ?_ (.inl hS))⟩
        · simp only [List.size_toArray, hl3, hl2]
        · simp only [List.toList_toArray]
          rw [← hcat]
          have e1 : cur.toList = fl xs ++ cur.toList.drop (n * 7) := by conv => lhs; rw [← List.take_append_drop (n * 7) cur.toList, ht]
          rw [e1]
          exact shifted _ _ _ i n hi hfl hyl (by rw [List.length_drop, hCL]; omega)
  · obtain rfl : i = n := by omega
    have e : xs.take i ++ y :: xs.drop i = xs ++ [y] := by rw [List.take_of_length_le (by omega), List.drop_of_length_le (by omega)]
    rw [e]
    exact ins_end S w A i c gv xs y hT hlen hl
end Go.Proofs.Ytbaknecnkipooaa.Tld
namespace Go.Proofs.Ytbaknecnkipooaa.Tld
open Go Go.RowKit Go.Proofs.YtbaknecnkipooaaW.PrintWords Go.Proofs.Ytbaknecnkipooaa.Sep Go.Proofs.Ytbaknecnkipooaa.Obj Go.Proofs.Ytbaknecnkipooaa.Vot
set_option linter.unusedVariables false
set_option linter.unusedSimpArgs false
theorem R_empty {α : Type} (d : Kd α) (e : TypeId) (W : World) (base : Nat) (hb : base ≤ W.heap.size) : d.R e (W.alloc (.cells #[] e)) base (fun _ => True) (.slice (some ⟨W.heap.size, 0, none⟩) 0 0) [] :=
  ⟨fun _ _ => trivial, [], by simpa using World.ownsRow_lit (base := base) (e := e) (size := d.sz) W #[] 0 hb (by simp [maxLen]) (by simp), Reps.none _ _⟩
theorem row_made {α : Type} {d : Kd α} {e : Nat} {v : Value} {xs : List α} {w w' : World} (hb : Below w.heap.size w w') (h : d.R e w' w.heap.size (fun _ => True) v xs) : Own [Sep.row d e v xs] w w' :=
  (Own.start w).add hb (Kd.R_mono (Kd.R_bound (Kd.R_lower (Kd.R_bound h) (Nat.zero_le _))) (fun k hk => ⟨hk.1.2.1, hk.1.2.2.1⟩))
set_option maxHeartbeats 1000000 in
set_option maxRecDepth 100000 in
theorem cloneO_calls (A : Option Addr) (c : Nat) (l : List OP) (w : World) (hr : kOP.C w A l.length l) (hl : l.length ≤ 1000000) :
    Calls Try.prog 50 #[.slice A l.length c] w (fun e w' => ∃ A' c', e = .returned (.slice A' l.length c') ∧ Own [Sep.row kOP 79 (.slice A' l.length c') l] w w') := by
  have HR := Aside0.mk hr
  clear hr
  have HB := Aside0.mk (Below.refl w.heap.size w)
  cases A with
  | none =>
    have h0 : l = [] := by
      have := HR.out
      cases l with
      | nil => rfl
      | cons x r =>
        obtain ⟨ad, h, _⟩ := this.2.2 (by simp)
        cases h
    subst h0
    have hq : ∀ W, (binOp .eql 31 (.slice none 0 c) (.slice none 0 0)).run Try.prog W = .ok (.bool true) W := fun (W : World) => Lib.run_eql_slice_nil (P := Try.prog) W 31 79 none 0 c 0 0 Try.underlying31
    go_enter Try.func50, Try.ntmps50
    go_wp2_with fail
    go_ret
    exact ⟨_, _, rfl, Own.nil (Own.start w)⟩
  | some ad =>
    have hq : ∀ W, (binOp .eql 31 (.slice (some ad) l.length c) (.slice none 0 0)).run Try.prog W = .ok (.bool false) W := fun (W : World) => Lib.run_eql_slice_nil (P := Try.prog) W 31 79 (some ad) l.length c 0 0 Try.underlying31
    go_enter Try.func50, Try.ntmps50
    go_wp2_with (first
      | (at_builtin; refine Kd.R_append_rows kOP (Rr := kOP.K w) (w0 := w) w.heap.size rfl (.tmp 5) (.tmp 6) 31 79 (.agg #[.int .u8 0, .int .i64 0, .bool false, .bool false, .bool false, .slice none 0 0, .slice none 0 0]) 72 rfl Try.underlying31 infoOP rfl (by decide) (by omega) _ [] l (some ad) l.length c (fun _ => True) (fun _ => False) rfl rfl ?aO ?aR ?aM (fun _ hk => hk.elim) (fun _ _ => trivial) ?aB ?aS ?aL ?_; (case aO => exact R_empty kOP 79 w w.heap.size (Nat.le_refl _)); (case aR => exact (ReadsRow.imp_ (Kd.C_alloc HR.out _) (Below.refl _ _) (fun p c hp => hp))); (case aM => intro x cs hx; exact hx); (case aB => exact (by repeat (first | (with_reducible exact HB.out) | (with_reducible refine below_alloc ?_ _) | (with_reducible refine pw_below_drewN ?_ _) | (with_reducible refine below_drew ?_)))); (case aS => simp); (case aL => simp; omega); intro v1 w1 ho hb hg hat; have HO1 := Aside0.mk ho; have HB1 := Aside0.mk hb; clear ho hb hg hat)
      | fail)
    go_ret
    have h1 := row_made HB1.out (by simpa using HO1.out)
    obtain ⟨A', c', e⟩ := h1.slice 0 rfl
    subst e
    exact ⟨_, _, rfl, h1⟩
theorem zeroOP (w : World) : (zeroValue 79).run Try.prog w = .ok (.agg #[.int .u8 0, .int .i64 0, .bool false, .bool false, .bool false, .slice none 0 0, .slice none 0 0]) w := by kernel_rfl
theorem delO_at (g c i : Nat) : (if c = i + 1 then some (⟨g, 0, none⟩ : Addr) else some ⟨g, (i + 1) * 7, none⟩) = if c = i + 1 then some ⟨g, 0, none⟩ else (some (⟨g, 0, none⟩ : Addr)).map (·.add ((i + 1) * kOP.sz)) := by
  rw [Option.map_some, add_plain]; rfl
set_option maxHeartbeats 2000000 in
set_option maxRecDepth 100000 in
theorem deleteO_calls (S : Nat → Prop) (g n c : Nat) (xs : List OP) (w : World) (hT : OwnS S [Sep.row kOP 79 (.slice (some ⟨g, 0, none⟩) n c) xs] w w) (i : Nat) (hi : i < n) (hnc : n ≤ c) (hc : c ≤ 9223372036854775807) :
    Calls Try.prog 58 #[.slice (some ⟨g, 0, none⟩) n c, .int .i64 (i : Int), .int .i64 ((i : Int) + 1)] w (fun e w' => e = .returned (.slice (some ⟨g, 0, none⟩) (n - 1) c) ∧ OwnS S [Sep.row kOP 79 (.slice (some ⟨g, 0, none⟩) (n - 1) c) (xs.eraseIdx i)] w w') := by
  have HH := Aside0.mk hT
  clear hT
  have hne : ((i : Int) == ((i + 1 : Nat) : Int)) = false := by simp; omega
  have g1 : 0 ≤ (i : Int) := by omega
  have g2 : (i : Int) ≤ ((i + 1 : Nat) : Int) := by omega
  have g3 : ((i + 1 : Nat) : Int) ≤ (n : Int) := by omega
  have g4 : (i : Int) ≤ (c : Int) := by omega
  have g5 : ((i + 1 : Nat) : Int) ≤ (c : Int) := by omega
  have g8 : 0 ≤ (i : Int) + 1 := by omega
  have g9 : (i : Int) + 1 ≤ (n : Int) := by omega
  have g10 : (i : Int) + 1 ≤ (c : Int) := by omega
  have g6 : i ≤ c := by omega
  have g7 : i + 1 ≤ c := by omega
  show Calls Try.prog 58 #[.slice (some ⟨g, 0, none⟩) n c, .int .i64 (i : Int), .int .i64 ((i + 1 : Nat) : Int)] w _
  go_enter Try.func58, Try.ntmps58
  go_wp2_with fail
  go_region_law (refine evS_delete_step kOP (oh HH) 0 rfl (.tmp 22) (.tmp 25) 31 79 rfl Try.underlying31 szOP (n := n) (c := c) (k := i) (A := if c = i + 1 then some ⟨g, 0, none⟩ else some ⟨g, (i + 1) * 7, none⟩) (m := n - (i + 1)) (c2 := c - (i + 1)) rfl ?_ ?_ (delO_at g c i) rfl hi ?_; (focus first | rfl | (simp [Act.eval]; done) | fail); (focus first | rfl | (simp [Act.eval]; done) | fail); intro w2 hh; replace HH : Aside0 (OwnS S [Sep.row kOP 79 (.slice (some ⟨g, 0, none⟩) (n - 1) c) (xs.eraseIdx i)] w w2) := ⟨hh⟩; clear hh)
  go_wp2_with (first
    | ((with_reducible refine gate_ (.call { callee := .builtin .clear, args := #[.tmp 31], argTypes := #[31] }) rfl ?_); refine evS_clear kOP (oh HH) 0 rfl rfl (.tmp 31) 31 79 rfl (.agg #[.int .u8 0, .int .i64 0, .bool false, .bool false, .bool false, .slice none 0 0, .slice none 0 0]) Try.underlying31 zeroOP rfl (by decide) (n := n - 1) (c := c) (q := n - (n - 1)) (c2 := c - (n - 1)) rfl ?_ ?_ ?_ ?_; (focus first | rfl | (simp [Act.eval]; done) | fail); (focus omega); (focus omega); intro w3 hh; replace HH : Aside0 (OwnS S [Sep.row kOP 79 (.slice (some ⟨g, 0, none⟩) (n - 1) c) (xs.eraseIdx i)] w w3) := ⟨hh⟩; clear hh)
    | fail)
  all_goals (go_ret; first | exact ⟨rfl, HH.out⟩ | (subst_vars; exact ⟨rfl, HH.out⟩))
end Go.Proofs.Ytbaknecnkipooaa.Tld
