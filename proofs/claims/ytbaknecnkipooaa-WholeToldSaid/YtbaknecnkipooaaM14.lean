/- slices.Insert over openings: one more, at its place; in the row's own block, or in a new one. slices.Insert walked. slices.Insert walked, where there is no room; and all its ways together. -/
import Derived.Test.YtbaknecnkipooaaM13
import Derived.Lib.Overlaps
import Derived.Lib.AppendZerosOnto
import Derived.Laws.IdiomCopy
import Derived.Laws.NewBlocks
namespace Go.Proofs.Ytbaknecnkipooaa.Tld
open Go Go.RowKit Go.Proofs.YtbaknecnkipooaaW.PrintWords Go.Proofs.Ytbaknecnkipooaa.Sep Go.Proofs.Ytbaknecnkipooaa.Obj Go.Proofs.Ytbaknecnkipooaa.Vot
set_option linter.unusedVariables false
set_option linter.unusedSimpArgs false
theorem run_copy_sz {P : Program} (w : World) (dT sT ty elem : TypeId) (sz n b o dLen dCap : Nat) (a : Addr) (sLen sCap : Nat) (cs : List Value)
    (hu : P.underlying dT = some (.slice elem)) (hs : (P.info? elem).map (·.size) = some sz) (hn : n = Nat.min sLen dLen) (hl : cs.length = n * sz)
    (hsrc : ∀ j v, cs[j]? = some v → w.cell? (a.add j) = some v) (hc : ∀ j, j < cs.length → (w.cell? ⟨b, o + j, none⟩).isSome = true) (hf : ∀ j, j < cs.length → w.frozen? ⟨b, o + j, none⟩ = false) (h1 : ∀ v ∈ cs, v.oneCell' = true) :
    (Builtin.copy_ #[dT, sT] ty #[.slice (some ⟨b, o, none⟩) dLen dCap, .slice (some a) sLen sCap]).run P w = .ok (goInt n) (w.setCells b o cs) := by
  have hld := run_loadCells_list (P := P) w a cs hsrc
  rw [hl] at hld
  have hst := run_storeCells_cells (P := P) b o cs 0 w (by simpa using hc) (by simpa using hf) h1
  cases hq : P.info? elem with
  | none => simp [hq] at hs
  | some i =>
    have hi : i.size = sz := by simpa [hq] using hs
    simp [Builtin.copy_, run_underlying hu, Builtin.lenOf, Builtin.firstCells, sizeOf, typeInfo, hq, hi, ← hn, hld, hst]
section
variable {P : Program}
theorem wpList_copyI (w : World) {ops : Array Oper} {rest : List Oper} {o : Oper} {a : Act} {Q : Exit → Act → World → Prop} (hgd : o.guard = none) (d s : Operand) (t t' : TypeId)
    (ho : o.op = .call { callee := .builtin .copy, args := #[d, s], argTypes := #[t, t'] }) (v u : Value) (hd : a.eval d = v) (hs : a.eval s = u) {v' : Value} {w' : World}
    (hr : (Builtin.copy_ #[t, t'] o.type #[v, u]).run P w = .ok v' w') (h : wpList P ops Q rest (a.put o.dst v') w') : wpList P ops Q (o :: rest) a w :=
  wpList_plain hgd fun K hK => by
    unfold Oper.wp execOp
    simp only [ho, resolve, invoke, builtin, Sem.run_bind, Sem.run_pure, Result.andThen_ok, List.map_toArray, List.map_cons, List.map_nil, hd, hs, hr]
    exact hK _ _ h
theorem step_copyI {ops : Array Oper} {o : Oper} {a : Act} {w : World} {K : Act → World → Prop} {Q : Exit → Act → World → Prop} {E : Prop}
    (hw : Region.wanted o (yielded ops a.tmps) = true) (d x : Operand) (dT sT : TypeId) (hop : o.op = Op.call { callee := Callee.builtin Builtin.copy, args := #[d, x], argTypes := #[dT, sT] })
    (v u : Value) (hd : a.eval d = v) (hx : a.eval x = u) {v' : Value} {w' : World} (hr : (Builtin.copy_ #[dT, sT] o.type #[v, u]).run P w = .ok v' w') (hK : K (a.put o.dst v') w') :
    if Region.wanted o (yielded ops a.tmps) = true then Oper.wp P o a w K Q else E := by
  rw [if_pos hw]
  unfold Oper.wp execOp
  simp only [hop, resolve, invoke, builtin, Sem.run_bind, Sem.run_pure, Result.andThen_ok, List.map_toArray, List.map_cons, List.map_nil, hd, hx, hr]
  exact hK
end
def fl (xs : List OP) : List Value := xs.flatMap opC
theorem fl_len (xs : List OP) : (fl xs).length = xs.length * 7 := by
  induction xs with
  | nil => rfl
  | cons x r ih => simp only [fl, List.flatMap_cons, List.length_append, List.length_cons] at *; rw [ih]; simp [opC]; omega
theorem fl_append (a b : List OP) : fl (a ++ b) = fl a ++ fl b := by simp [fl]
theorem fl_cons (x : OP) (r : List OP) : fl (x :: r) = opC x ++ fl r := by simp [fl]
theorem fl_one (xs : List OP) : ∀ u ∈ fl xs, u.oneCell' = true := by
  intro u hu
  obtain ⟨x, _, hx⟩ := List.mem_flatMap.1 hu
  simp [opC] at hx
  rcases hx with rfl | rfl | rfl | rfl | rfl | rfl | rfl <;> rfl
theorem opC_one (x : OP) : ∀ u ∈ opC x, u.oneCell' = true := by
  intro u hx
  simp [opC] at hx
  rcases hx with rfl | rfl | rfl | rfl | rfl | rfl | rfl <;> rfl
theorem fl_take (xs : List OP) (i : Nat) : fl (xs.take i) = (fl xs).take (i * 7) := by
  rcases Nat.le_total i xs.length with h | h
  · have h1 : (fl (xs.take i)).length = i * 7 := by rw [fl_len, List.length_take, Nat.min_eq_left h]
    conv => rhs; rw [← List.take_append_drop i xs, fl_append]
    rw [← h1, List.take_left']
    rfl
  · rw [List.take_of_length_le h, List.take_of_length_le (by rw [fl_len]; exact Nat.mul_le_mul_right _ h)]
theorem fl_drop (xs : List OP) (i : Nat) : fl (xs.drop i) = (fl xs).drop (i * 7) := by
  rcases Nat.le_total i xs.length with h | h
  · have h1 : (fl (xs.take i)).length = i * 7 := by rw [fl_len, List.length_take, Nat.min_eq_left h]
    conv => rhs; rw [← List.take_append_drop i xs, fl_append]
    rw [← h1, List.drop_left']
    rfl
  · rw [List.drop_of_length_le h, List.drop_of_length_le (by rw [fl_len]; exact Nat.mul_le_mul_right _ h)]
    rfl
theorem reps_fl (w : World) (b : Nat) (T : Nat → Prop) (xs : List OP) : Reps (kOP.M w b T) 7 xs (fl xs) := by
  refine ⟨fl_len xs, fun j p hj => ?_⟩
  show _ = opC p
  rw [← fl_drop]
  obtain ⟨hl, e⟩ := List.getElem?_eq_some_iff.1 hj
  rw [List.drop_eq_getElem_cons hl, fl_cons, e]
  rfl
theorem reps_inv (w : World) (b : Nat) (T : Nat → Prop) : ∀ (xs : List OP) (cs : List Value), Reps (kOP.M w b T) 7 xs cs → cs = fl xs
  | [], cs, h => by
    have := h.1
    simp at this
    rw [this]; rfl
  | x :: r, cs, h => by
    have h0 : (cs.drop (0 * 7)).take 7 = opC x := h.2 0 x rfl
    have hr : Reps (kOP.M w b T) 7 r (cs.drop 7) := ⟨by rw [List.length_drop, h.1, List.length_cons]; omega, fun j p hj => by
      have := h.2 (j + 1) p (by simpa using hj)
      rw [List.drop_drop]
      rw [show 7 + j * 7 = (j + 1) * 7 by omega]
      exact this⟩
    have e := reps_inv w b T r _ hr
    rw [fl_cons, ← e, ← h0]
    simp
theorem row_of {w : World} {S : Nat → Prop} {g n c : Nat} {cur : Array Value} {xs : List OP} (hg : w.heap[g]? = some (.cells cur 79 (0, 0))) (hn : n = xs.length) (hc : n ≤ c) (hm : c ≤ maxLen) (hs : cur.size = c * 7) (ht : cur.toList.take (n * 7) = fl xs) (hS : S g) :
    (Sep.row kOP 79 (.slice (some ⟨g, 0, none⟩) n c) xs).P w S := by
  subst hn
  refine ⟨fun k hk => ?_, fl xs, ⟨fl_len xs, .inr ⟨g, c, cur, rfl, Nat.zero_le _, hg, hc, hm, hs, ht⟩⟩, reps_fl _ _ _ _⟩
  have : g = k := by simpa [Value.ownBlock] using hk
  exact this ▸ hS
theorem row_cur {w : World} {S : Nat → Prop} {g o n c : Nat} {xs : List OP} (h : (Sep.row kOP 79 (.slice (some ⟨g, o, none⟩) n c) xs).P w S) :
    o = 0 ∧ n = xs.length ∧ S g ∧ ∃ cur : Array Value, w.heap[g]? = some (.cells cur 79 (0, 0)) ∧ n ≤ c ∧ c ≤ maxLen ∧ cur.size = c * 7 ∧ cur.toList.take (n * 7) = fl xs := by
  obtain ⟨hS, inner, ho, hr⟩ := h
  rcases ho.2 with ⟨hv, _⟩ | ⟨g', c', cur, hv, _, hh, hnc, hcm, hcs, ht⟩
  · cases hv
  injection hv with ha hb hc
  injection ha with ha
  injection ha with hg' ho'
  subst hg'; subst hc; subst hb
  have e := reps_inv _ _ _ _ _ hr
  exact ⟨ho', rfl, hS g rfl, cur, hh, hnc, hcm, hcs, by rw [← e]; exact ht⟩
theorem shifted (L R Y : List Value) (i n : Nat) (hi : i ≤ n) (hL : L.length = n * 7) (hY : Y.length = 7) (hR : 7 ≤ R.length) :
    (putL (putL (L ++ R) ((i + 1) * 7) (L.drop (i * 7))) (i * 7) Y).take ((n + 1) * 7) = L.take (i * 7) ++ (Y ++ L.drop (i * 7)) := by
  obtain ⟨A, hA⟩ : ∃ A, A = L.take (i * 7) := ⟨_, rfl⟩
  obtain ⟨B, hB⟩ : ∃ B, B = L.drop (i * 7) := ⟨_, rfl⟩
  have hAl : A.length = i * 7 := by rw [hA, List.length_take]; omega
  have hBl : B.length = (n - i) * 7 := by rw [hB, List.length_drop]; omega
  have e : L = A ++ B := by rw [hA, hB, List.take_append_drop]
  rw [← hB, ← hA, e]
  clear hA hB e hL
  have e1 : ∃ G, G.length = 7 ∧ putL (A ++ B ++ R) ((i + 1) * 7) B = A ++ (G ++ (B ++ (A ++ B ++ R).drop ((i + 1) * 7 + B.length))) := by
    refine ⟨(B ++ R).take 7, by simp [List.length_take]; omega, ?_⟩
    unfold putL
    have : (A ++ B ++ R).take ((i + 1) * 7) = A ++ (B ++ R).take 7 := by
      rw [List.append_assoc, List.take_append, List.take_of_length_le (by omega)]
      congr 2
      omega
    rw [this, List.append_assoc]
  obtain ⟨G, hG, e1⟩ := e1
  rw [e1]
  generalize (A ++ B ++ R).drop ((i + 1) * 7 + B.length) = Z
  unfold putL
  have e2 : (A ++ (G ++ (B ++ Z))).take (i * 7) = A := by rw [← hAl, List.take_left']; rfl
  have e3 : (A ++ (G ++ (B ++ Z))).drop (i * 7 + Y.length) = B ++ Z := by
    rw [← List.append_assoc, show i * 7 + Y.length = (A ++ G).length by rw [List.length_append, hAl, hG, hY], List.drop_left']
    rfl
  rw [e2, e3]
  have e4 : A ++ (Y ++ (B ++ Z)) = (A ++ (Y ++ B)) ++ Z := by simp
  rw [e4, show (n + 1) * 7 = (A ++ (Y ++ B)).length by simp [hAl, hY, hBl]; omega, List.take_left']
  rfl
end Go.Proofs.Ytbaknecnkipooaa.Tld
namespace Go.Proofs.Ytbaknecnkipooaa.Tld
open Go Go.RowKit Go.Proofs.YtbaknecnkipooaaW.PrintWords Go.Proofs.Ytbaknecnkipooaa.Sep Go.Proofs.Ytbaknecnkipooaa.Obj Go.Proofs.Ytbaknecnkipooaa.Vot
set_option linter.unusedVariables false
set_option linter.unusedSimpArgs false
theorem szOP : (Try.prog.info? 79).map (·.size) = some 7 := by kernel_rfl
theorem ovl_run (w : World) (gv g j lb cb cells : Nat) (cur vc : Array Value) (hgv : gv ≠ g) (hg : w.heap[g]? = some (.cells cur 79 (0, 0))) (hv : w.heap[gv]? = some (.cells vc 79 (0, 0))) (hs : cur.size ≠ 0) :
    (callFunc 56 #[.slice (some ⟨gv, 0, none⟩) 1 1, .slice (some ⟨g, j, none⟩) lb cb]).run Try.prog w = .ok (.value (.bool false)) w := by
  rw [run_callFunc_extern (P := Try.prog) (fn := Try.f56) (by kernel_rfl) (by kernel_rfl) (by kernel_rfl) (by kernel_rfl) (e := Extern.SlicesOverlaps.overlaps #[31, 31] #[4]) (by kernel_rfl),
    Lib.run_overlaps_apart w 31 4 79 Try.underlying31 7 (fun w => by kernel_rfl) ⟨gv, 0, none⟩ ⟨g, j, none⟩ 1 1 lb cb hgv 79 79 vc.size cur.size (by simp [World.shape?, hv]) (by simp [World.shape?, hg]) hs (blk_frozen hv 0) (blk_frozen hv _)]
  rfl
set_option maxHeartbeats 1000000 in
set_option maxRecDepth 100000 in
theorem ins_shift (w : World) (g n c i gv : Nat) (cur : Array Value) (cs : List Value) (y : OP) (hi : i < n) (hroom : n + 1 ≤ c) (hc63 : c ≤ 9223372036854775807) (hgv : gv ≠ g) (hg : w.heap[g]? = some (.cells cur 79 (0, 0))) (hsz : cur.size = c * 7) (hcs : cur.toList.take (n * 7) = cs) (h1 : ∀ v ∈ cs, v.oneCell' = true) (hv : w.heap[gv]? = some (.cells (opC y).toArray 79 (0, 0))) :
    Calls Try.prog 21 #[.slice (some ⟨g, 0, none⟩) n c, .int .i64 (i : Int), .slice (some ⟨gv, 0, none⟩) 1 1] w (fun e w' => e = .returned (.slice (some ⟨g, 0, none⟩) (n + 1) c) ∧ w' = (w.drew.setCells g ((i + 1) * 7) (cs.drop (i * 7))).setCells g (i * 7) (opC y)) := by
  have hcl : cs.length = n * 7 := by rw [← hcs, List.length_take, Array.length_toList, hsz]; omega
  have hcell : ∀ j, w.cell? ⟨g, j, none⟩ = cur[j]? := fun j => blk_cell hg j
  have hsome : ∀ j, j < c * 7 → (w.cell? ⟨g, j, none⟩).isSome = true := fun j hj => by rw [hcell, Array.getElem?_eq_getElem (by omega)]; rfl
  have hfz : ∀ j, w.frozen? ⟨g, j, none⟩ = false := fun j => blk_frozen hg j
  have hcsv : ∀ j v, cs[j]? = some v → w.cell? ⟨g, j, none⟩ = some v := fun j v hj => by
    rw [← hcs, List.getElem?_take] at hj
    split at hj
    · rw [hcell]; simpa using hj
    · cases hj
  have hvv : ∀ j v, (opC y)[j]? = some v → w.cell? ⟨gv, j, none⟩ = some v := fun j v hj => by rw [blk_cell hv]; simpa using hj
  have hz2 : ¬ ((i : Int) = (n : Int)) := by omega
  have hov : ∀ lb cb, (callFunc 56 #[.slice (some ⟨gv, 0, none⟩) 1 1, .slice (some ⟨g, (i + 1) * 7, none⟩) lb cb]).run Try.prog w = .ok (.value (.bool false)) w := fun lb cb => ovl_run w gv g _ lb cb 0 cur _ hgv hg hv (by omega)
  have hdl : (cs.drop (i * 7)).length = (n - i) * 7 := by rw [List.length_drop, hcl]; omega
  have hw1 : IntKind.i64.wrap ((i : Int) + 1) = (i : Int) + 1 := by rw [IntKind.wrap_i64]; omega
  have hb1 : (0 : Int) ≤ (i : Int) + 1 := by omega
  have hin : i ≤ n := by omega
  have htn : ((i : Int) + 1).toNat = i + 1 := by omega
  have hb2 : ¬ (c = i + 1) := by omega
  have hb3 : (i : Int) ≤ (n : Int) + 1 := by omega
  have hb4 : ¬ (c = i) := by omega
  have hcp1 : ∀ ty dc sc, (Builtin.copy_ #[31, 31] ty #[.slice (some ⟨g, (i + 1) * 7, none⟩) (n + 1 - (i + 1)) dc, .slice (some ⟨g, i * 7, none⟩) (n + 1 - i) sc]).run Try.prog w.drew = .ok (goInt (n - i : Nat)) (w.drew.setCells g ((i + 1) * 7) (cs.drop (i * 7))) := fun ty dc sc =>
    run_copy_sz w.drew _ _ ty 79 7 (n - i) g ((i + 1) * 7) (n + 1 - (i + 1)) dc ⟨g, i * 7, none⟩ (n + 1 - i) sc (cs.drop (i * 7)) Try.underlying31 szOP (by simp only [Nat.min_def]; split <;> omega) hdl
      (fun j v hj => by rw [Addr.add_lit]; exact hcsv (i * 7 + j) v (by rwa [List.getElem?_drop] at hj))
      (fun j hj => hsome _ (by omega)) (fun j hj => hfz _) (fun v hv => h1 v (List.mem_of_mem_drop hv))
  obtain ⟨W1, hW1⟩ : ∃ W1, W1 = w.drew.setCells g ((i + 1) * 7) (cs.drop (i * 7)) := ⟨_, rfl⟩
  have hg1 : ∃ cur1 : Array Value, W1.heap[g]? = some (.cells cur1 79 (0, 0)) ∧ cur1.size = c * 7 := by
    have := (blk_sets (T := 79) (cs.drop (i * 7)) w.drew cur ((i + 1) * 7) hg).1
    rw [← hW1, putA_eq _ _ _ (by omega)] at this
    refine ⟨_, this, ?_⟩
    simp [putL, List.length_take, List.length_drop]
    omega
  obtain ⟨cur1, hg1, hs1⟩ := hg1
  have hcp2 : ∀ (W : World), (∀ x, W.cell? x = W1.cell? x) → (∀ x, W.frozen? x = W1.frozen? x) → ∀ ty dc, (Builtin.copy_ #[31, 31] ty #[.slice (some ⟨g, i * 7, none⟩) (n + 1 - i) dc, .slice (some ⟨gv, 0, none⟩) 1 1]).run Try.prog W = .ok (goInt (1 : Nat)) (W.setCells g (i * 7) (opC y)) := fun W hWc hWf ty dc =>
    run_copy_sz W _ _ ty 79 7 1 g (i * 7) (n + 1 - i) dc ⟨gv, 0, none⟩ 1 1 (opC y) Try.underlying31 szOP (by simp only [Nat.min_def]; split <;> omega) rfl
      (fun j v hj => by
        rw [Addr.add_lit, hWc, hW1, World.cell?_setCells_out g _ _ _ _ (fun h _ => absurd h hgv)]
        have := hvv j v hj
        simpa using this)
      (fun j hj => by rw [hWc, blk_cell hg1, Array.getElem?_eq_getElem (by simp [opC] at hj; omega)]; rfl) (fun j hj => by rw [hWf]; exact blk_frozen hg1 _) (opC_one y)
  rw [← hW1] at hcp1 ⊢
  have HC1 := Aside0.mk hcp1
  have HC2 := Aside0.mk hcp2
  have HW := Aside0.mk hW1
  clear hW1 hcp1 hcp2 hcs hsz hg hv hcsv hvv hcell hsome hfz h1 hg1 hs1 hdl hcl
  go_enter Try.func21, Try.ntmps21
  go_wp2_with (simp only [hov])
  go_region_law (refine step_copyI (by rfl) (.tmp 73) (.tmp 76) 31 31 rfl _ _ (by simp [Act.eval, Act.put]; rfl) (by simp [Act.eval, Act.put]; rfl) (HC1.out _ _ _) ?_)
  go_wp2_with ((with_reducible refine gate_ (.call { callee := .builtin .copy, args := #[.tmp 80, .tmp 81], argTypes := #[31, 31] }) rfl ?_); refine wpList_copyI _ rfl (.tmp 80) (.tmp 81) 31 31 rfl _ _ rfl rfl (HC2.out _ (fun _ => rfl) (fun _ => rfl) _ _) ?_)
  go_ret
  first | exact ⟨rfl, rfl⟩ | exact ⟨rfl, by rw [HW.out]⟩
end Go.Proofs.Ytbaknecnkipooaa.Tld
namespace Go.Proofs.Ytbaknecnkipooaa.Tld
open Go Go.RowKit Go.Proofs.YtbaknecnkipooaaW.PrintWords Go.Proofs.Ytbaknecnkipooaa.Sep Go.Proofs.Ytbaknecnkipooaa.Obj Go.Proofs.Ytbaknecnkipooaa.Vot
set_option linter.unusedVariables false
set_option linter.unusedSimpArgs false
def zOP : Value := .agg #[.int .u8 0, .int .i64 0, .bool false, .bool false, .bool false, .slice none 0 0, .slice none 0 0]
def InsG (w : World) (n i : Nat) (cs : List Value) (y : OP) (e : Ending) (w' : World) : Prop := ∃ (G : Nat) (ROW : Array Value) (W1 W2 : World), n + 1 ≤ G ∧ G ≤ maxLen ∧ ROW.size = G * 7 ∧ ROW.toList.take (i * 7) = cs.take (i * 7) ∧ e = .returned (.slice (some ⟨w.heap.size, 0, none⟩) (n + 1) G) ∧
      W1 = w.drew.alloc (.cells ROW 79 (0, 0)) ∧ W2 = W1.setCells w.heap.size (i * 7) (opC y) ∧ w' = W2.drew.setCells w.heap.size ((i + 1) * 7) (cs.drop (i * 7))
set_option maxHeartbeats 1000000 in
set_option maxRecDepth 100000 in
theorem ins_grow (w : World) (g n i gv : Nat) (cur : Array Value) (cs : List Value) (y : OP) (hi : i < n) (hn : n ≤ 1000) (hgv : gv ≠ g) (hg : w.heap[g]? = some (.cells cur 79 (0, 0))) (hsz : cur.size = n * 7) (hcs : cur.toList.take (n * 7) = cs) (h1 : ∀ v ∈ cs, v.oneCell' = true) (hv : w.heap[gv]? = some (.cells (opC y).toArray 79 (0, 0))) :
    Calls Try.prog 21 #[.slice (some ⟨g, 0, none⟩) n n, .int .i64 (i : Int), .slice (some ⟨gv, 0, none⟩) 1 1] w (InsG w n i cs y) := by
  have hcl : cs.length = n * 7 := by rw [← hcs, List.length_take, Array.length_toList, hsz]; omega
  have hcell : ∀ j, w.cell? ⟨g, j, none⟩ = cur[j]? := fun j => blk_cell hg j
  have hcsv : ∀ j v, cs[j]? = some v → w.cell? ⟨g, j, none⟩ = some v := fun j v hj => by
    rw [← hcs, List.getElem?_take] at hj
    split at hj
    · rw [hcell]; simpa using hj
    · cases hj
  have hvv : ∀ j v, (opC y)[j]? = some v → w.cell? ⟨gv, j, none⟩ = some v := fun j v hj => by rw [blk_cell hv]; simpa using hj
  have hz2 : ¬ ((i : Int) = (n : Int)) := by omega
  have hz3 : (n : Int) < (n : Int) + 1 := by omega
  have hbw : g < w.heap.size := blk_lt hg
  have hvw : gv < w.heap.size := blk_lt hv
  have hkk : (n : Int) + 1 - (i : Int) = ((n + 1 - i : Nat) : Int) := by omega
  have hik : i + (n + 1 - i) = n + 1 := by omega
  obtain ⟨i0, hi0, hz0, hzs, hzb⟩ := info_parts infoOP
  have hold : (Builtin.firstCells i0.size i (.slice (some ⟨g, 0, none⟩) i n)).run Try.prog w.drew = .ok (cs.take (i * 7)).toArray w.drew := by
    rw [hzs]
    exact run_firstCells_some w.drew 7 i ⟨g, 0, none⟩ i n (cs.take (i * 7)) (by rw [List.length_take]; omega) (fun j v hj => by
      rw [Addr.add_lit]
      rw [List.getElem?_take] at hj
      split at hj
      · simpa using hcsv j v hj
      · cases hj)
  obtain ⟨G, hG⟩ : ∃ G, G = grownCap w (n + 1) n 79 := ⟨_, rfl⟩
  have hGn : n + 1 ≤ G := by rw [hG]; exact grownCap_ge w _ _ _
  have hGm : G ≤ maxLen := by rw [hG]; exact grownCap_le_maxLen w (n + 1) n 79 (by unfold maxLen; omega)
  obtain ⟨ROW, hROW⟩ : ∃ ROW : Array Value, ROW = (cs.take (i * 7)).toArray ++ Builtin.zeroCells zOP.cells (n + 1 - i) ++ Builtin.zeroCells zOP.cells (G - (n + 1)) := ⟨_, rfl⟩
  have hrz : ∀ ty, (Builtin.append_ #[31, 3] ty #[.slice (some ⟨g, 0, none⟩) i n, .int .i64 ((n : Int) + 1 - (i : Int))]).run Try.prog w = .ok (.slice (some ⟨w.heap.size, 0, none⟩) (n + 1) G) (w.drew.alloc (.cells ROW 79 (0, 0))) := fun ty => by
    have h := Lib.run_append_grow_zeros (P := Try.prog) w 31 3 ty 79 i0 _ .i64 .i64 Try.underlying31 Try.underlying3 hi0 hz0 (some ⟨g, 0, none⟩) i n (cs.take (i * 7)) hold (n + 1 - i) (by omega) (by omega) (by omega) (by omega) (by rw [hzb]; omega) (by rw [hzb, hik]; exact growslice_fits (by omega) (by omega))
    rw [hik, ← hG] at h
    rw [hkk, hROW]
    exact h
  have hRl : ROW.size = G * 7 := by
    have a1 := zeroCells_len zOP.cells (n + 1 - i)
    have a2 := zeroCells_len zOP.cells (G - (n + 1))
    have a3 : zOP.cells.size = 7 := rfl
    rw [a3, Array.length_toList] at a1 a2
    rw [hROW, Array.size_append, Array.size_append, a1, a2, List.size_toArray, List.length_take, Nat.min_eq_left (by rw [hcl]; omega)]
    omega
  have hRt : ROW.toList.take (i * 7) = cs.take (i * 7) := by
    rw [hROW]
    simp only [Array.toList_append, List.append_assoc]
    rw [List.take_append_of_le_length (by rw [List.length_take]; omega), List.take_of_length_le (by rw [List.length_take]; omega)]
  obtain ⟨W1, hW1⟩ : ∃ W1, W1 = w.drew.alloc (.cells ROW 79 (0, 0)) := ⟨_, rfl⟩
  rw [← hW1] at hrz
  have hg1 : W1.heap[w.heap.size]? = some (.cells ROW 79 (0, 0)) := by rw [hW1]; exact blk_new w.drew _
  have hOg : ∀ j v, w.cell? ⟨g, j, none⟩ = some v → W1.cell? ⟨g, j, none⟩ = some v := fun j v h => by rw [hW1, World.cell?_alloc_past (w := w.drew) _ g j hbw]; exact h
  have hOv : ∀ j v, w.cell? ⟨gv, j, none⟩ = some v → W1.cell? ⟨gv, j, none⟩ = some v := fun j v h => by rw [hW1, World.cell?_alloc_past (w := w.drew) _ gv j hvw]; exact h
  have hN : ∀ (W : World) (j : Nat), (∀ x, W.cell? x = W1.cell? x) → j < (n + 1) * 7 → (W.cell? ⟨w.heap.size, j, none⟩).isSome = true := fun W j hW hj => by
    rw [hW, blk_cell hg1, Array.getElem?_eq_getElem (by rw [hRl]; omega)]; rfl
  have hcpA : ∀ (W : World), (∀ x, W.cell? x = W1.cell? x) → (∀ x, W.frozen? x = W1.frozen? x) → ∀ ty dc, (Builtin.copy_ #[31, 31] ty #[.slice (some ⟨w.heap.size, i * 7, none⟩) (n + 1 - i) dc, .slice (some ⟨gv, 0, none⟩) 1 1]).run Try.prog W = .ok (goInt (1 : Nat)) (W.setCells w.heap.size (i * 7) (opC y)) := fun W hWc hWf ty dc =>
    run_copy_sz W _ _ ty 79 7 1 w.heap.size (i * 7) (n + 1 - i) dc ⟨gv, 0, none⟩ 1 1 (opC y) Try.underlying31 szOP (by simp only [Nat.min_def]; split <;> omega) rfl
      (fun j v hj => by rw [Addr.add_lit, hWc]; simpa using hOv _ v (hvv j v hj))
      (fun j hj => hN W _ hWc (by simp [opC] at hj; omega)) (fun j hj => by rw [hWf]; exact blk_frozen hg1 _) (opC_one y)
  have hGi : ¬ (G = i) := by omega
  have hGim : ¬ (G = i + 1) := by omega
  have hci : ¬ (n = i) := by omega
  have hgN : g ≠ w.heap.size := by omega
  have hdl : (cs.drop (i * 7)).length = (n - i) * 7 := by rw [List.length_drop, hcl]; omega
  have hcpB : ∀ (W : World), (∀ x, W.cell? x = (W1.setCells w.heap.size (i * 7) (opC y)).cell? x) → (∀ x, W.frozen? x = (W1.setCells w.heap.size (i * 7) (opC y)).frozen? x) → ∀ ty dc sc, (Builtin.copy_ #[31, 31] ty #[.slice (some ⟨w.heap.size, (i + 1) * 7, none⟩) (n + 1 - (i + 1)) dc, .slice (some ⟨g, i * 7, none⟩) (n - i) sc]).run Try.prog W = .ok (goInt (n - i : Nat)) (W.setCells w.heap.size ((i + 1) * 7) (cs.drop (i * 7))) := fun W hWc hWf ty dc sc =>
    run_copy_sz W _ _ ty 79 7 (n - i) w.heap.size ((i + 1) * 7) (n + 1 - (i + 1)) dc ⟨g, i * 7, none⟩ (n - i) sc (cs.drop (i * 7)) Try.underlying31 szOP (by simp only [Nat.min_def]; split <;> omega) hdl
      (fun j v hj => by
        rw [Addr.add_lit, hWc, World.cell?_setCells_out _ _ _ _ _ (fun h _ => absurd h hgN)]
        exact hOg _ v (hcsv (i * 7 + j) v (by rwa [List.getElem?_drop] at hj)))
      (fun j hj => by
        rw [hWc]
        have h2 := (blk_sets (T := 79) (opC y) W1 ROW (i * 7) hg1).1
        rw [putA_eq _ _ _ (by rw [hRl]; simp [opC]; omega)] at h2
        rw [blk_cell h2, Array.getElem?_eq_getElem]
        · rfl
        · simp [putL, List.length_take, List.length_drop, hRl, opC]
          simp [hdl] at hj
          omega)
      (fun j hj => by rw [hWf, World.frozen?_setCells]; exact blk_frozen hg1 _) (fun v hv => h1 v (List.mem_of_mem_drop hv))
  have hw1 : IntKind.i64.wrap ((i : Int) + 1) = (i : Int) + 1 := by rw [IntKind.wrap_i64]; omega
  have hw2 : IntKind.i64.wrap ((n : Int) + 1 - (i : Int)) = (n : Int) + 1 - (i : Int) := by rw [IntKind.wrap_i64]; omega
  have hb1 : (0 : Int) ≤ (i : Int) + 1 := by omega
  have hin : i ≤ n := by omega
  have htn : ((i : Int) + 1).toNat = i + 1 := by omega
  have hb3 : (i : Int) ≤ (n : Int) := by omega
  have HZ := Aside0.mk hrz
  obtain ⟨W2, hW2⟩ : ∃ W2, W2 = W1.setCells w.heap.size (i * 7) (opC y) := ⟨_, rfl⟩
  obtain ⟨W3, hW3⟩ : ∃ W3, W3 = W2.drew.setCells w.heap.size ((i + 1) * 7) (cs.drop (i * 7)) := ⟨_, rfl⟩
  have HA : Aside0 (∀ ty dc, (Builtin.copy_ #[31, 31] ty #[.slice (some ⟨w.heap.size, i * 7, none⟩) (n + 1 - i) dc, .slice (some ⟨gv, 0, none⟩) 1 1]).run Try.prog W1 = .ok (goInt (1 : Nat)) W2) := ⟨fun ty dc => by rw [hW2]; exact hcpA W1 (fun _ => rfl) (fun _ => rfl) ty dc⟩
  have HB : Aside0 (∀ ty dc sc, (Builtin.copy_ #[31, 31] ty #[.slice (some ⟨w.heap.size, (i + 1) * 7, none⟩) (n + 1 - (i + 1)) dc, .slice (some ⟨g, i * 7, none⟩) (n - i) sc]).run Try.prog W2.drew = .ok (goInt (n - i : Nat)) W3) := ⟨fun ty dc sc => by rw [hW3]; exact hcpB W2.drew (fun x => by show W2.cell? x = _; rw [hW2]) (fun x => by show W2.frozen? x = _; rw [hW2]) ty dc sc⟩
  have HW2 := Aside0.mk hW2
  have HW3 := Aside0.mk hW3
  have HP : Aside0 (n + 1 ≤ G ∧ G ≤ maxLen ∧ ROW.size = G * 7 ∧ ROW.toList.take (i * 7) = cs.take (i * 7)) := ⟨hGn, hGm, hRl, hRt⟩
  have HW := Aside0.mk hW1
  obtain ⟨N, hN'⟩ : ∃ N, N = w.heap.size := ⟨_, rfl⟩
  rw [← hN'] at HZ HA HB
  have HNN := Aside0.mk hN'
  clear hW2 hW3 hrz hcpA hcpB hGn hGm hRl hRt hW1 hN hOg hOv hg1 hROW hG hold hkk hik hi0 hz0 hzs hzb hcs hsz hg hv hcsv hvv hcell h1 hdl hcl hN' hgN
  go_enter Try.func21, Try.ntmps21
  go_wp2_with (first
    | (at_builtin; refine Lib.wpList_append_run _ rfl _ _ _ _ rfl _ _ rfl rfl _ _ (HZ.out _) ?_)
    | ((with_reducible refine gate_ (.call { callee := .builtin .copy, args := #[.tmp 43, .tmp 44], argTypes := #[31, 31] }) rfl ?_); refine wpList_copyI _ rfl (.tmp 43) (.tmp 44) 31 31 rfl _ _ rfl rfl (HA.out _ _) ?_)
    | fail)
  simp only [Act.put, goInt, List.setIfInBounds_toArray, List.set_cons_zero, List.set_cons_succ]
  go_region_law (refine step_copyI (by rfl) (.tmp 50) (.tmp 53) 31 31 rfl _ _ (by simp [Act.eval, Act.put]; rfl) (by simp [Act.eval, Act.put]; rfl) (HB.out _ _ _) ?_)
  go_wp2_with fail
  go_ret
  obtain ⟨p1, p2, p3, p4⟩ := HP.out
  exact ⟨G, ROW, W1, W2, p1, p2, p3, p4, by rw [← HNN.out]; rfl, HW.out, HW2.out, HW3.out⟩
end Go.Proofs.Ytbaknecnkipooaa.Tld
