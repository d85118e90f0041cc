/- '==' of arrays of whole numbers as one Bool. Below and Ready. Ready. -/
import Derived.Test.YtbaknecnkipooaaM19
import Derived.Test.YtbaknecnkipooaaM18
namespace Go.Proofs.Ytbaknecnkipooaa.Mp
open Go Go.RowKit Go.Maps Go.Proofs.YtbaknecnkipooaaW.PrintWords
set_option linter.unusedVariables false
theorem mapM_all {α β : Type} (f : α → Option β) (g : α → β) : ∀ l : List α, (∀ x ∈ l, f x = some (g x)) → l.mapM f = some (l.map g)
  | [], _ => rfl
  | x :: r, h => by
    rw [List.mapM_cons, h x (by simp), mapM_all f g r (fun y hy => h y (by simp [hy]))]
    rfl
theorem flatten_one (xs : List Lit) : ((List.range xs.length).map fun i => (xs.drop i).take 1).flatten = xs := by
  have : ∀ (n : Nat) (ys : List Lit), ys.length = n → ((List.range n).map fun i => (ys.drop i).take 1).flatten = ys := by
    intro n
    induction n with
    | zero => intro ys h; rw [List.eq_nil_of_length_eq_zero h]; rfl
    | succ n ih =>
      intro ys h
      match ys, h with
      | y :: r, h =>
        rw [List.range_succ_eq_map, List.map_cons, List.flatten_cons, List.map_map]
        have := ih r (by simpa using h)
        simpa [Function.comp_def] using this
  exact this _ xs rfl
theorem lits_arr {P : Program} {t e : TypeId} {q : IntKind} {n : Nat} (hu : P.underlying t = some (.array n e)) (he : P.underlying e = some (.int q)) (hc : P.cellsOf t = n) (hce : P.cellsOf e = 1) (M : Nat) (xs : List Int) (hl : xs.length = n) (hw : ∀ x ∈ xs, (Lit.int q x).wf = true) :
    P.keyLits (M + 2) t (nums q xs) = some (xs.map (Lit.int q)) := by
  unfold Program.keyLits
  simp only [hu]
  rw [if_pos (by rw [hc, nums_length, hl]), hce]
  rw [mapM_all _ (fun i => ((xs.map (Lit.int q)).drop i).take 1)]
  · have := flatten_one (xs.map (Lit.int q))
    rw [List.length_map, hl] at this
    simp only [Option.map_some, this]
  · intro i hi
    have hi' : i < xs.length := by rw [hl]; simpa using hi
    rw [(lits_int he M _ _).2 ⟨xs[i], ?_, hw _ (List.getElem_mem _), rfl⟩]
    · rw [List.drop_eq_getElem_cons (by simpa using hi')]
      simp
    · unfold nums
      rw [Nat.mul_one, List.drop_eq_getElem_cons (by simpa using hi')]
      simp
theorem eq_arr {P : Program} {t e : TypeId} {q : IntKind} {n : Nat} (hu : P.underlying t = some (.array n e)) (he : P.underlying e = some (.int q)) (hc : P.cellsOf t = n) (hce : P.cellsOf e = 1) (hk : P.keyTypeAt 9 t = true) (xs ys : List Int) (hl : xs.length = n) (hl' : ys.length = n)
    (hw : ∀ x ∈ xs, (Lit.int q x).wf = true) (hw' : ∀ x ∈ ys, (Lit.int q x).wf = true) (w : World) :
    (Op.equalIn 10000 t (.agg (nums q xs).toArray) (.agg (nums q ys).toArray)).run P w = .ok (decide (xs = ys)) w := by
  have hf : ∀ zs : List Int, zs.length = n → (Value.agg (nums q zs).toArray).formed P t = true := fun zs hz => by simp [Value.formed, hu, hc, nums, hz]
  obtain ⟨r, hr, hiff⟩ := run_equalIn_deep (10000 - 9) 9 t hk w 2 2 (.agg (nums q xs).toArray) (.agg (nums q ys).toArray) (xs.map (Lit.int q)) (ys.map (Lit.int q)) (hf xs hl) (hf ys hl')
    (by simpa [Value.cells] using lits_arr hu he hc hce 0 xs hl hw) (by simpa [Value.cells] using lits_arr hu he hc hce 0 ys hl' hw')
  rw [show (10000 : Nat) = 10000 - 9 + 9 from rfl, hr]
  congr 1
  rw [Bool.eq_iff_iff, hiff, decide_eq_true_iff]
  constructor
  · intro h
    have h' := congrArg (List.map fun (l : Lit) => match l with | .int _ x => x | _ => 0) h
    simpa [Function.comp_def] using h'
  · rintro rfl; rfl
end Go.Proofs.Ytbaknecnkipooaa.Mp
namespace Go.Proofs.Ytbaknecnkipooaa.Hld
open Go Go.RowKit Go.Proofs.YtbaknecnkipooaaW.PrintWords Go.Proofs.Ytbaknecnkipooaa.Sep Go.Proofs.Ytbaknecnkipooaa.Obj
set_option linter.unusedVariables false
set_option linter.unusedSimpArgs false
theorem okV_wf {v : List Int} (h : okV v) : ∀ x ∈ v, (Lit.int .u16 x).wf = true := by
  intro x hx
  have := h.2 x hx
  simp [Lit.wf, IntKind.min, IntKind.max, IntKind.signed, IntKind.bits]
  omega
theorem okV_join {a b : List Int} (ha : okV a) (hb : okV b) : okV (joinL a b) := by
  refine ⟨joinL_len a b, fun x hx => ?_⟩
  unfold joinL joinN at hx
  rw [List.mem_map] at hx
  obtain ⟨i, hi, rfl⟩ := hx
  have hi := List.mem_range.1 hi
  have h1 := okV_at ha i hi
  have h2 := okV_at hb i hi
  rw [if_pos hi]
  unfold mx
  split <;> omega
theorem getD_ext {a b : List Int} (ha : a.length = 16) (hb : b.length = 16) (h : ∀ i, i < 16 → a.getD i 0 = b.getD i 0) : a = b := by
  apply List.ext_getElem (by rw [ha, hb])
  intro i h1 h2
  have := h i (by omega)
  simpa [List.getD_eq_getElem?_getD, h1, h2] using this
theorem join_eq {a b : List Int} (hb : b.length = 16) : decide (joinL a b = b) = belL a b := by
  rw [Bool.eq_iff_iff, decide_eq_true_iff, belL_iff]
  constructor
  · intro h i hi
    have h1 := joinN_at a b 16 i hi
    rw [if_pos hi, show joinN a b 16 = b from h] at h1
    unfold mx at h1
    split at h1 <;> omega
  · intro h
    refine getD_ext (joinL_len a b) hb (fun i hi => ?_)
    have h1 := joinN_at a b 16 i hi
    rw [if_pos hi] at h1
    rw [show joinL a b = joinN a b 16 from rfl, h1]
    have := h i hi
    unfold mx
    split <;> omega
theorem cellsV : Try.prog.cellsOf 30 = 16 := by kernel_rfl
theorem cellsU : Try.prog.cellsOf 27 = 1 := by kernel_rfl
theorem keyV : Try.prog.keyTypeAt 9 30 = true := by kernel_rfl
theorem eqV (a b : List Int) (ha : okV a) (hb : okV b) (w : World) : (Op.equalIn 10000 30 (.agg (vecC a)) (.agg (vecC b))).run Try.prog w = .ok (decide (a = b)) w :=
  Mp.eq_arr Try.underlying30 Try.underlying27 cellsV cellsU keyV a b ha.1 hb.1 (okV_wf ha) (okV_wf hb) w
theorem range_vec {v : List Int} (hv : v.length = 16) {w : World} {g : Nat} {T : TypeId} (h : w.heap[g]? = some (.cells (vecC v) T (0, 0))) : w.rangeAt g 0 (nums .u16 v) := by
  have := World.rangeAt_of_block h 0 16
  rw [all_of _ 16 (vecC_size _ hv)] at this
  simpa [vecC] using this
theorem range_past {x : It} (hx : x.past.length = 16) {w : World} {g : Nat} {T : TypeId} (h : w.heap[g]? = some (.cells (itC x) T (0, 0))) : w.rangeAt g 3 (nums .u16 x.past) := by
  have := World.rangeAt_of_block h 3 16
  rw [itC_vec _ hx] at this
  simpa [vecC] using this
theorem range_it {x : It} (hx : x.past.length = 16) {w : World} {g : Nat} {T : TypeId} (h : w.heap[g]? = some (.cells (itC x) T (0, 0))) : w.rangeAt g 0 (itC x).toList := by
  have := World.rangeAt_of_block h 0 20
  rw [all_of _ 20 (itC_size _ hx)] at this
  exact this
theorem infoV {v : List Int} (hv : v.length = 16) : (Try.prog.info? 30).map (·.size) = some (nums .u16 v).length := by
  rw [nums_length, hv]
  kernel_rfl
set_option maxHeartbeats 4000000 in
set_option maxRecDepth 100000 in
theorem below_calls (w : World) (a b : List Int) (ha : okV a) (hb : okV b) : Calls Try.prog 11 #[.agg (vecC a), .agg (vecC b)] w (Kept (.bool (belL a b)) w) := by
  have hq : ∀ W : World, (Op.equalIn 10000 30 (.agg (vecC (joinL a b))) (.agg (nums .u16 b).toArray)).run Try.prog W = .ok (belL a b) W := fun W => by
    have := eqV (joinL a b) b (okV_join ha hb) hb W
    rw [join_eq hb.1] at this
    exact this
  have HA := Aside0.mk ha
  have HB := Aside0.mk hb
  clear ha hb
  have HH : Aside0 (OwnS (fun _ => False) [] w w) := ⟨OwnS.of_own (Own.start w)⟩
  go_enter Try.func11, Try.ntmps11
  go_wp2_with (first
    | ((with_reducible refine gate_dst (N := 2) rfl ?_); refine evS_box (oh HH) rfl (cs := vecC a) (T := 30) ?_ ?_; (focus first | (go_simp; done) | (go_simp; rfl)); intro g1 w1 he hh; clear he; replace HH : Aside0 (OwnS (fun _ => False) [Sep.blk g1 (vecC a) 30] w w1) := ⟨hh⟩; clear hh)
    | ((with_reducible refine gate_dst (N := 3) rfl ?_); refine evS_box (oh HH) rfl (cs := vecC b) (T := 30) ?_ ?_; (focus first | (go_simp; done) | (go_simp; rfl)); intro g2 w2 he hh; clear he; replace HH : Aside0 (OwnS (fun _ => False) [Sep.blk g1 (vecC a) 30, Sep.blk g2 (vecC b) 30] w w2) := ⟨hh⟩; clear hh)
    | fail
    | fail)
  have HKV : Aside0 (∀ w' : World, OwnS (fun _ => False) [Sep.blk g1 (vecC a) 30, Sep.blk g2 (vecC b) 30] w w' → (w'.rangeAt g1 0 (nums .u16 a) ∧ w'.rangeAt g2 0 (nums .u16 b))) := ⟨fun W h => ⟨range_vec HA.out.1 (OwnS.blk h 0 rfl), range_vec HB.out.1 (OwnS.blk h 1 rfl)⟩⟩
  refine wp_region_held_drew (S := fun w' => w'.rangeAt g1 0 (nums .u16 a) ∧ w'.rangeAt g2 0 (nums .u16 b)) (by kernel_rfl) ?_ (fun hHeld => ?_)
  focus (try dsimp only); (exact HKV.out _ (oh HH))
  (try dsimp only at hHeld)
  refine tk (i := 0) (hy := yieldsIf_load_mid (by rfl) _ _ rfl _ _ rfl (nums .u16 a) _ ?_ Try.underlying30 rfl (infoV HA.out.1)) (h := ?_); (focus (intro w hSw; (try dsimp only at hSw); go_split_ands; assumption)); (try simp only [Act.put, jjA, jjZ, jjS])
  refine tk (i := 1) (hy := yieldsIf_load_mid (by rfl) _ _ rfl _ _ rfl (nums .u16 b) _ ?_ Try.underlying30 rfl (infoV HB.out.1)) (h := ?_); (focus (intro w hSw; (try dsimp only at hSw); go_split_ands; assumption)); (try simp only [Act.put, jjA, jjZ, jjS])
  refine tk (i := 3) (hy := yieldsIf_load_mid (by rfl) _ _ rfl _ _ rfl (nums .u16 b) _ ?_ Try.underlying30 rfl (infoV HB.out.1)) (h := ?_); (focus (intro w hSw; (try dsimp only at hSw); go_split_ands; assumption)); (try simp only [Act.put, jjA, jjZ, jjS])
  refine wpAnyH_ready (rs := [2]) (by kernel_rfl) (by simp) ?_; refine AllReadyH.cons (by simp only [List.getElem?_toArray, List.getElem?_cons_succ, List.getElem?_cons_zero]; rfl) (fun K hK => ?_) AllReadyH.nil; go_simp; go_at_call 35; refine ownS_call (oh HH) ?_; intro ht; refine (join_calls _ a b HA.out.1 HB.out.1).mono ?_; rintro e w3 ⟨rfl, hb⟩; replace HH : Aside0 (OwnS (fun _ => False) [Sep.blk g1 (vecC a) 30, Sep.blk g2 (vecC b) 30] w w3) := ⟨OwnS.step ht hb⟩; clear hb; clear ht; refine hK.out _ _ ?_ (fun hHeld2 => ?_); (focus (try dsimp only); (exact HKV.out _ (oh HH))); clear hK K hHeld; rename _ => hHeld; (try dsimp only at hHeld); (try simp only [Act.put, jjA, jjZ, jjS])
  refine otk (i := 4) (v := .bool (belL a b)) ?_; (try simp only [Act.put, jjA, jjZ, jjS])
  refine otk (i := 5) ?_; (try simp only [Act.put, jjA, jjZ, jjS])
  refine wpAnyH_done (by kernel_rfl) ?_ _
  go_wp2_with fail
  go_ret
  exact ⟨rfl, below_frm (OwnS.frm HH.out)⟩
end Go.Proofs.Ytbaknecnkipooaa.Hld
namespace Go.Proofs.Ytbaknecnkipooaa.Hld
open Go Go.RowKit Go.Proofs.YtbaknecnkipooaaW.PrintWords Go.Proofs.Ytbaknecnkipooaa.Sep Go.Proofs.Ytbaknecnkipooaa.Obj
set_option linter.unusedVariables false
set_option linter.unusedSimpArgs false
def readyB (told : List Int) (x : It) : Bool := rightI x && decide (told.getD x.frm.toNat 0 = x.seq) && belL x.past told
set_option maxHeartbeats 8000000 in
set_option maxRecDepth 100000 in
theorem ready_calls (w : World) (told : List Int) (x : It) (ht0 : okV told) (hx : okI x) : Calls Try.prog 31 #[.agg (vecC told), .agg (itC x)] w (Kept (.bool (readyB told x)) w) := by
  have HT := Aside0.mk ht0
  have HX := Aside0.mk hx
  have HH : Aside0 (OwnS (fun _ => False) [] w w) := ⟨OwnS.of_own (Own.start w)⟩
  cases hm : rightI x with
  | false =>
      have HM := Aside0.mk hm
      have HR : Aside0 (readyB told x = false) := ⟨by unfold readyB; rw [hm]; rfl⟩
      clear hm ht0 hx
      go_enter Try.func31, Try.ntmps31
      go_wp2_with (first
        | ((with_reducible refine gate_dst (N := 2) rfl ?_); refine evS_box (oh HH) rfl (cs := vecC told) (T := 30) ?_ ?_; (focus first | (go_simp; done) | (go_simp; rfl)); intro g1 w1 he hh; clear he; replace HH : Aside0 (OwnS (fun _ => False) [Sep.blk g1 (vecC told) 30] w w1) := ⟨hh⟩; clear hh)
        | ((with_reducible refine gate_dst (N := 3) rfl ?_); refine evS_box (oh HH) rfl (cs := itC x) (T := 56) ?_ ?_; (focus first | (go_simp; done) | (go_simp; rfl)); intro g2 w2 he hh; clear he; replace HH : Aside0 (OwnS (fun _ => False) [Sep.blk g1 (vecC told) 30, Sep.blk g2 (itC x) 56] w w2) := ⟨hh⟩; clear hh)
        | fail
        | fail)
      have HKV : Aside0 (∀ w' : World, OwnS (fun _ => False) [Sep.blk g1 (vecC told) 30, Sep.blk g2 (itC x) 56] w w' → (w'.rangeAt g2 0 (itC x).toList)) := ⟨fun W h => range_it HX.out.1.1 (OwnS.blk h 1 rfl)⟩
      refine wp_region_held_drew (S := fun w' => w'.rangeAt g2 0 (itC x).toList) (by kernel_rfl) ?_ (fun hHeld => ?_)
      focus (try dsimp only); (exact HKV.out _ (oh HH))
      (try dsimp only at hHeld)
      refine tk (i := 0) (hy := yieldsIf_load_mid (by rfl) _ _ rfl _ _ rfl ((itC x).toList) _ ?_ Try.underlying56 rfl (by rw [Array.length_toList, (itC_size _ HX.out.1.1)]; kernel_rfl)) (h := ?_); (focus (intro w hSw; (try dsimp only at hSw); go_split_ands; assumption)); (try simp only [Act.put, jjA, jjZ, jjS])
      refine wpAnyH_ready (rs := [1]) (by kernel_rfl) (by simp) ?_; refine AllReadyH.cons (by simp only [List.getElem?_toArray, List.getElem?_cons_succ, List.getElem?_cons_zero]; rfl) (fun K hK => ?_) AllReadyH.nil; go_simp; go_at_call 29; refine ownS_call (oh HH) ?_; intro ht; refine (imay_calls _ x HX.out).mono ?_; rintro e w3 ⟨rfl, hb⟩; rw [HM.out]; replace HH : Aside0 (OwnS (fun _ => False) [Sep.blk g1 (vecC told) 30, Sep.blk g2 (itC x) 56] w w3) := ⟨OwnS.step ht hb⟩; clear hb; clear ht; refine hK.out _ _ ?_ (fun hHeld2 => ?_); (focus (try dsimp only); (exact HKV.out _ (oh HH))); clear hK K hHeld; rename _ => hHeld; (try dsimp only at hHeld); (try simp only [Act.put, jjA, jjZ, jjS])
      refine otk (i := 2) (v := .bool false) ?_; (try simp only [Act.put, jjA, jjZ, jjS])
      refine tk (i := 3) (v := undef) (hy := Or.inr ⟨by rfl, rfl⟩) (h := ?_); (try simp only [Act.put, jjA, jjZ, jjS])
      refine tk (i := 4) (v := undef) (hy := Or.inr ⟨by rfl, rfl⟩) (h := ?_); (try simp only [Act.put, jjA, jjZ, jjS])
      refine tk (i := 5) (v := undef) (hy := Or.inr ⟨by rfl, rfl⟩) (h := ?_); (try simp only [Act.put, jjA, jjZ, jjS])
      refine tk (i := 6) (v := undef) (hy := Or.inr ⟨by rfl, rfl⟩) (h := ?_); (try simp only [Act.put, jjA, jjZ, jjS])
      refine tk (i := 7) (v := undef) (hy := Or.inr ⟨by rfl, rfl⟩) (h := ?_); (try simp only [Act.put, jjA, jjZ, jjS])
      refine tk (i := 8) (v := undef) (hy := Or.inr ⟨by rfl, rfl⟩) (h := ?_); (try simp only [Act.put, jjA, jjZ, jjS])
      refine tk (i := 9) (v := undef) (hy := Or.inr ⟨by rfl, rfl⟩) (h := ?_); (try simp only [Act.put, jjA, jjZ, jjS])
      refine tk (i := 10) (v := undef) (hy := Or.inr ⟨by rfl, rfl⟩) (h := ?_); (try simp only [Act.put, jjA, jjZ, jjS])
      refine otk (i := 11) (v := .bool false) ?_; (try simp only [Act.put, jjA, jjZ, jjS])
      refine otk (i := 12) (v := .bool false) ?_; (try simp only [Act.put, jjA, jjZ, jjS])
      refine tk (i := 13) (v := undef) (hy := Or.inr ⟨by rfl, rfl⟩) (h := ?_); (try simp only [Act.put, jjA, jjZ, jjS])
      refine tk (i := 14) (v := undef) (hy := Or.inr ⟨by rfl, rfl⟩) (h := ?_); (try simp only [Act.put, jjA, jjZ, jjS])
      refine tk (i := 15) (v := undef) (hy := Or.inr ⟨by rfl, rfl⟩) (h := ?_); (try simp only [Act.put, jjA, jjZ, jjS])
      refine tk (i := 16) (v := undef) (hy := Or.inr ⟨by rfl, rfl⟩) (h := ?_); (try simp only [Act.put, jjA, jjZ, jjS])
      refine tk (i := 17) (v := undef) (hy := Or.inr ⟨by rfl, rfl⟩) (h := ?_); (try simp only [Act.put, jjA, jjZ, jjS])
      refine otk (i := 18) ?_; (try simp only [Act.put, jjA, jjZ, jjS])
      refine otk (i := 19) ?_; (try simp only [Act.put, jjA, jjZ, jjS])
      refine wpAnyH_done (by kernel_rfl) ?_ _
      go_wp2_with fail
      go_ret
      exact ⟨by rw [HR.out]; rfl, below_frm (OwnS.frm HH.out)⟩
  | true =>
    have hf0 : 0 ≤ x.frm := hx.2.1.1
    obtain ⟨f, hfx⟩ : ∃ f, x.frm = f := ⟨_, rfl⟩
    obtain ⟨q, hqx⟩ : ∃ q, x.seq = q := ⟨_, rfl⟩
    have HFX := Aside0.mk hfx
    have HQX := Aside0.mk hqx
    have hf16 : f < 16 := by
      unfold rightI rightB at hm
      rw [Bool.and_eq_true, Bool.and_eq_true] at hm
      rw [← hfx]
      exact of_decide_eq_true hm.1.2
    rw [hfx] at hf0
    have HF : Aside0 (f.toNat < 16) := ⟨by omega⟩
    obtain ⟨n, hn⟩ : ∃ n, told.getD f.toNat 0 = n := ⟨_, rfl⟩
    have hr := okV_at HT.out f.toNat HF.out
    rw [hn] at hr
    have HN := Aside0.mk hn
    have hw := wrap_u16 hr.1 hr.2
    have hnn : 0 ≤ n := hr.1
    have HM := Aside0.mk hm
    have HR : Aside0 (readyB told x = (decide (n = q) && belL x.past told)) := ⟨by unfold readyB; rw [hm]; simp only [Bool.true_and]; rw [hfx, hqx, hn]⟩
    clear hm hn hr hfx hqx ht0 hx
    by_cases hnq : n = q
    · have hb1 : (n == q) = true := by simp [hnq]
      have HNQ := Aside0.mk hnq
      clear hnq
      go_enter Try.func31, Try.ntmps31
      go_wp2_with (first
        | ((with_reducible refine gate_dst (N := 2) rfl ?_); refine evS_box (oh HH) rfl (cs := vecC told) (T := 30) ?_ ?_; (focus first | (go_simp; done) | (go_simp; rfl)); intro g1 w1 he hh; clear he; replace HH : Aside0 (OwnS (fun _ => False) [Sep.blk g1 (vecC told) 30] w w1) := ⟨hh⟩; clear hh)
        | ((with_reducible refine gate_dst (N := 3) rfl ?_); refine evS_box (oh HH) rfl (cs := itC x) (T := 56) ?_ ?_; (focus first | (go_simp; done) | (go_simp; rfl)); intro g2 w2 he hh; clear he; replace HH : Aside0 (OwnS (fun _ => False) [Sep.blk g1 (vecC told) 30, Sep.blk g2 (itC x) 56] w w2) := ⟨hh⟩; clear hh)
        | fail
        | fail)
      have HKV : Aside0 (∀ w' : World, OwnS (fun _ => False) [Sep.blk g1 (vecC told) 30, Sep.blk g2 (itC x) 56] w w' → (w'.rangeAt g2 0 (itC x).toList ∧ w'.cell? ⟨g2, 0, none⟩ = some (.int .u8 f) ∧ w'.cell? ⟨g2, 1, none⟩ = some (.int .i64 q) ∧ w'.rangeAt g1 0 (nums .u16 told) ∧ w'.cell? ⟨g1, f.toNat, none⟩ = some (.int .u16 n) ∧ w'.rangeAt g2 3 (nums .u16 x.past))) := ⟨fun W h => ⟨range_it HX.out.1.1 (OwnS.blk h 1 rfl), (by rw [← HFX.out]; exact blk_cell (OwnS.blk h 1 rfl) 0), (by rw [← HQX.out]; exact blk_cell (OwnS.blk h 1 rfl) 1), range_vec HT.out.1 (OwnS.blk h 0 rfl), (by rw [← HN.out]; exact (blk_cell (OwnS.blk h 0 rfl) f.toNat).trans (vecC_at _ f.toNat (by rw [HT.out.1]; exact HF.out))), range_past HX.out.1.1 (OwnS.blk h 1 rfl)⟩⟩
      refine wp_region_held_drew (S := fun w' => w'.rangeAt g2 0 (itC x).toList ∧ w'.cell? ⟨g2, 0, none⟩ = some (.int .u8 f) ∧ w'.cell? ⟨g2, 1, none⟩ = some (.int .i64 q) ∧ w'.rangeAt g1 0 (nums .u16 told) ∧ w'.cell? ⟨g1, f.toNat, none⟩ = some (.int .u16 n) ∧ w'.rangeAt g2 3 (nums .u16 x.past)) (by kernel_rfl) ?_ (fun hHeld => ?_)
      focus (try dsimp only); (exact HKV.out _ (oh HH))
      (try dsimp only at hHeld)
      refine tk (i := 0) (hy := yieldsIf_load_mid (by rfl) _ _ rfl _ _ rfl ((itC x).toList) _ ?_ Try.underlying56 rfl (by rw [Array.length_toList, (itC_size _ HX.out.1.1)]; kernel_rfl)) (h := ?_); (focus (intro w hSw; (try dsimp only at hSw); go_split_ands; assumption)); (try simp only [Act.put, jjA, jjZ, jjS])
      refine wpAnyH_ready (rs := [1]) (by kernel_rfl) (by simp) ?_; refine AllReadyH.cons (by simp only [List.getElem?_toArray, List.getElem?_cons_succ, List.getElem?_cons_zero]; rfl) (fun K hK => ?_) AllReadyH.nil; go_simp; go_at_call 29; refine ownS_call (oh HH) ?_; intro ht; refine (imay_calls _ x HX.out).mono ?_; rintro e w3 ⟨rfl, hb⟩; rw [HM.out]; replace HH : Aside0 (OwnS (fun _ => False) [Sep.blk g1 (vecC told) 30, Sep.blk g2 (itC x) 56] w w3) := ⟨OwnS.step ht hb⟩; clear hb; clear ht; refine hK.out _ _ ?_ (fun hHeld2 => ?_); (focus (try dsimp only); (exact HKV.out _ (oh HH))); clear hK K hHeld; rename _ => hHeld; (try dsimp only at hHeld); (try simp only [Act.put, jjA, jjZ, jjS])
      refine otk (i := 2) ?_; (try simp only [Act.put, jjA, jjZ, jjS])
      refine otk (i := 3) ?_; (try simp only [Act.put, jjA, jjZ, jjS])
      refine otk (i := 4) ?_; (try simp only [Act.put, jjA, jjZ, jjS])
      refine otk (i := 5) ?_; (try simp only [Act.put, jjA, jjZ, jjS])
      refine otk (i := 6) ?_; (try simp only [Act.put, jjA, jjZ, jjS])
      refine otk (i := 7) ?_; (try simp only [Act.put, jjA, jjZ, jjS])
      refine otk (i := 8) ?_; (try simp only [Act.put, jjA, jjZ, jjS])
      refine otk (i := 9) ?_; (try simp only [Act.put, jjA, jjZ, jjS])
      refine otk (i := 10) (v := .bool true) ?_; (try simp only [Act.put, jjA, jjZ, jjS])
      refine otk (i := 11) (v := .bool true) ?_; (try simp only [Act.put, jjA, jjZ, jjS])
      refine otk (i := 12) (v := .bool true) ?_; (try simp only [Act.put, jjA, jjZ, jjS])
      refine otk (i := 13) ?_; (try simp only [Act.put, jjA, jjZ, jjS])
      refine otk (i := 14) ?_; (try simp only [Act.put, jjA, jjZ, jjS])
      refine tk (i := 15) (hy := yieldsIf_load_mid (by rfl) _ _ rfl _ _ rfl (nums .u16 (x.past)) _ ?_ Try.underlying30 rfl (infoV HX.out.1.1)) (h := ?_); (focus (intro w hSw; (try dsimp only at hSw); go_split_ands; assumption)); (try simp only [Act.put, jjA, jjZ, jjS])
      refine tk (i := 16) (hy := yieldsIf_load_mid (by rfl) _ _ rfl _ _ rfl (nums .u16 told) _ ?_ Try.underlying30 rfl (infoV HT.out.1)) (h := ?_); (focus (intro w hSw; (try dsimp only at hSw); go_split_ands; assumption)); (try simp only [Act.put, jjA, jjZ, jjS])
      refine wpAnyH_ready (rs := [17]) (by kernel_rfl) (by simp) ?_; refine AllReadyH.cons (by simp only [List.getElem?_toArray, List.getElem?_cons_succ, List.getElem?_cons_zero]; rfl) (fun K hK => ?_) AllReadyH.nil; go_simp; go_at_call 11; refine ownS_call (oh HH) ?_; intro ht; refine (below_calls _ x.past told HX.out.1 HT.out).mono ?_; rintro e w4 ⟨rfl, hb⟩; replace HH : Aside0 (OwnS (fun _ => False) [Sep.blk g1 (vecC told) 30, Sep.blk g2 (itC x) 56] w w4) := ⟨OwnS.step ht hb⟩; clear hb; clear ht; refine hK.out _ _ ?_ (fun hHeld2 => ?_); (focus (try dsimp only); (exact HKV.out _ (oh HH))); clear hK K hHeld; rename _ => hHeld; (try dsimp only at hHeld); (try simp only [Act.put, jjA, jjZ, jjS])
      refine otk (i := 18) ?_; (try simp only [Act.put, jjA, jjZ, jjS])
      refine otk (i := 19) ?_; (try simp only [Act.put, jjA, jjZ, jjS])
      refine wpAnyH_done (by kernel_rfl) ?_ _
      go_wp2_with fail
      go_ret
      exact ⟨by rw [HR.out, decide_eq_true HNQ.out, Bool.true_and]; rfl, below_frm (OwnS.frm HH.out)⟩
    · have hb1 : (n == q) = false := by simp [hnq]
      have HNQ := Aside0.mk hnq
      clear hnq
      go_enter Try.func31, Try.ntmps31
      go_wp2_with (first
        | ((with_reducible refine gate_dst (N := 2) rfl ?_); refine evS_box (oh HH) rfl (cs := vecC told) (T := 30) ?_ ?_; (focus first | (go_simp; done) | (go_simp; rfl)); intro g1 w1 he hh; clear he; replace HH : Aside0 (OwnS (fun _ => False) [Sep.blk g1 (vecC told) 30] w w1) := ⟨hh⟩; clear hh)
        | ((with_reducible refine gate_dst (N := 3) rfl ?_); refine evS_box (oh HH) rfl (cs := itC x) (T := 56) ?_ ?_; (focus first | (go_simp; done) | (go_simp; rfl)); intro g2 w2 he hh; clear he; replace HH : Aside0 (OwnS (fun _ => False) [Sep.blk g1 (vecC told) 30, Sep.blk g2 (itC x) 56] w w2) := ⟨hh⟩; clear hh)
        | fail
        | fail)
      have HKV : Aside0 (∀ w' : World, OwnS (fun _ => False) [Sep.blk g1 (vecC told) 30, Sep.blk g2 (itC x) 56] w w' → (w'.rangeAt g2 0 (itC x).toList ∧ w'.cell? ⟨g2, 0, none⟩ = some (.int .u8 f) ∧ w'.cell? ⟨g2, 1, none⟩ = some (.int .i64 q) ∧ w'.rangeAt g1 0 (nums .u16 told) ∧ w'.cell? ⟨g1, f.toNat, none⟩ = some (.int .u16 n) ∧ w'.rangeAt g2 3 (nums .u16 x.past))) := ⟨fun W h => ⟨range_it HX.out.1.1 (OwnS.blk h 1 rfl), (by rw [← HFX.out]; exact blk_cell (OwnS.blk h 1 rfl) 0), (by rw [← HQX.out]; exact blk_cell (OwnS.blk h 1 rfl) 1), range_vec HT.out.1 (OwnS.blk h 0 rfl), (by rw [← HN.out]; exact (blk_cell (OwnS.blk h 0 rfl) f.toNat).trans (vecC_at _ f.toNat (by rw [HT.out.1]; exact HF.out))), range_past HX.out.1.1 (OwnS.blk h 1 rfl)⟩⟩
      refine wp_region_held_drew (S := fun w' => w'.rangeAt g2 0 (itC x).toList ∧ w'.cell? ⟨g2, 0, none⟩ = some (.int .u8 f) ∧ w'.cell? ⟨g2, 1, none⟩ = some (.int .i64 q) ∧ w'.rangeAt g1 0 (nums .u16 told) ∧ w'.cell? ⟨g1, f.toNat, none⟩ = some (.int .u16 n) ∧ w'.rangeAt g2 3 (nums .u16 x.past)) (by kernel_rfl) ?_ (fun hHeld => ?_)
      focus (try dsimp only); (exact HKV.out _ (oh HH))
      (try dsimp only at hHeld)
      refine tk (i := 0) (hy := yieldsIf_load_mid (by rfl) _ _ rfl _ _ rfl ((itC x).toList) _ ?_ Try.underlying56 rfl (by rw [Array.length_toList, (itC_size _ HX.out.1.1)]; kernel_rfl)) (h := ?_); (focus (intro w hSw; (try dsimp only at hSw); go_split_ands; assumption)); (try simp only [Act.put, jjA, jjZ, jjS])
      refine wpAnyH_ready (rs := [1]) (by kernel_rfl) (by simp) ?_; refine AllReadyH.cons (by simp only [List.getElem?_toArray, List.getElem?_cons_succ, List.getElem?_cons_zero]; rfl) (fun K hK => ?_) AllReadyH.nil; go_simp; go_at_call 29; refine ownS_call (oh HH) ?_; intro ht; refine (imay_calls _ x HX.out).mono ?_; rintro e w3 ⟨rfl, hb⟩; rw [HM.out]; replace HH : Aside0 (OwnS (fun _ => False) [Sep.blk g1 (vecC told) 30, Sep.blk g2 (itC x) 56] w w3) := ⟨OwnS.step ht hb⟩; clear hb; clear ht; refine hK.out _ _ ?_ (fun hHeld2 => ?_); (focus (try dsimp only); (exact HKV.out _ (oh HH))); clear hK K hHeld; rename _ => hHeld; (try dsimp only at hHeld); (try simp only [Act.put, jjA, jjZ, jjS])
      refine otk (i := 2) ?_; (try simp only [Act.put, jjA, jjZ, jjS])
      refine otk (i := 3) ?_; (try simp only [Act.put, jjA, jjZ, jjS])
      refine otk (i := 4) ?_; (try simp only [Act.put, jjA, jjZ, jjS])
      refine otk (i := 5) ?_; (try simp only [Act.put, jjA, jjZ, jjS])
      refine otk (i := 6) ?_; (try simp only [Act.put, jjA, jjZ, jjS])
      refine otk (i := 7) ?_; (try simp only [Act.put, jjA, jjZ, jjS])
      refine otk (i := 8) ?_; (try simp only [Act.put, jjA, jjZ, jjS])
      refine otk (i := 9) ?_; (try simp only [Act.put, jjA, jjZ, jjS])
      refine otk (i := 10) (v := .bool false) ?_; (try simp only [Act.put, jjA, jjZ, jjS])
      refine otk (i := 11) (v := .bool false) ?_; (try simp only [Act.put, jjA, jjZ, jjS])
      refine otk (i := 12) (v := .bool false) ?_; (try simp only [Act.put, jjA, jjZ, jjS])
      refine tk (i := 13) (v := undef) (hy := Or.inr ⟨by rfl, rfl⟩) (h := ?_); (try simp only [Act.put, jjA, jjZ, jjS])
      refine tk (i := 14) (v := undef) (hy := Or.inr ⟨by rfl, rfl⟩) (h := ?_); (try simp only [Act.put, jjA, jjZ, jjS])
      refine tk (i := 15) (v := undef) (hy := Or.inr ⟨by rfl, rfl⟩) (h := ?_); (try simp only [Act.put, jjA, jjZ, jjS])
      refine tk (i := 16) (v := undef) (hy := Or.inr ⟨by rfl, rfl⟩) (h := ?_); (try simp only [Act.put, jjA, jjZ, jjS])
      refine tk (i := 17) (v := undef) (hy := Or.inr ⟨by rfl, rfl⟩) (h := ?_); (try simp only [Act.put, jjA, jjZ, jjS])
      refine otk (i := 18) ?_; (try simp only [Act.put, jjA, jjZ, jjS])
      refine otk (i := 19) ?_; (try simp only [Act.put, jjA, jjZ, jjS])
      refine wpAnyH_done (by kernel_rfl) ?_ _
      go_wp2_with fail
      go_ret
      exact ⟨by rw [HR.out, decide_eq_false HNQ.out, Bool.false_and]; rfl, below_frm (OwnS.frm HH.out)⟩
end Go.Proofs.Ytbaknecnkipooaa.Hld
