/- What members say, each as it knew: plain data; all of it is told in the end. -/
import Derived.Test.YtbaknecnkipooaaM34
import Derived.Test.YtbaknecnkipooaaM35
namespace Go.Proofs.Ytbaknecnkipooaa.Hld
open Go Go.RowKit Go.Proofs.YtbaknecnkipooaaW.PrintWords Go.Proofs.Ytbaknecnkipooaa.Sep Go.Proofs.Ytbaknecnkipooaa.Obj
set_option linter.unusedVariables false
set_option linter.unusedSimpArgs false
def cnt (H : List It) (i j : Nat) : Int := (((H.take i).countP (fun y => y.frm.toNat == j) : Nat) : Int)
theorem cnt_zero (H : List It) (j : Nat) : cnt H 0 j = 0 := by simp [cnt]
theorem cnt_succ {H : List It} {i : Nat} (hi : i < H.length) (j : Nat) : cnt H (i + 1) j = cnt H i j + if H[i].frm.toNat = j then 1 else 0 := by
  unfold cnt
  rw [← List.take_append_getElem hi, List.countP_append]
  by_cases h : H[i].frm.toNat = j
  · rw [if_pos h]; simp [h]
  · rw [if_neg h]; simp [h]
theorem cnt_mono (H : List It) (j : Nat) {i k : Nat} (h : i ≤ k) : cnt H i j ≤ cnt H k j := by
  unfold cnt
  have : (H.take i).Sublist (H.take k) := by
    rw [show H.take i = (H.take k).take i by rw [List.take_take]; congr 1; omega]
    exact List.take_sublist _ _
  exact Int.ofNat_le.2 (List.Sublist.countP_le this)
theorem cnt_le (H : List It) (i j : Nat) : cnt H i j ≤ (i : Int) := by
  unfold cnt
  have h1 := List.countP_le_length (l := H.take i) (p := fun y => y.frm.toNat == j)
  have h2 : (H.take i).length ≤ i := by simp; omega
  omega
theorem cnt_nonneg (H : List It) (i j : Nat) : 0 ≤ cnt H i j := by unfold cnt; omega
theorem cnt_app {H G : List It} {i : Nat} (hi : i ≤ H.length) (j : Nat) : cnt (H ++ G) i j = cnt H i j := by
  unfold cnt
  rw [List.take_append_of_le_length hi]
structure Caus (H : List It) : Prop where
  ok : ∀ x ∈ H, okI x
  cmp : ∀ x ∈ H, okK x
  right : ∀ x ∈ H, rightI x = true
  seq : ∀ (i : Nat) (hi : i < H.length), H[i].seq = cnt H i H[i].frm.toNat
  past : ∀ (i : Nat) (hi : i < H.length) (j : Nat), j < 16 → H[i].past.getD j 0 ≤ cnt H i j
theorem Caus.apart {H : List It} (h : Caus H) : Apart H := by
  unfold Apart
  rw [List.pairwise_iff_getElem]
  intro i j hi hj hij
  cases e : same H[i] H[j] with
  | false => rfl
  | true =>
    obtain ⟨h1, h2⟩ := same_iff.1 e
    rw [h.seq i hi, h.seq j hj, ← h1] at h2
    have h3 := cnt_succ hi H[i].frm.toNat
    rw [if_pos rfl] at h3
    have h4 := cnt_mono H H[i].frm.toNat (show i + 1 ≤ j from hij)
    omega
structure AllI (pre : List It) (t : List Int) (wl : List It) : Prop where
  ok : okV t
  right : rightH t wl = true
  its : ∀ y ∈ wl, y ∈ pre
  all : ∀ y ∈ pre, y.seq < ofT t y ∨ y ∈ wl
  old : ∀ (f : Nat), f < 16 → ∀ (s : Int), 0 ≤ s → s < t.getD f 0 → ∃ y ∈ pre, y.frm.toNat = f ∧ y.seq = s
  sum : sumD t z16 16 + (wl.length : Int) = (pre.length : Int)
theorem AllI.start : AllI [] z16 [] := ⟨ok_z, by kernel_rfl, fun y hy => (by cases hy), fun y hy => (by cases hy), fun f hf s h0 h1 => (by rw [z16_at] at h1; omega), by decide⟩
theorem right_seq0 {x : It} (hx : okI x) (h : rightI x = true) : 0 ≤ x.seq := by
  have hf := right_frm hx h
  unfold rightI rightB at h
  rw [Bool.and_eq_true] at h
  have h1 := of_decide_eq_true h.2
  have h2 := okV_at hx.1 x.frm.toNat hf.1
  omega
theorem AllI.put {pre : List It} {t : List Int} {wl : List It} {x : It} (h : AllI pre t wl) (hp : ∀ y ∈ pre, okI y) (hx : okI x) (hr : rightI x = true) (ha : ∀ y ∈ pre, same y x = false) (hl : pre.length < 64) :
    (putH t wl x).2 = 0 ∧ AllI (pre ++ [x]) (putH t wl x).1.1 (putH t wl x).1.2.1 ∧ sumD (putH t wl x).1.1 z16 16 = sumD t z16 16 + ((putH t wl x).1.2.2.length : Int) := by
  have hf := right_frm hx hr
  have hw : ∀ y ∈ wl, okI y := fun y hy => hp y (h.its y hy)
  have hs := sumD_nonneg h.ok 16 (Nat.le_refl _)
  have hsum := h.sum
  have h1 : ofT t x ≤ x.seq := by
    by_cases hlt : x.seq < ofT t x
    · obtain ⟨y, hy, h2, h3⟩ := h.old x.frm.toNat hf.1 x.seq (right_seq0 hx hr) hlt
      have h4 := ha y hy
      have h0 : 0 ≤ y.frm := (hp y hy).2.1.1
      rw [same_iff.2 ⟨by omega, h3⟩] at h4
      cases h4
    · omega
  have h2 : isIn wl x = false := isIn_no.2 (fun y hy => ha y (h.its y hy))
  have hlen : (pre ++ [x]).length = pre.length + 1 := by simp
  cases hry : readyB t x with
  | false =>
    have he := putH_new h.right hr h1 h2 hry (by omega)
    have hR := put_right h.ok hw hx h.right (by rw [he]; exact ((right_iff _ _).1 h.right).1)
    rw [he] at hR ⊢
    refine ⟨rfl, ⟨h.ok, hR, fun y hy => ?_, fun y hy => ?_, fun f hf s h0 h3 => ?_, ?_⟩, by simp⟩
    · rcases List.mem_append.1 hy with hy | hy
      · exact List.mem_append_left _ (h.its y hy)
      · exact List.mem_append_right _ hy
    · rcases List.mem_append.1 hy with hy | hy
      · rcases h.all y hy with h3 | h3
        · exact .inl h3
        · exact .inr (List.mem_append_left _ h3)
      · exact .inr (List.mem_append_right _ hy)
    · obtain ⟨y, hy, h4⟩ := h.old f hf s h0 h3
      exact ⟨y, List.mem_append_left _ hy, h4⟩
    · rw [hlen]; simp; omega
  | true =>
    have he := putH_ready h.right hr h1 h2 hry
    have hd := put_dr h.ok hw hx (by rw [he])
    have htr := sumD_trans (putH t wl x).1.1 t z16 16
    have hds := hd.sum
    have hdl := hd.len
    have hn : ∀ n ∈ (putH t wl x).1.1, n ≤ 1000 := fun n hn => by
      have := sum_all hd.ok (k := 1000) (by omega) n hn
      exact this
    have hR := put_right h.ok hw hx h.right hn
    have key : (∀ y ∈ pre ++ [x], y.seq < ofT (drain wl.length (inc t x) wl [x]).1 y ∨ y ∈ (drain wl.length (inc t x) wl [x]).2.1) ∧ (∀ y ∈ (drain wl.length (inc t x) wl [x]).2.1, y ∈ pre ++ [x]) ∧
        (okV (drain wl.length (inc t x) wl [x]).1 ∧ ∀ (f : Nat), f < 16 → ∀ (s : Int), 0 ≤ s → s < (drain wl.length (inc t x) wl [x]).1.getD f 0 → ∃ y ∈ pre ++ [x], y.frm.toNat = f ∧ y.seq = s) := by
      have hpx : ∀ y ∈ pre ++ [x], okI y := fun y hy => (List.mem_append.1 hy).elim (hp y) (fun e => by rw [List.mem_singleton.1 e]; exact hx)
      have step : ∀ (t : List Int) (z : It), okV t → z ∈ pre ++ [x] → readyB t z = true → ∀ (f : Nat), f < 16 → (∀ (s : Int), 0 ≤ s → s < t.getD f 0 → ∃ y ∈ pre ++ [x], y.frm.toNat = f ∧ y.seq = s) → ∀ (s : Int), 0 ≤ s → s < (inc t z).getD f 0 → ∃ y ∈ pre ++ [x], y.frm.toNat = f ∧ y.seq = s := by
        intro t z ht hz hrz f hf ho s h0 h3
        have hzf := right_frm (hpx z hz) (ready_right hrz).1
        rw [inc_at ht.1 hzf.1] at h3
        split at h3
        · rename_i hfz
          have hof := (ready_right hrz).2.1
          unfold ofT at hof
          rw [← hfz] at hof
          by_cases hs : s < t.getD f 0
          · exact ho s h0 hs
          · exact ⟨z, hz, hfz.symm, by omega⟩
        · exact ho s h0 h3
      refine drain_ind (fun t w o => (∀ y ∈ pre ++ [x], y.seq < ofT t y ∨ y ∈ w) ∧ (∀ y ∈ w, y ∈ pre ++ [x]) ∧ (okV t ∧ ∀ (f : Nat), f < 16 → ∀ (s : Int), 0 ≤ s → s < t.getD f 0 → ∃ y ∈ pre ++ [x], y.frm.toNat = f ∧ y.seq = s)) ?_ wl.length (inc t x) wl [x] ?_
      · intro t w o i hi hri hall
        obtain ⟨g1, g2, g3, g4⟩ := hall
        have hz := g2 _ (List.getElem_mem hi)
        have hzf := right_frm (hpx _ hz) (ready_right hri).1
        have hof := (ready_right hri).2.1
        refine ⟨fun y hy => ?_, fun y hy => g2 y (mem_erase hy), inc_ok g3 (hpx _ hz) hri, fun f hf => step t _ g3 hz hri f hf (g4 f hf)⟩
        have hm : ofT t y ≤ ofT (inc t w[i]) y := by
          unfold ofT
          rw [inc_at g3.1 hzf.1]
          split <;> omega
        rcases g1 y hy with h3 | h3
        · exact .inl (by omega)
        · obtain ⟨k, hk, rfl⟩ := List.getElem_of_mem h3
          by_cases hki : k = i
          · subst hki
            refine .inl ?_
            have h9 := inc_at (y := w[k]) g3.1 hzf.1 w[k].frm.toNat
            rw [if_pos rfl] at h9
            unfold ofT at hof ⊢
            rw [h9]
            omega
          · exact .inr (List.mem_eraseIdx_iff_getElem.2 ⟨k, hk, hki, rfl⟩)
      · have hof := (ready_right hry).2.1
        refine ⟨fun y hy => ?_, fun y hy => List.mem_append_left _ (h.its y hy), inc_ok h.ok hx hry, fun f hf => step t x h.ok (List.mem_append_right _ (List.mem_singleton.2 rfl)) hry f hf (fun s h0 h3 => ?_)⟩
        · have hm : ofT t y ≤ ofT (inc t x) y := by
            unfold ofT
            rw [inc_at h.ok.1 hf.1]
            split <;> omega
          rcases List.mem_append.1 hy with hy | hy
          · rcases h.all y hy with h3 | h3
            · exact .inl (by omega)
            · exact .inr h3
          · rw [List.mem_singleton.1 hy]
            refine .inl ?_
            have h9 := inc_at (y := x) h.ok.1 hf.1 x.frm.toNat
            rw [if_pos rfl] at h9
            unfold ofT at hof ⊢
            rw [h9]
            omega
        · obtain ⟨y, hy, h4⟩ := h.old f hf s h0 h3
          exact ⟨y, List.mem_append_left _ hy, h4⟩
    rw [he] at hR hds hdl htr ⊢
    refine ⟨rfl, ⟨key.2.2.1, hR, key.2.1, key.1, key.2.2.2, ?_⟩, ?_⟩
    · simp only at hds hdl htr ⊢
      rw [hlen]
      omega
    · simp only at hds hdl htr ⊢
      omega
theorem AllI.done {H pre : List It} {t : List Int} {wl : List It} (h : AllI pre t wl) (hC : Caus H) (hm : ∀ y, y ∈ pre ↔ y ∈ H) : wl = [] := by
  cases hw : wl with
  | nil => rfl
  | cons z r =>
    exfalso
    have hz : z ∈ wl := by rw [hw]; exact List.mem_cons_self
    obtain ⟨i, hi⟩ : ∃ i, H.findIdx? (fun y => decide (y ∈ wl)) = some i := by
      cases e : H.findIdx? (fun y => decide (y ∈ wl)) with
      | some i => exact ⟨i, rfl⟩
      | none =>
        have := List.findIdx?_eq_none_iff.1 e z ((hm z).1 (h.its z hz))
        simp [hz] at this
    obtain ⟨hlt, h1, h2⟩ := List.findIdx?_eq_some_iff_getElem.1 hi
    have hx : H[i] ∈ wl := of_decide_eq_true h1
    have hno : ∀ k (hk : k < H.length), k < i → H[k] ∉ wl := fun k hk hki => by simpa using h2 k hki
    have hge : ∀ k, k ≤ i → ∀ j, cnt H k j ≤ t.getD j 0 ∨ 16 ≤ j := by
      intro k
      induction k with
      | zero =>
        intro _ j
        rw [cnt_zero]
        rcases Nat.lt_or_ge j 16 with hj | hj
        · exact .inl (okV_at h.ok j hj).1
        · exact .inr hj
      | succ k ih =>
        intro hk j
        have hk' : k < H.length := by omega
        rw [cnt_succ hk' j]
        rcases ih (by omega) j with h3 | h3
        · split
          · rename_i hf
            rcases h.all _ ((hm H[k]).2 (List.getElem_mem hk')) with h4 | h4
            · unfold ofT at h4
              rw [hf, hC.seq k hk', hf] at h4
              exact .inl (by omega)
            · exact absurd h4 (hno k hk' (by omega))
          · exact .inl (by omega)
        · exact .inr h3
    obtain ⟨g1, g2, g3⟩ := ((right_iff _ _).1 h.right).2.2.1 _ hx
    have hxm := List.getElem_mem hlt
    have hf := right_frm (hC.ok _ hxm) g1
    have hrd : readyB t H[i] = true := by
      unfold readyB
      rw [g1]
      have h5 : t.getD H[i].frm.toNat 0 = H[i].seq := by
        unfold ofT at g2
        have h6 := hC.seq i hlt
        rcases hge i (Nat.le_refl _) H[i].frm.toNat with h7 | h7 <;> omega
      rw [decide_eq_true h5]
      simp only [Bool.true_and]
      refine belL_true (fun j hj => ?_)
      have h6 := hC.past i hlt j hj
      rcases hge i (Nat.le_refl _) j with h7 | h7 <;> omega
    rw [hrd] at g3
    cases g3
end Go.Proofs.Ytbaknecnkipooaa.Hld
