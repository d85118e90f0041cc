/- append(bytes, text...); bytes as a string. -/
import Derived.Test.YtbaknecnkipooaaM12
namespace Go.Proofs.Ytbaknecnkipooaa.Tld
open Go Go.RowKit Go.Proofs.YtbaknecnkipooaaW.PrintWords Go.Proofs.Ytbaknecnkipooaa.Sep Go.Proofs.Ytbaknecnkipooaa.Obj
set_option linter.unusedVariables false
set_option linter.unusedSimpArgs false
theorem reps_int {k : IntKind} : ∀ {xs : List Int} {cs : List Value}, Reps (fun (x : Int) c => c = [Value.int k x]) 1 xs cs → cs = nums k xs
  | [], cs, h => List.eq_nil_of_length_eq_zero (by simpa using h.1)
  | x :: r, cs, h => by
    cases cs with
    | nil => have := h.1; simp at this
    | cons c cr =>
      have h0 := h.2 0 x rfl
      simp at h0
      have hr : Reps (fun (x : Int) c => c = [Value.int k x]) 1 r cr := ⟨by have := h.1; simp at this ⊢; exact this, fun j p hj => by
        have := h.2 (j + 1) p (by simpa using hj)
        simpa [Nat.add_mul] using this⟩
      rw [reps_int hr, h0]
      rfl
theorem int_reps (k : IntKind) : ∀ (xs : List Int), Reps (fun (x : Int) c => c = [Value.int k x]) 1 xs (nums k xs)
  | [] => ⟨rfl, fun j p hj => by simp at hj⟩
  | x :: r => ⟨by simp [nums], fun j p hj => by
      cases j with
      | zero => simp at hj; subst hj; rfl
      | succ j => simpa [Nat.add_mul, nums] using (int_reps k r).2 j p (by simpa using hj)⟩
theorem R_nums {e : Nat} {w : World} {base : Nat} {ok : Nat → Prop} {v : Value} {xs : List Int} (h : (Kd.int .u8).R e w base ok v xs) : w.ownsRow base e 1 v xs.length (nums .u8 xs) := by
  obtain ⟨_, inner, ho, hr⟩ := h
  have : inner = nums .u8 xs := reps_int hr
  rw [this] at ho
  exact ho
theorem nums_R {e : Nat} {w : World} {base : Nat} {ok : Nat → Prop} {v : Value} {xs : List Int} (h : w.ownsRow base e 1 v xs.length (nums .u8 xs)) (hok : ∀ k, v.ownBlock = some k → ok k) : (Kd.int .u8).R e w base ok v xs :=
  ⟨hok, nums .u8 xs, h, int_reps .u8 xs⟩
theorem nums_str (xs : List Int) (y : ByteArray) : nums .u8 (xs ++ bytesOf y) = nums .u8 xs ++ Lib.strCells y := by
  rw [nums_append]
  congr 1
  simp [nums, bytesOf, Lib.strCells]
section
variable {P : Program}
theorem app_str (W : World) (t u ty e : TypeId) (i : TypeInfo) (ht : P.underlying t = some (.slice e)) (hu : P.underlying u = some .string) (hi : P.info? e = some i) (hz : i.zero = some (.int .u8 0)) (hsize : i.size = 1) (hby : i.bytes = 1)
    {ok : Nat → Prop} {v : Value} {xs : List Int} (h : (Kd.int .u8).R e W 0 ok v xs) (y : ByteArray) (hl : xs.length + y.size ≤ 140737488355328) :
    ∃ A c w', (Builtin.append_ #[t, u] ty #[v, .string y]).run P W = .ok (.slice A (xs ++ bytesOf y).length c) w' ∧ (Kd.int .u8).R e w' 0 (fun k => ok k ∨ (W.heap.size ≤ k ∧ k < w'.heap.size)) (.slice A (xs ++ bytesOf y).length c) (xs ++ bytesOf y) ∧ Frm ok W w' := by
  have hown := R_nums h
  have hlen : (xs ++ bytesOf y).length = xs.length + y.size := by rw [List.length_append, bytesOf_length]
  have h63 : xs.length + y.size ≤ maxLen := by unfold maxLen; omega
  have mk : ∀ v1 w1, w1.ownsRow W.heap.size e 1 v1 (xs.length + y.size) (nums .u8 xs ++ Lib.strCells y) → Frm ok W w1 → (Builtin.append_ #[t, u] ty #[v, .string y]).run P W = .ok v1 w1 →
      ∃ A c w', (Builtin.append_ #[t, u] ty #[v, .string y]).run P W = .ok (.slice A (xs ++ bytesOf y).length c) w' ∧ (Kd.int .u8).R e w' 0 (fun k => ok k ∨ (W.heap.size ≤ k ∧ k < w'.heap.size)) (.slice A (xs ++ bytesOf y).length c) (xs ++ bytesOf y) ∧ Frm ok W w' := by
    intro v1 w1 ho hf hr
    rw [← hlen, ← nums_str] at ho
    obtain ⟨A, c, rfl⟩ := own_slice ho
    exact ⟨A, c, w1, hr, Kd.R_lower (nums_R ho (fun k hk => .inr ⟨own_base ho k hk, own_lt ho k hk⟩)) (Nat.zero_le _), hf⟩
  have hh := hown
  rcases hown.2 with ⟨hv, hn0⟩ | ⟨g, cap, cur, hv, hb, hg, hnc, hcm, hcs, htk⟩
  · subst hv
    have hx : xs = [] := List.eq_nil_of_length_eq_zero hn0
    subst hx
    obtain ⟨v1, w1, hr, ho, hgr, _⟩ := Lib.run_append_own_string (P := P) W W.heap.size t u ty e i ht hu hi hz hsize hby (.slice none 0 0) 0 [] (World.ownsRow_nil W _ e 1) y (by simpa using h63) (by simpa using hl) (Nat.le_refl _)
    exact mk v1 w1 (by simpa [nums] using ho) (Frm.grown hgr (fun k hk => by simp [Value.ownBlock] at hk)) hr
  · subst hv
    have hokg : ok g := h.1 g (by simp [Value.ownBlock])
    by_cases hroom : xs.length + y.size ≤ cap
    · have hfit : xs.length + y.size ≤ cur.size := by omega
      have hr := Lib.run_append_room_string (P := P) W t u ty e i ht hu hi hsize g xs.length cap cur hg y hroom hfit
      have hcl : cur.toList.length = cur.size := Array.length_toList
      have hx : cur.toList.take xs.length = nums .u8 xs := by rw [← htk]; simp
      obtain ⟨ncs, hncs⟩ : ∃ ncs, (cur.toList.take xs.length ++ Lib.strCells y ++ cur.toList.drop (xs.length + y.size)).toArray = ncs := ⟨_, rfl⟩
      rw [hncs] at hr
      have hb1 := setRow_heap W g cur ncs e (0, 0) hg
      refine ⟨some ⟨g, 0, none⟩, cap, _, by rw [hlen]; exact hr, nums_R ⟨by simp [nums], .inr ⟨g, cap, _, by rw [hlen], Nat.zero_le _, hb1, by rw [hlen]; exact hroom, hcm, ?_, ?_⟩⟩ (fun k hk => .inl (by simp [Value.ownBlock] at hk; subst hk; exact hokg)), ?_⟩
      · rw [← hncs]
        simp only [List.size_toArray, List.length_append, List.length_take, List.length_drop, hcl, Lib.strCells_length]
        omega
      · rw [← hncs, hlen, nums_str, hx, List.toList_toArray, Nat.mul_one]
        exact List.take_left' (by simp [nums, Lib.strCells_length])
      · exact ⟨rfl, rfl, rfl, by simp [World.setRow], fun k _ hn => setRow_other W g k ncs (fun e => hn (e ▸ hokg))⟩
    · obtain ⟨hx1, hx2⟩ := (⟨hh.1, trivial⟩ : _ ∧ True)
      have hcells : ∀ j q, (nums .u8 xs)[j]? = some q → W.cell? ((⟨g, 0, none⟩ : Addr).add j) = some q := fun j q hj => by
        rw [Addr.add_mid, Nat.zero_add, cell_of_row W g _ cur e (0, 0) hg, ← Array.getElem?_toList]
        have hjl := (List.getElem?_eq_some_iff.1 hj).1
        rw [← htk, List.getElem?_take] at hj
        split at hj
        · exact hj
        · cases hj
      have hr := Lib.run_append_grow_string (P := P) W t u ty e i (.int .u8 0) ht hu hi hz ⟨g, 0, none⟩ xs.length cap (nums .u8 xs) (by rw [hx1, hsize]) hcells y (by omega) (by unfold maxLen at h63; omega) (growslice_fits (by omega) (by rw [hby]; omega))
      have hge := grownCap_ge W (xs.length + y.size) cap e
      have hcm2 : grownCap W (xs.length + y.size) cap e ≤ maxLen := grownCap_le_maxLen W (xs.length + y.size) cap e h63
      refine mk _ _ ⟨by rw [List.length_append, Lib.strCells_length]; simp [nums], .inr ⟨W.heap.size, _, _, rfl, Nat.le_refl _, heap_alloc_new W.drew _, hge, hcm2, ?_, ?_⟩⟩ ⟨rfl, rfl, rfl, by simp, fun k hk _ => Go.heap_alloc_old W.drew _ (by simpa using hk)⟩ hr
      · have hz1 : (Value.int IntKind.u8 0).cells.size = 1 := rfl
        simp only [Array.size_append, List.size_toArray, size_zeroCells, hz1, Lib.strCells_length]
        simp [nums]
        omega
      · simp only [Array.toList_append, List.append_assoc]
        rw [← List.append_assoc]
        exact List.take_left' (by simp [nums, Lib.strCells_length])
end
end Go.Proofs.Ytbaknecnkipooaa.Tld
