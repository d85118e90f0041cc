/- '==' of items. Plain laws of Put and of holds. -/
import Derived.Test.YtbaknecnkipooaaM26
import Derived.Test.YtbaknecnkipooaaM20
namespace Go.Proofs.Ytbaknecnkipooaa.Hld
open Go Go.RowKit Go.Maps Go.Proofs.YtbaknecnkipooaaW.PrintWords Go.Proofs.Ytbaknecnkipooaa.Mp Go.Proofs.Ytbaknecnkipooaa.Sep Go.Proofs.Ytbaknecnkipooaa.Obj
set_option linter.unusedVariables false
set_option linter.unusedSimpArgs false
def litB (k : Int) (v : List Int) (t : ByteArray) : List Lit := .int .i64 k :: (v.map (Lit.int .u16) ++ [.string t.data.toList])
set_option maxRecDepth 100000 in
theorem cellsBodR : Try.prog.cellsOf 38 = 18 := by kernel_rfl
set_option maxRecDepth 100000 in
theorem cellsS : Try.prog.cellsOf 9 = 1 := by kernel_rfl
def okK (x : It) : Prop := WI .i64 x.seq ∧ WI .i64 x.kind
def eqI (x y : It) : Bool := decide (x.frm = y.frm) && decide (x.seq = y.seq) && decide (x.kind = y.kind) && decide (x.past = y.past) && decide (x.text.data.toList = y.text.data.toList)
set_option maxRecDepth 100000 in
theorem eqI_iff (x y : It) : eqI x y = true ↔ x = y := by
  obtain ⟨f, s, k, v, t⟩ := x
  obtain ⟨f', s', k', v', t'⟩ := y
  simp only [eqI, Bool.and_eq_true, decide_eq_true_eq, It.mk.injEq, Array.toList_inj, and_assoc]
  constructor
  · rintro ⟨h1, h2, h3, h4, h5⟩; exact ⟨h1, h2, h3, h4, ByteArray.ext h5⟩
  · rintro ⟨h1, h2, h3, h4, h5⟩; exact ⟨h1, h2, h3, h4, congrArg ByteArray.data h5⟩
set_option maxRecDepth 100000 in
theorem lits_bodyR (M : Nat) (k : Int) (v : List Int) (t : ByteArray) (hk : WI .i64 k) (hv : okV v) (ht : t.size ≤ maxLen) : Try.prog.keyLits (M + 3) 38 (bodC k v t).toList = some (litB k v t) := by
  obtain ⟨a0, a1, a2, a3, a4, a5, a6, a7, a8, a9, a10, a11, a12, a13, a14, a15, rfl⟩ := list16 v hv.1
  have e1 := (lits_int Try.underlying3 (M + 1) _ _).2 ⟨k, rfl, hk, rfl⟩
  have e2 := lits_arr Try.underlying30 Try.underlying27 cellsV cellsU M _ hv.1 (okV_wf hv)
  have e3 := (lits_str Try.underlying9 (M + 1) _ _).2 ⟨t, rfl, ht, rfl⟩
  unfold Program.keyLits
  simp only [Try.underlying38]
  simp only [nums, List.map_cons, List.map_nil] at e2
  simp [bodC, nums, cellsBodR, cellsI, cellsV, cellsS, e1, e2, e3, litB]
end Go.Proofs.Ytbaknecnkipooaa.Hld
namespace Go.Proofs.Ytbaknecnkipooaa.Hld
open Go Go.RowKit Go.Proofs.YtbaknecnkipooaaW.PrintWords Go.Proofs.Ytbaknecnkipooaa.Sep Go.Proofs.Ytbaknecnkipooaa.Obj
set_option linter.unusedVariables false
set_option linter.unusedSimpArgs false
theorem putH_err {told : List Int} {wait : List It} {x : It} (h : (putH told wait x).2 ≠ 0) : (putH told wait x).1 = (told, wait, []) := by
  unfold putH at h ⊢
  split
  · rfl
  · rename_i h1
    rw [if_neg h1] at h
    split
    · rfl
    · rename_i h2
      rw [if_neg h2] at h
      split
      · rename_i h3
        rw [if_pos h3] at h
        exact absurd rfl h
      · rename_i h3
        rw [if_neg h3] at h
        split
        · rfl
        · rename_i h4
          rw [if_neg h4] at h
          exact absurd rfl h
theorem putH_ok {told : List Int} {wait : List It} {x : It} (h : (putH told wait x).2 = 0) : rightH told wait = true ∧ rightI x = true ∧ ofT told x ≤ x.seq ∧ isIn wait x = false ∧
    ((readyB told x = true ∧ (putH told wait x).1 = drain wait.length (inc told x) wait [x]) ∨ (readyB told x = false ∧ wait.length < 64 ∧ (putH told wait x).1 = (told, wait ++ [x], []))) := by
  unfold putH at h ⊢
  split at h
  · cases h
  · rename_i h1
    rw [if_neg h1]
    split at h
    · cases h
    · rename_i h2
      rw [if_neg h2]
      have h3 : rightH told wait = true := by cases e : rightH told wait with
        | true => rfl
        | false => exact absurd (.inl e) h1
      have h4 : rightI x = true := by cases e : rightI x with
        | true => rfl
        | false => exact absurd (.inr e) h1
      have h5 : isIn wait x = false := by cases e : isIn wait x with
        | false => rfl
        | true => exact absurd (.inr e) h2
      have h6 : ofT told x ≤ x.seq := by
        have : ¬ x.seq < ofT told x := fun e => h2 (.inl e)
        omega
      refine ⟨h3, h4, h6, h5, ?_⟩
      split at h
      · rename_i h7
        rw [if_pos h7]
        exact .inl ⟨h7, rfl⟩
      · rename_i h7
        rw [if_neg h7]
        split at h
        · cases h
        · rename_i h8
          rw [if_neg h8]
          exact .inr ⟨by simpa using h7, by omega, rfl⟩
theorem putH_new {told : List Int} {wait : List It} {x : It} (h1 : rightH told wait = true) (h2 : rightI x = true) (h3 : ofT told x ≤ x.seq) (h4 : isIn wait x = false) (h5 : readyB told x = false) (h6 : wait.length < 64) : putH told wait x = ((told, wait ++ [x], []), 0) := by
  unfold putH
  rw [if_neg (by rw [h1, h2]; simp), if_neg (by rw [h4]; simp; omega), if_neg (by rw [h5]; simp), if_neg (by omega)]
theorem putH_ready {told : List Int} {wait : List It} {x : It} (h1 : rightH told wait = true) (h2 : rightI x = true) (h3 : ofT told x ≤ x.seq) (h4 : isIn wait x = false) (h5 : readyB told x = true) : putH told wait x = (drain wait.length (inc told x) wait [x], 0) := by
  unfold putH
  rw [if_neg (by rw [h1, h2]; simp), if_neg (by rw [h4]; simp; omega), if_pos h5]
theorem drain_ind (P : List Int → List It → List It → Prop) (hs : ∀ (told : List Int) (wait out : List It) (i : Nat) (hi : i < wait.length), readyB told wait[i] = true → P told wait out → P (inc told wait[i]) (wait.eraseIdx i) (out ++ [wait[i]])) :
    ∀ (n : Nat) (told : List Int) (wait out : List It), P told wait out → P (drain n told wait out).1 (drain n told wait out).2.1 (drain n told wait out).2.2
  | 0, told, wait, out, h => h
  | n + 1, told, wait, out, h => by
    rcases idx_cases (readyB told) wait with ⟨_, hno⟩ | ⟨i, hi, _, hr, hb⟩
    · rw [drain_no hno]; exact h
    · rw [drain_yes hi hr hb]
      exact drain_ind P hs n _ _ _ (hs told wait out i hi hr h)
theorem drain_end : ∀ (n : Nat) (told : List Int) (wait out : List It), wait.length ≤ n → ∀ y ∈ (drain n told wait out).2.1, readyB (drain n told wait out).1 y = false
  | 0, told, wait, out, h => by
    have : wait = [] := List.length_eq_zero_iff.1 (by omega)
    subst this
    simp [drain]
  | n + 1, told, wait, out, h => by
    rcases idx_cases (readyB told) wait with ⟨_, hno⟩ | ⟨i, hi, _, hr, hb⟩
    · rw [drain_no hno]
      intro y hy
      obtain ⟨j, hj, rfl⟩ := List.getElem_of_mem hy
      exact hno j hj
    · rw [drain_yes hi hr hb]
      exact drain_end n _ _ _ (by rw [List.length_eraseIdx]; simp [hi]; omega)
theorem ready_right {told : List Int} {y : It} (h : readyB told y = true) : rightI y = true ∧ ofT told y = y.seq ∧ belL y.past told = true := by
  unfold readyB at h
  rw [Bool.and_eq_true, Bool.and_eq_true] at h
  exact ⟨h.1.1, of_decide_eq_true h.1.2, h.2⟩
theorem right_frm {y : It} (hy : okI y) (h : rightI y = true) : y.frm.toNat < 16 ∧ 0 ≤ y.frm ∧ y.frm < 16 := by
  unfold rightI rightB at h
  rw [Bool.and_eq_true, Bool.and_eq_true] at h
  have h1 := of_decide_eq_true h.1.2
  have h0 : 0 ≤ y.frm := hy.2.1.1
  omega
theorem getD_set (l : List Int) (i j : Nat) (n : Int) (hi : i < l.length) : (l.set i n).getD j 0 = if j = i then n else l.getD j 0 := by
  by_cases e : j = i
  · subst e; simp [List.getD_eq_getElem?_getD, hi]
  · rw [if_neg e]
    simp [List.getD_eq_getElem?_getD, List.getElem?_set_ne (fun h => e h.symm)]
theorem inc_at {told : List Int} {y : It} (ht : told.length = 16) (hy : y.frm.toNat < 16) (j : Nat) : (inc told y).getD j 0 = if j = y.frm.toNat then told.getD j 0 + 1 else told.getD j 0 := by
  unfold inc ofT
  rw [getD_set _ _ _ _ (by omega)]
  split
  · rename_i h; rw [h]
  · rfl
def sumD (a b : List Int) : Nat → Int
  | 0 => 0
  | i + 1 => sumD a b i + (a.getD i 0 - b.getD i 0)
theorem sumD_inc {told : List Int} {y : It} (b : List Int) (ht : told.length = 16) (hy : y.frm.toNat < 16) : ∀ i, sumD (inc told y) b i = sumD told b i + if y.frm.toNat < i then 1 else 0
  | 0 => by simp [sumD]
  | i + 1 => by
    simp only [sumD, sumD_inc b ht hy i, inc_at ht hy]
    by_cases h1 : i = y.frm.toNat
    · rw [if_pos h1, if_neg (by omega), if_pos (by omega)]; omega
    · rw [if_neg h1]
      by_cases h2 : y.frm.toNat < i
      · rw [if_pos h2, if_pos (by omega)]; omega
      · rw [if_neg h2, if_neg (by omega)]; omega
theorem sumD_self (a : List Int) : ∀ i, sumD a a i = 0
  | 0 => rfl
  | i + 1 => by simp only [sumD, sumD_self a i]; omega
structure Dr (t0 : List Int) (n0 : Nat) (told : List Int) (wait out : List It) : Prop where
  ok : okV told
  its : ∀ y ∈ wait, okI y
  outs : ∀ y ∈ out, okI y
  len : out.length + wait.length = n0
  sum : sumD told t0 16 = (out.length : Int)
  le : ∀ j, j < 16 → t0.getD j 0 ≤ told.getD j 0
theorem mem_erase {α : Type} {l : List α} {i : Nat} {x : α} (h : x ∈ l.eraseIdx i) : x ∈ l := List.mem_of_mem_eraseIdx h
theorem Dr.step {t0 : List Int} {n0 : Nat} {told : List Int} {wait out : List It} (h : Dr t0 n0 told wait out) (y : It) (hy : okI y) (hr : readyB told y = true) {wait' : List It} (hw : ∀ z ∈ wait', z ∈ wait) (hl : (out ++ [y]).length + wait'.length = n0) : Dr t0 n0 (inc told y) wait' (out ++ [y]) := by
  have hf := right_frm hy (ready_right hr).1
  refine ⟨inc_ok h.ok hy hr, fun z hz => h.its z (hw z hz), fun z hz => ?_, hl, ?_, fun j hj => ?_⟩
  · rcases List.mem_append.1 hz with hz | hz
    · exact h.outs z hz
    · rw [List.mem_singleton.1 hz]; exact hy
  · rw [sumD_inc t0 h.ok.1 hf.1, if_pos hf.1, h.sum]; simp
  · rw [inc_at h.ok.1 hf.1]
    have := h.le j hj
    split <;> omega
theorem dr_drain {t0 : List Int} {n0 n : Nat} {told : List Int} {wait out : List It} (h : Dr t0 n0 told wait out) : Dr t0 n0 (drain n told wait out).1 (drain n told wait out).2.1 (drain n told wait out).2.2 :=
  drain_ind (Dr t0 n0) (fun told wait out i hi hr h => h.step _ (h.its _ (List.getElem_mem hi)) hr (fun z hz => mem_erase hz) (by have := h.len; rw [List.length_eraseIdx]; simp [hi]; omega)) n told wait out h
theorem put_dr {told : List Int} {wait : List It} {x : It} (ht : okV told) (hw : ∀ y ∈ wait, okI y) (hx : okI x) (h : (putH told wait x).2 = 0) : Dr told (wait.length + 1) (putH told wait x).1.1 (putH told wait x).1.2.1 (putH told wait x).1.2.2 := by
  have h0 : Dr told (wait.length + 1) told (wait ++ [x]) [] := ⟨ht, fun y hy => (List.mem_append.1 hy).elim (hw y) (fun e => by rw [List.mem_singleton.1 e]; exact hx), fun y hy => (by cases hy), by simp, sumD_self _ _, fun j _ => Int.le_refl _⟩
  obtain ⟨_, _, _, _, ⟨hr, h1⟩ | ⟨_, _, h1⟩⟩ := putH_ok h
  · rw [h1]
    exact dr_drain (h0.step x hx hr (fun z hz => List.mem_append_left _ hz) (by simp; omega))
  · rw [h1]
    exact h0
theorem same_comm (x y : It) : same x y = same y x := by
  unfold same
  congr 1 <;> simp [eq_comm]
theorem same_iff {x y : It} : same x y = true ↔ x.frm = y.frm ∧ x.seq = y.seq := by simp [same]
theorem isIn_no {l : List It} {x : It} : isIn l x = false ↔ ∀ y ∈ l, same y x = false := by simp [isIn, List.any_eq_false]
def Waits (told : List Int) (x : It) : Prop := rightI x = true ∧ ofT told x ≤ x.seq ∧ readyB told x = false
def Apart (l : List It) : Prop := l.Pairwise (fun a b => same a b = false)
theorem allOk_iff (told : List Int) : ∀ (l seen : List It), allOk told seen l = true ↔ (∀ x ∈ l, Waits told x ∧ ∀ y ∈ seen, same y x = false) ∧ Apart l
  | [], seen => by simp [allOk, Apart]
  | x :: r, seen => by
    simp only [allOk, Bool.and_eq_true, allOk_iff told r, oneOk, Bool.not_eq_true', decide_eq_false_iff_not, isIn_no, Waits, Apart, List.pairwise_cons, List.mem_cons, List.mem_append, List.mem_singleton]
    constructor
    · rintro ⟨⟨⟨⟨h1, h2⟩, h3⟩, h4⟩, h5, h6⟩
      refine ⟨fun y hy => ?_, fun y hy => (h5 y hy).2 x (.inr (.inl rfl)), h6⟩
      rcases hy with rfl | hy
      · exact ⟨⟨h2, by omega, h4⟩, h1⟩
      · exact ⟨(h5 y hy).1, fun z hz => (h5 y hy).2 z (.inl hz)⟩
    · rintro ⟨h1, h2, h3⟩
      refine ⟨⟨⟨⟨(h1 x (.inl rfl)).2, (h1 x (.inl rfl)).1.1⟩, by have := (h1 x (.inl rfl)).1.2.1; omega⟩, (h1 x (.inl rfl)).1.2.2⟩, fun y hy => ⟨(h1 y (.inr hy)).1, fun z hz => ?_⟩, h3⟩
      rcases hz with hz | rfl | hz
      · exact (h1 y (.inr hy)).2 z hz
      · exact h2 y hy
      · cases hz
theorem right_iff (told : List Int) (l : List It) : rightH told l = true ↔ (∀ n ∈ told, n ≤ 1000) ∧ l.length ≤ 64 ∧ (∀ x ∈ l, Waits told x) ∧ Apart l := by
  unfold rightH
  rw [Bool.and_eq_true, Bool.and_eq_true, allOk_iff, List.all_eq_true]
  simp only [decide_eq_true_eq, List.not_mem_nil, false_implies, implies_true, and_true, and_assoc]
theorem apart_at {l : List It} (h : Apart l) {i : Nat} (hi : i < l.length) : ∀ z ∈ l.eraseIdx i, same z l[i] = false := by
  intro z hz
  obtain ⟨j, hj, hji, rfl⟩ : ∃ j, ∃ hj : j < l.length, j ≠ i ∧ l[j] = z := by
    obtain ⟨j, hj, he⟩ := List.mem_eraseIdx_iff_getElem.1 hz
    exact ⟨j, hj, he.1, he.2⟩
  rcases Nat.lt_or_ge j i with hlt | hge
  · exact List.pairwise_iff_getElem.1 h j i hj hi hlt
  · rw [same_comm]
    exact List.pairwise_iff_getElem.1 h i j hi hj (by omega)
theorem inc_old {told : List Int} {y z : It} (ht : told.length = 16) (hy : okI y) (hz : okI z) (hry : rightI y = true) (hr : ofT told y = y.seq) (hs : same z y = false) (ho : ofT told z ≤ z.seq) : ofT (inc told y) z ≤ z.seq := by
  have hf := right_frm hy hry
  unfold ofT at *
  rw [inc_at ht hf.1]
  split
  · rename_i h
    have h0 : 0 ≤ z.frm := hz.2.1.1
    have he : z.frm = y.frm := by omega
    have : z.seq ≠ y.seq := fun e => by rw [same_iff.2 ⟨he, e⟩] at hs; cases hs
    rw [h] at ho ⊢
    rw [hr] at ho ⊢
    omega
  · exact ho
structure Fine (told : List Int) (wait : List It) : Prop where
  ok : okV told
  its : ∀ y ∈ wait, okI y
  len : wait.length ≤ 64
  old : ∀ x ∈ wait, rightI x = true ∧ ofT told x ≤ x.seq
  apart : Apart wait
theorem fine_right {told : List Int} {wait : List It} (ht : okV told) (hw : ∀ y ∈ wait, okI y) (h : rightH told wait = true) : Fine told wait := by
  obtain ⟨_, h2, h3, h4⟩ := (right_iff _ _).1 h
  exact ⟨ht, hw, h2, fun x hx => ⟨(h3 x hx).1, (h3 x hx).2.1⟩, h4⟩
theorem Fine.tell {told : List Int} {wait : List It} (h : Fine told wait) {y : It} (hy : okI y) (hr : readyB told y = true) {wait' : List It} (hs : wait'.Sublist wait) (ha : ∀ z ∈ wait', same z y = false) : Fine (inc told y) wait' :=
  ⟨inc_ok h.ok hy hr, fun z hz => h.its z (hs.subset hz), Nat.le_trans hs.length_le h.len, fun z hz => ⟨(h.old z (hs.subset hz)).1, inc_old h.ok.1 hy (h.its z (hs.subset hz)) (ready_right hr).1 (ready_right hr).2.1 (ha z hz) (h.old z (hs.subset hz)).2⟩, List.Pairwise.sublist hs h.apart⟩
theorem fine_drain {n : Nat} {told : List Int} {wait out : List It} (h : Fine told wait) : Fine (drain n told wait out).1 (drain n told wait out).2.1 :=
  drain_ind (fun t w _ => Fine t w) (fun t w o i hi hr h => h.tell (h.its _ (List.getElem_mem hi)) hr (List.eraseIdx_sublist w i) (apart_at h.apart hi)) n told wait out h
theorem put_right {told : List Int} {wait : List It} {x : It} (ht : okV told) (hw : ∀ y ∈ wait, okI y) (hx : okI x) (h : rightH told wait = true) (hn : ∀ n ∈ (putH told wait x).1.1, n ≤ 1000) : rightH (putH told wait x).1.1 (putH told wait x).1.2.1 = true := by
  by_cases he : (putH told wait x).2 = 0
  · obtain ⟨_, h2, h3, h4, ⟨h5, h6⟩ | ⟨h5, h6, h7⟩⟩ := putH_ok he
    · have hF := fine_right ht hw h
      have hF1 : Fine (inc told x) wait := hF.tell hx h5 (List.Sublist.refl _) (fun z hz => isIn_no.1 h4 z hz)
      have hF2 := fine_drain (n := wait.length) (out := [x]) hF1
      have hE := drain_end wait.length (inc told x) wait [x] (Nat.le_refl _)
      rw [h6] at hn ⊢
      exact (right_iff _ _).2 ⟨hn, hF2.len, fun z hz => ⟨(hF2.old z hz).1, (hF2.old z hz).2, hE z hz⟩, hF2.apart⟩
    · obtain ⟨g1, g2, g3, g4⟩ := (right_iff _ _).1 h
      rw [h7]
      refine (right_iff _ _).2 ⟨g1, by simp; omega, fun z hz => ?_, ?_⟩
      · rcases List.mem_append.1 hz with hz | hz
        · exact g3 z hz
        · rw [List.mem_singleton.1 hz]; exact ⟨h2, h3, h5⟩
      · exact List.pairwise_append.2 ⟨g4, List.pairwise_singleton _ _, fun a ha b hb => by rw [List.mem_singleton.1 hb]; exact isIn_no.1 h4 a ha⟩
  · rw [putH_err he]; exact h
def Goes : List Int → List It → List Int → Prop
  | t, [], t' => t = t'
  | t, y :: r, t' => readyB t y = true ∧ Goes (inc t y) r t'
theorem Goes.snoc {t' t'' : List Int} {y : It} : ∀ {l : List It} {t : List Int}, Goes t l t' → readyB t' y = true → inc t' y = t'' → Goes t (l ++ [y]) t''
  | [], t, h, hr, he => by
    have h : t = t' := h
    subst h
    exact ⟨hr, he⟩
  | z :: r, t, h, hr, he => ⟨h.1, Goes.snoc h.2 hr he⟩
theorem put_goes {told : List Int} {wait : List It} {x : It} (h : (putH told wait x).2 = 0) : Goes told (putH told wait x).1.2.2 (putH told wait x).1.1 := by
  obtain ⟨_, _, _, _, ⟨h5, h6⟩ | ⟨_, _, h6⟩⟩ := putH_ok h
  · rw [h6]
    exact drain_ind (fun t _ o => Goes told o t) (fun t w o i hi hr h => h.snoc hr rfl) _ _ _ _ ⟨h5, rfl⟩
  · rw [h6]; rfl
end Go.Proofs.Ytbaknecnkipooaa.Hld
