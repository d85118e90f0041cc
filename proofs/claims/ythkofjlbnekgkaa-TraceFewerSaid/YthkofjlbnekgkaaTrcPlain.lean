/- Plain laws on logs: what the printed functions of the reference come to. -/
import Derived.Test.YthkofjlbnekgkaaTrcFns3
import Derived.Test.YthkofjlbnekgkaaPTraceAgreesx6
import Derived.Test.YthkofjlbnekgkaaTrcMore
namespace Go.Proofs.Ythkofjlbnekgkaa.Trc
open Go.RowKit Go.Proofs.YthkofjlbnekgkaaW.PrintWords Go.Proofs.Ythkofjlbnekgkaa.PTraceAgrees
set_option linter.unusedVariables false
set_option linter.unusedSimpArgs false

theorem conv_back (x : S50) : conv (back x) = x := rfl
theorem back_conv (x : S52) : back (conv x) = x := rfl
theorem map_conv_back (l : List S50) : (l.map back).map conv = l := by rw [List.map_map]; exact List.map_id l
theorem map_back_conv (l : List S52) : (l.map conv).map back = l := by rw [List.map_map]; exact List.map_id l
theorem conv_inj {x y : S52} (h : conv x = conv y) : x = y := by rw [← back_conv x, h, back_conv]
theorem wrap_up {i : Int} {n : Nat} (h0 : 0 ≤ i) (h : i < (n : Int)) (hn : n ≤ 9223372036854775807) : wrap64 (i + 1) = i + 1 := by
  unfold wrap64
  omega

def isR (view src : Int) (x : S52) : Bool := isOf view src (conv x)
def ofR (l : List S52) (view src : Int) : List S52 := l.filter (isR view src)
theorem ofR_conv (l : List S52) (v s : Int) : ofL (l.map conv) v s = (ofR l v s).map conv := by
  unfold ofL ofR
  rw [List.filter_map]; rfl
theorem rof_loop (l : List S52) (v s : Int) (hl : l.length < 3518437208883) : ∀ (d : Nat) (k : Nat) (i : Nat), l.length - i = d → i ≤ l.length → d < k →
    chantryref22_Of.l0 k l v s ((l.take i).filter (isR v s)) (i : Int) = some (ofR l v s) := by
  intro d
  induction d with
  | zero =>
    intro k i hd hi hk
    obtain ⟨k, rfl⟩ : ∃ m, k = m + 1 := ⟨k - 1, by omega⟩
    simp only [chantryref22_Of.l0]
    rw [if_neg (by omega), List.take_of_length_le (by omega)]; rfl
  | succ d ih =>
    intro k i hd hi hk
    obtain ⟨k, rfl⟩ : ∃ m, k = m + 1 := ⟨k - 1, by omega⟩
    simp only [chantryref22_Of.l0]
    have hlt : i < l.length := by omega
    have hfl : ((l.take i).filter (isR v s)).length < 3518437208883 := Nat.lt_of_le_of_lt (List.length_filter_le _ _) (by simp; omega)
    rw [if_pos (by omega), if_pos (by omega), wrap_up (n := l.length) (by omega) (by omega) (by omega), rd52 hlt]
    have := ih k (i + 1) (by omega) (by omega) (by omega)
    rw [← List.take_append_getElem hlt, List.filter_append] at this
    by_cases h1 : l[i].f0.f0 = v
    · rw [if_pos h1]
      by_cases h2 : l[i].f0.f1 = s
      · rw [if_pos h2, if_pos hfl]
        have hc : isR v s l[i] = true := by simp [isR, isOf, conv, h1, h2]
        simp only [List.filter_cons, hc, if_true, List.filter_nil] at this
        exact this
      · rw [if_neg h2]
        have hc : isR v s l[i] = false := by simp [isR, isOf, conv, h2]
        simp only [List.filter_cons, hc, Bool.false_eq_true, if_false, List.filter_nil, List.append_nil] at this
        exact this
    · rw [if_neg h1]
      have hc : isR v s l[i] = false := by simp [isR, isOf, conv, h1]
      simp only [List.filter_cons, hc, Bool.false_eq_true, if_false, List.filter_nil, List.append_nil] at this
      exact this
theorem rof_is (l : List S52) (v s : Int) (hl : l.length < 3518437208883) : ∀ k, l.length < k → chantryref22_Of.f k l v s = some (ofR l v s) := by
  intro k hk
  exact rof_loop l v s hl l.length k 0 (by omega) (by omega) hk


theorem ev_pos {α : Type} {c : Prop} [Decidable c] {f g : Nat → Option α} {r : α} (hc : c) (h : Ev f r) : Ev (fun k => if c then f k else g k) r := Ev.congr (fun k => if_pos hc) h
theorem ev_neg {α : Type} {c : Prop} [Decidable c] {f g : Nat → Option α} {r : α} (hc : ¬ c) (h : Ev g r) : Ev (fun k => if c then f k else g k) r := Ev.congr (fun k => if_neg hc) h
theorem ev_rof (l : List S52) (v s : Int) (hl : l.length < 3518437208883) : Ev (fun k => chantryref22_Of.f k l v s) (ofR l v s) := ⟨l.length + 1, fun k hk => rof_is l v s hl k (by omega)⟩

/-- pre, place by place -/
theorem pre_iff {α : Type} (a b : List α) : pre a b = true ↔ ∀ i (h : i < a.length) (h' : i < b.length), a[i] = b[i] := by
  unfold pre
  rw [eqv_iff]
  constructor
  · intro h i h1 h2
    have e : (a.take (min a.length b.length))[i]? = (b.take (min a.length b.length))[i]? := by rw [h]
    have hi : i < min a.length b.length := by omega
    simp only [List.getElem?_take, hi, if_true] at e
    rw [List.getElem?_eq_getElem h1, List.getElem?_eq_getElem h2] at e
    exact Option.some.inj e
  · intro h
    apply List.ext_getElem
    · simp
    · intro i h1 h2
      simp at h1 h2
      simp only [List.getElem_take]
      exact h i (by omega) (by omega)
theorem pre_no {α : Type} {a b : List α} (i : Nat) (h : i < a.length) (h' : i < b.length) (hne : a[i] ≠ b[i]) : pre a b = false := by
  cases hp : pre a b with
  | false => rfl
  | true => exact absurd ((pre_iff a b).1 hp i h h') hne
theorem pre_map {α β : Type} (f : α → β) (hf : ∀ x y, f x = f y → x = y) (a b : List α) : pre (a.map f) (b.map f) = pre a b := by
  rw [Bool.eq_iff_iff, pre_iff, pre_iff]
  constructor
  · intro h i h1 h2
    have := h i (by simpa using h1) (by simpa using h2)
    simp at this
    exact hf _ _ this
  · intro h i h1 h2
    simp at h1 h2
    simp [h i h1 h2]
theorem pre_nil {α : Type} (b : List α) : pre [] b = true := (pre_iff _ _).2 (by intro i h; simp at h)
theorem pre_nil' {α : Type} (a : List α) : pre a [] = true := (pre_iff _ _).2 (by intro i h h'; simp at h')
theorem pre_symm {α : Type} (a b : List α) : pre a b = pre b a := by
  rw [Bool.eq_iff_iff, pre_iff, pre_iff]
  exact ⟨fun h i h1 h2 => (h i h2 h1).symm, fun h i h1 h2 => (h i h2 h1).symm⟩

theorem ev_prefix (a b : List S52) (ha : a.length < 3518437208883) : Ev (fun k => chantryref22_Prefix.f k a b) (pre a b) := by
  suffices H : ∀ (d i : Nat), a.length - i = d → i ≤ a.length → (∀ j (h : j < a.length) (h' : j < b.length), j < i → a[j] = b[j]) → Ev (fun k => chantryref22_Prefix.l0 k a b (i : Int)) (pre a b) from
    H a.length 0 (by omega) (by omega) (fun j h h' hj => by omega)
  intro d
  induction d with
  | zero =>
    intro i hd hi hs
    refine Ev.step (fun k => rfl) ?_
    simp only [chantryref22_Prefix.l0]
    refine ev_neg (by omega) ?_
    refine Ev.step (fun k => rfl) ?_
    simp only [chantryref22_Prefix.j1]
    refine ev_neg (by decide) ?_
    rw [(pre_iff a b).2 (fun j h h' => hs j h h' (by omega))]
    exact Ev.now _
  | succ d ih =>
    intro i hd hi hs
    have hlt : i < a.length := by omega
    refine Ev.step (fun k => rfl) ?_
    simp only [chantryref22_Prefix.l0]
    refine ev_pos (by omega) ?_
    refine Ev.step (fun k => rfl) ?_
    simp only [chantryref22_Prefix.j1]
    by_cases hb : i < b.length
    · refine ev_pos (by simp; omega) ?_
      refine ev_pos (by omega) ?_
      refine ev_pos (by omega) ?_
      refine ev_pos (by omega) ?_
      rw [rd52 hlt, rd52 hb]
      by_cases he : a[i] = b[i]
      · refine ev_neg ?_ ?_
        · rw [he, unlike_same, Bool.not_eq_true', ← Bool.not_eq_true, Classical.not_not]
          exact (same52 _ _).2 rfl
        · rw [wrap_up (n := a.length) (by omega) (by omega) (by omega)]
          exact ih (i + 1) (by omega) (by omega) (fun j h h' hj => by
            rcases Nat.lt_or_eq_of_le (Nat.le_of_lt_succ hj) with h1 | h1
            · exact hs j h h' h1
            · subst h1; exact he)
      · refine ev_pos ?_ ?_
        · rw [unlike_same, Bool.not_eq_true', ← Bool.not_eq_true]
          exact fun h => he ((same52 _ _).1 h)
        · rw [pre_no i hlt hb he]
          exact Ev.now _
    · refine ev_neg (by simp; omega) ?_
      rw [(pre_iff a b).2 (fun j h h' => hs j h h' (by omega))]
      exact Ev.now _

theorem ofR_length (l : List S52) (v s : Int) : (ofR l v s).length ≤ l.length := List.length_filter_le _ _
theorem ev_two (a b : List S52) (x : S52) (ha : a.length < 3518437208883) (hb : b.length < 3518437208883) :
    Ev (fun k => chantryref22_two.f k a b x.f0.f0 x.f0.f1 x.f0.f2 x.f1) (pre (ofR a x.f0.f0 x.f0.f1) (ofR b x.f0.f0 x.f0.f1)) := by
  simp only [chantryref22_two.f]
  refine Ev.bind (ev_rof a _ _ ha) ?_
  refine Ev.bind (ev_rof b _ _ hb) ?_
  exact Ev.bind (ev_prefix _ _ (Nat.lt_of_le_of_lt (ofR_length _ _ _) ha)) (Ev.now _)

/-- Do the logs agree? -/
def Agr (l : List (List S52)) : Prop := ∀ a ∈ l, ∀ x ∈ a, ∀ b ∈ l, pre (ofR a x.f0.f0 x.f0.f1) (ofR b x.f0.f0 x.f0.f1) = true
noncomputable def agrB (l : List (List S52)) : Bool := @decide (Agr l) (Classical.propDecidable _)
theorem agrB_iff (l : List (List S52)) : agrB l = true ↔ Agr l := by unfold agrB; simp
theorem agrB_no {l : List (List S52)} (h : ¬ Agr l) : agrB l = false := by unfold agrB; simp [h]

theorem rdL6 {l : List (List S52)} {i : Nat} (h : i < l.length) : rd_L6 l (i : Int) = l[i] := by simp [rd_L6, h]
theorem ev_agree (l : List (List S52)) (hl : l.length < 3518437208883) (hin : ∀ x ∈ l, x.length < 3518437208883) : Ev (fun k => chantryref22_Agree.f k l) (agrB l) := by
  suffices H : ∀ (d i : Nat), l.length - i = d → i ≤ l.length → (∀ i' (h : i' < l.length), i' < i → ∀ x ∈ l[i'], ∀ b ∈ l, pre (ofR l[i'] x.f0.f0 x.f0.f1) (ofR b x.f0.f0 x.f0.f1) = true) → Ev (fun k => chantryref22_Agree.l0 k l (i : Int)) (agrB l) from
    H l.length 0 (by omega) (by omega) (fun j h hj => by omega)
  intro d
  induction d with
  | zero =>
    intro i hd hi hs
    refine Ev.step (fun k => rfl) ?_
    simp only [chantryref22_Agree.l0]
    refine ev_neg (by omega) ?_
    rw [(agrB_iff l).2 (fun a ha x hx b hb => by
      obtain ⟨i', h, rfl⟩ := List.mem_iff_getElem.1 ha
      exact hs i' h (by omega) x hx b hb)]
    exact Ev.now _
  | succ d ih =>
    intro i hd hi hs
    have hlt : i < l.length := by omega
    have hlen := hin _ (List.getElem_mem hlt)
    refine Ev.step (fun k => rfl) ?_
    simp only [chantryref22_Agree.l0]
    refine ev_pos (by omega) ?_
    suffices H1 : ∀ (e j : Nat), l[i].length - j = e → j ≤ l[i].length → (∀ j' (h : j' < l[i].length), j' < j → ∀ b ∈ l, pre (ofR l[i] l[i][j'].f0.f0 l[i][j'].f0.f1) (ofR b l[i][j'].f0.f0 l[i][j'].f0.f1) = true) → Ev (fun k => chantryref22_Agree.l1 k l (i : Int) (j : Int)) (agrB l) from
      H1 l[i].length 0 (by omega) (by omega) (fun j h hj => by omega)
    intro e
    induction e with
    | zero =>
      intro j he hj hs1
      refine Ev.step (fun k => rfl) ?_
      simp only [chantryref22_Agree.l1]
      refine ev_pos (by omega) ?_
      refine ev_pos (by omega) ?_
      rw [rdL6 hlt]
      refine ev_neg (by omega) ?_
      rw [wrap_up (n := l.length) (by omega) (by omega) (by omega)]
      refine ih (i + 1) (by omega) (by omega) (fun i' h hi' x hx b hb => ?_)
      rcases Nat.lt_or_eq_of_le (Nat.le_of_lt_succ hi') with h1 | h1
      · exact hs i' h h1 x hx b hb
      · subst h1
        obtain ⟨j', hj', rfl⟩ := List.mem_iff_getElem.1 hx
        exact hs1 j' hj' (by omega) b hb
    | succ e ih1 =>
      intro j he hj hs1
      have hjlt : j < l[i].length := by omega
      refine Ev.step (fun k => rfl) ?_
      simp only [chantryref22_Agree.l1]
      refine ev_pos (by omega) ?_
      refine ev_pos (by omega) ?_
      rw [rdL6 hlt]
      refine ev_pos (by omega) ?_
      suffices H2 : ∀ (f m : Nat), l.length - m = f → m ≤ l.length → (∀ m' (h : m' < l.length), m' < m → pre (ofR l[i] l[i][j].f0.f0 l[i][j].f0.f1) (ofR l[m'] l[i][j].f0.f0 l[i][j].f0.f1) = true) → Ev (fun k => chantryref22_Agree.l2 k l (i : Int) (j : Int) (m : Int)) (agrB l) from
        H2 l.length 0 (by omega) (by omega) (fun j h hj => by omega)
      intro f
      induction f with
      | zero =>
        intro m hf hm hs2
        refine Ev.step (fun k => rfl) ?_
        simp only [chantryref22_Agree.l2]
        refine ev_neg (by omega) ?_
        rw [wrap_up (n := l[i].length) (by omega) (by omega) (by omega)]
        refine ih1 (j + 1) (by omega) (by omega) (fun j' h hj' b hb => ?_)
        rcases Nat.lt_or_eq_of_le (Nat.le_of_lt_succ hj') with h1 | h1
        · exact hs1 j' h h1 b hb
        · subst h1
          obtain ⟨m', hm', rfl⟩ := List.mem_iff_getElem.1 hb
          exact hs2 m' hm' (by omega)
      | succ f ih2 =>
        intro m hf hm hs2
        have hmlt : m < l.length := by omega
        refine Ev.step (fun k => rfl) ?_
        simp only [chantryref22_Agree.l2]
        refine ev_pos (by omega) ?_
        refine ev_pos (by omega) ?_
        refine ev_pos (by omega) ?_
        refine ev_pos (by omega) ?_
        refine ev_pos (by omega) ?_
        rw [rdL6 hlt, rdL6 hmlt, rd52 hjlt]
        refine ev_pos (by omega) ?_
        refine Ev.bind (ev_two l[i] l[m] l[i][j] hlen (hin _ (List.getElem_mem hmlt))) ?_
        cases hp : pre (ofR l[i] l[i][j].f0.f0 l[i][j].f0.f1) (ofR l[m] l[i][j].f0.f0 l[i][j].f0.f1) with
        | true =>
          refine ev_pos rfl ?_
          rw [wrap_up (n := l.length) (by omega) (by omega) (by omega)]
          exact ih2 (m + 1) (by omega) (by omega) (fun m' h hm' => by
            rcases Nat.lt_or_eq_of_le (Nat.le_of_lt_succ hm') with h1 | h1
            · exact hs2 m' h h1
            · subst h1; exact hp)
        | false =>
          refine ev_neg (by decide) ?_
          rw [agrB_no (fun h => by
            have := h _ (List.getElem_mem hlt) _ (List.getElem_mem hjlt) _ (List.getElem_mem hmlt)
            rw [hp] at this; cases this)]
          exact Ev.now _

theorem ev_same (a b : List S52) (ha : a.length < 3518437208883) : Ev (fun k => chantryref22_Same.f k a b) (eqv a b) := by
  simp only [chantryref22_Same.f]
  by_cases h : a.length = b.length
  · refine ev_pos (by omega) ?_
    have : eqv a b = pre a b := by
      rw [Bool.eq_iff_iff, eqv_iff, pre_iff]
      constructor
      · rintro rfl i h1 h2; rfl
      · intro hp; exact List.ext_getElem h (fun i h1 h2 => hp i h1 h2)
    rw [this]
    exact Ev.bind (ev_prefix a b ha) (Ev.now _)
  · refine ev_neg (by omega) ?_
    rw [eqv_false (fun e => h (by rw [e]))]
    exact Ev.now _

/-- r is the place of the first of l that has no like in o, or -1. -/
def IsFirst {α : Type} (l o : List α) (r : Int) : Prop := (r = -1 ∧ ∀ x ∈ l, x ∈ o) ∨ ∃ i : Nat, ∃ h : i < l.length, r = (i : Int) ∧ l[i] ∉ o ∧ ∀ j (hj : j < i), l[j] ∈ o
theorem IsFirst.uniq {α : Type} {l o : List α} {r r' : Int} (h : IsFirst l o r) (h' : IsFirst l o r') : r = r' := by
  rcases h with ⟨rfl, h⟩ | ⟨i, hi, rfl, hn, hb⟩
  · rcases h' with ⟨rfl, h'⟩ | ⟨i', hi', rfl, hn', hb'⟩
    · rfl
    · exact absurd (h _ (List.getElem_mem hi')) hn'
  · rcases h' with ⟨rfl, h'⟩ | ⟨i', hi', rfl, hn', hb'⟩
    · exact absurd (h' _ (List.getElem_mem hi)) hn
    · rcases Nat.lt_trichotomy i i' with h1 | h1 | h1
      · exact absurd (hb' i h1) hn
      · subst h1; rfl
      · exact absurd (hb i' h1) hn'
theorem IsFirst.map {α β : Type} (f : α → β) (hf : ∀ x y, f x = f y → x = y) {l o : List α} {r : Int} (h : IsFirst l o r) : IsFirst (l.map f) (o.map f) r := by
  have hm : ∀ x, f x ∈ o.map f ↔ x ∈ o := fun x => by
    rw [List.mem_map]
    exact ⟨fun ⟨y, hy, e⟩ => hf _ _ e ▸ hy, fun hx => ⟨x, hx, rfl⟩⟩
  rcases h with ⟨rfl, h⟩ | ⟨i, hi, rfl, hn, hb⟩
  · exact .inl ⟨rfl, fun x hx => by
      obtain ⟨y, hy, rfl⟩ := List.mem_map.1 hx
      exact (hm y).2 (h y hy)⟩
  · exact .inr ⟨i, by simpa using hi, rfl, by simpa [hm] using hn, fun j hj => by simpa [hm] using hb j hj⟩

theorem ev_first (l o : List S52) (hl : l.length < 3518437208883) (ho : o.length < 3518437208883) : ∃ r, IsFirst l o r ∧ Ev (fun k => chantryref22_First.f k l o) r := by
  suffices H : ∀ (d i : Nat), l.length - i = d → i ≤ l.length → (∀ j (h : j < l.length), j < i → l[j] ∈ o) → ∃ r, IsFirst l o r ∧ Ev (fun k => chantryref22_First.l0 k l o (i : Int)) r from
    H l.length 0 (by omega) (by omega) (fun j h hj => by omega)
  intro d
  induction d with
  | zero =>
    intro i hd hi hs
    refine ⟨-1, .inl ⟨rfl, fun x hx => ?_⟩, ?_⟩
    · obtain ⟨j, hj, rfl⟩ := List.mem_iff_getElem.1 hx
      exact hs j hj (by omega)
    · refine Ev.step (fun k => rfl) ?_
      simp only [chantryref22_First.l0]
      exact ev_neg (by omega) (Ev.now _)
  | succ d ih =>
    intro i hd hi hs
    have hlt : i < l.length := by omega
    by_cases hmem : l[i] ∈ o
    · obtain ⟨r, hr, hE⟩ := ih (i + 1) (by omega) (by omega) (fun j h hj => by
        rcases Nat.lt_or_eq_of_le (Nat.le_of_lt_succ hj) with h1 | h1
        · exact hs j h h1
        · subst h1; exact hmem)
      refine ⟨r, hr, ?_⟩
      refine Ev.step (fun k => rfl) ?_
      simp only [chantryref22_First.l0]
      refine ev_pos (by omega) ?_
      suffices H1 : ∀ (e m : Nat) (found : Bool), o.length - m = e → m ≤ o.length → (found = true ↔ l[i] ∈ o.take m) → Ev (fun k => chantryref22_First.l1 k l o (i : Int) found (m : Int)) r from
        H1 o.length 0 false (by omega) (by omega) (by simp)
      intro e
      induction e with
      | zero =>
        intro m found he hm hf
        rw [List.take_of_length_le (by omega)] at hf
        refine Ev.step (fun k => rfl) ?_
        simp only [chantryref22_First.l1]
        refine ev_neg (by omega) ?_
        refine ev_pos (hf.2 hmem) ?_
        rw [wrap_up (n := l.length) (by omega) (by omega) (by omega)]
        exact hE
      | succ e ih1 =>
        intro m found he hm hf
        have hm' : m < o.length := by omega
        have htk : ∀ y, y ∈ o.take (m + 1) ↔ y ∈ o.take m ∨ y = o[m] := fun y => by rw [← List.take_append_getElem hm', List.mem_append, List.mem_singleton]
        refine Ev.step (fun k => rfl) ?_
        simp only [chantryref22_First.l1]
        refine ev_pos (by omega) ?_
        by_cases hfd : found = true
        · refine ev_pos hfd ?_
          rw [wrap_up (n := o.length) (by omega) (by omega) (by omega)]
          exact ih1 (m + 1) true (by omega) (by omega) ⟨fun _ => (htk _).2 (.inl (hf.1 hfd)), fun _ => rfl⟩
        · refine ev_neg hfd ?_
          refine ev_pos (by omega) ?_
          refine ev_pos (by omega) ?_
          refine ev_pos (by omega) ?_
          rw [rd52 hlt, rd52 hm', wrap_up (n := o.length) (by omega) (by omega) (by omega)]
          refine ih1 (m + 1) _ (by omega) (by omega) ?_
          rw [same52, htk]
          exact ⟨fun h => .inr h.symm, fun h => h.elim (fun h => absurd (hf.2 h) hfd) (fun h => h.symm)⟩
    · refine ⟨i, .inr ⟨i, hlt, rfl, hmem, fun j hj => hs j (by omega) hj⟩, ?_⟩
      refine Ev.step (fun k => rfl) ?_
      simp only [chantryref22_First.l0]
      refine ev_pos (by omega) ?_
      suffices H1 : ∀ (e m : Nat) (found : Bool), o.length - m = e → m ≤ o.length → (found = true ↔ l[i] ∈ o.take m) → Ev (fun k => chantryref22_First.l1 k l o (i : Int) found (m : Int)) (i : Int) from
        H1 o.length 0 false (by omega) (by omega) (by simp)
      intro e
      induction e with
      | zero =>
        intro m found he hm hf
        rw [List.take_of_length_le (by omega)] at hf
        refine Ev.step (fun k => rfl) ?_
        simp only [chantryref22_First.l1]
        refine ev_neg (by omega) ?_
        exact ev_neg (fun h => hmem (hf.1 h)) (Ev.now _)
      | succ e ih1 =>
        intro m found he hm hf
        have hm' : m < o.length := by omega
        have htk : ∀ y, y ∈ o.take (m + 1) ↔ y ∈ o.take m ∨ y = o[m] := fun y => by rw [← List.take_append_getElem hm', List.mem_append, List.mem_singleton]
        refine Ev.step (fun k => rfl) ?_
        simp only [chantryref22_First.l1]
        refine ev_pos (by omega) ?_
        by_cases hfd : found = true
        · refine ev_pos hfd ?_
          rw [wrap_up (n := o.length) (by omega) (by omega) (by omega)]
          exact ih1 (m + 1) true (by omega) (by omega) ⟨fun _ => (htk _).2 (.inl (hf.1 hfd)), fun _ => rfl⟩
        · refine ev_neg hfd ?_
          refine ev_pos (by omega) ?_
          refine ev_pos (by omega) ?_
          refine ev_pos (by omega) ?_
          rw [rd52 hlt, rd52 hm', wrap_up (n := o.length) (by omega) (by omega) (by omega)]
          refine ih1 (m + 1) _ (by omega) (by omega) ?_
          rw [same52, htk]
          exact ⟨fun h => .inr h.symm, fun h => h.elim (fun h => absurd (hf.2 h) hfd) (fun h => h.symm)⟩
end Go.Proofs.Ythkofjlbnekgkaa.Trc
