/- What Agree's two maps hold, and how that is carried. -/
import Derived.Test.YthkofjlbnekgkaaTrcFirst
import Derived.Test.YthkofjlbnekgkaaTrcCounts
namespace Go.Proofs.Ythkofjlbnekgkaa.Trc
open Go Go.RowKit Go.Maps Go.Proofs.YthkofjlbnekgkaaW.PrintWords Go.Proofs.Ythkofjlbnekgkaa.PTraceAgrees Go.Proofs.Ythkofjlbnekgkaa.Mp
set_option linter.unusedVariables false
set_option linter.unusedSimpArgs false

/-- Blocks of cells stay as they are. -/
def CK (w w' : World) : Prop := ∀ (k : Nat) (cs : Array Value) (t : TypeId), w.heap[k]? = some (.cells cs t (0, 0)) → w'.heap[k]? = some (.cells cs t (0, 0))
theorem CK.refl (w : World) : CK w w := fun _ _ _ h => h
theorem CK.trans {a b c : World} (h : CK a b) (k : CK b c) : CK a c := fun i cs t hi => k i cs t (h i cs t hi)
theorem CK.below {w w' : World} (h : Below w.heap.size w w') : CK w w' := fun k cs t hk => (h.block k (blk_lt hk)).trans hk
theorem CK.alloc {a w : World} (h : CK a w) (o : Obj) : CK a (w.alloc o) := h.trans (CK.below (below_alloc (Below.refl _ _) o))
theorem CK.drewN {a w : World} (h : CK a w) (n : Nat) : CK a (w.drewN n) := h
theorem CK.map {α : Type} {P : Program} {k : TypeId} {mk : α → Value} {w w' : World} {b n : Nat} {g : α → Option Value} (hm : MapIs P k mk w b n g) (hg : w.grownBy w' (some b)) : CK w w' := by
  obtain ⟨D, ⟨es, clock, hb, _⟩, _⟩ := hm
  intro i cs t hi
  refine (hg.block i (blk_lt hi) (fun e => ?_)).trans hi
  cases e
  rw [hb] at hi
  cases hi
theorem CK.iter {α : Type} {P : Program} {k : TypeId} {mk : α → Value} {w w' : World} {b r n : Nat} {g : α → Option Value} {dn : α → Prop} (hm : RangeIs P k mk w b r n g dn) (hg : w.grownBy w' (some r)) : CK w w' := by
  obtain ⟨D, left, cnt, ⟨es, clock, since, seen, c0, _, _, _, _, hr, _⟩, _⟩ := hm
  intro i cs t hi
  refine (hg.block i (blk_lt hi) (fun e => ?_)).trans hi
  cases e
  rw [hr] at hi
  cases hi
theorem CK.grown {w w' : World} (hg : w.grownBy w' none) : CK w w' := fun i cs t hi => (hg.block i (blk_lt hi) (by simp)).trans hi
theorem R_ck {α : Type} {d : Kd α} {e : Nat} {w w1 : World} {base : Nat} {v : Value} {xs : List α} (h : d.R e w base (fun _ => True) v xs) (hc : CK w w1) : d.R e w1 base (fun _ => True) v xs :=
  Kd.R_mono (Kd.R_move (Kd.R_bound h) (fun k hk => by obtain ⟨_, _, _, q, _, cs, hcs⟩ := hk; exact (hc k cs q hcs).trans hcs.symm)) (fun _ _ => trivial)

abbrev Row50 (w : World) (base : Nat) (v : Value) (xs : List S50) : Prop := k50.R 50 w base (fun _ => True) v xs
/-- own: of each source what the log has. -/
def OwnR (w : World) (base : Nat) (g : Int × Int → Option Value) (l : List S50) : Prop := ∀ s, (g s = none ∧ ofL l s.1 s.2 = []) ∨ ∃ v, g s = some v ∧ Row50 w base v (ofL l s.1 s.2)
def ApartG (g : Int × Int → Option Value) : Prop := ∀ s s' v v', g s = some v → g s' = some v' → s ≠ s' → NeRow v v'
theorem OwnR.ck {w w' : World} {base : Nat} {g : Int × Int → Option Value} {l : List S50} (h : OwnR w base g l) (hc : CK w w') : OwnR w' base g l := fun s => by
  rcases h s with h | ⟨v, hv, hr⟩
  · exact .inl h
  · exact .inr ⟨v, hv, R_ck hr hc⟩
def srcOf (x : S50) : Int × Int := (x.f0.f0, x.f0.f1)
theorem ofL_snoc (l : List S50) (x : S50) (s : Int × Int) : ofL (l ++ [x]) s.1 s.2 = if s = srcOf x then ofL l s.1 s.2 ++ [x] else ofL l s.1 s.2 := by
  unfold ofL
  rw [List.filter_append]
  by_cases h : s = srcOf x
  · subst h
    simp [srcOf, isOf]
  · have : isOf s.1 s.2 x = false := by
      rw [← Bool.not_eq_true, isOf_iff]
      rintro ⟨h1, h2⟩
      exact h (by unfold srcOf; rw [h1, h2])
    simp [h, this]
/-- the row to append to -/
theorem OwnR.at_ {w : World} {base : Nat} {g : Int × Int → Option Value} {l : List S50} (h : OwnR w base g l) (s : Int × Int) : Row50 w base ((g s).getD (.slice none 0 0)) (ofL l s.1 s.2) := by
  rcases h s with ⟨h, e⟩ | ⟨v, hv, hr⟩
  · rw [h, e]; exact Kd.R_nil _ _ _ _ _
  · rw [hv]; exact hr
theorem R_blk {w : World} {base : Nat} {v : Value} {xs : List S50} (h : Row50 w base v xs) : ∀ k, v.ownBlock = some k → k < w.heap.size := R_lt h
/-- a row stays where another one grows -/
theorem R_apart {w w1 : World} {base : Nat} {v u : Value} {xs : List S50} (h : Row50 w base v xs) (hg : w.grownBy w1 u.ownBlock) (hne : NeRow v u) : Row50 w1 base v xs := by
  obtain ⟨h0, inner, ho, hr⟩ := h
  exact ⟨fun _ _ => trivial, inner, own_other ho hg (ne_other (ne_symm hne)), hr.imp_ (fun p c hp => by rw [k50_openM hp]; exact k50_mkM _ _ _ _)⟩
theorem OwnR.step {w w1 : World} {base : Nat} {g : Int × Int → Option Value} {l : List S50} {y : S50} {v1 : Value} (h : OwnR w base g l) (ha : ApartG g)
    (hr : Row50 w1 base v1 (ofL l (srcOf y).1 (srcOf y).2 ++ [y])) (hg : w.grownBy w1 ((g (srcOf y)).getD (.slice none 0 0)).ownBlock)
    (hat : v1.ownBlock = ((g (srcOf y)).getD (.slice none 0 0)).ownBlock ∨ ∃ b, v1.ownBlock = some b ∧ w.heap.size ≤ b) :
    OwnR w1 base (upd g (srcOf y) v1) (l ++ [y]) ∧ ApartG (upd g (srcOf y) v1) := by
  have hne : ∀ s v, s ≠ srcOf y → g s = some v → NeRow v ((g (srcOf y)).getD (.slice none 0 0)) := by
    intro s v hs hv
    cases hq : g (srcOf y) with
    | none => exact ne_nil' v
    | some u => exact ha s (srcOf y) v u hv hq hs
  have hrow : ∀ s v, g s = some v → Row50 w base v (ofL l s.1 s.2) := by
    intro s v hv
    rcases h s with ⟨h, e⟩ | ⟨v', hv', hr'⟩
    · rw [h] at hv; cases hv
    · rw [hv'] at hv; cases hv; exact hr'
  have hne1 : ∀ s v, s ≠ srcOf y → g s = some v → NeRow v1 v := by
    intro s v hs hv
    obtain ⟨inner, ho⟩ := Kd.R_own (hrow s v hv)
    exact ne_append (ne_symm (hne s v hs hv)) hat ho
  constructor
  · intro s
    rw [ofL_snoc]
    by_cases hs : s = srcOf y
    · subst hs
      rw [if_pos rfl]
      exact .inr ⟨v1, upd_same _ _ _, hr⟩
    · rw [if_neg hs, upd_other _ _ hs]
      rcases h s with h | ⟨v, hv, hr'⟩
      · exact .inl h
      · exact .inr ⟨v, hv, R_apart hr' hg (hne s v hs hv)⟩
  · intro s s' v v' hv hv' hss
    by_cases hs : s = srcOf y
    · by_cases hs' : s' = srcOf y
      · exact absurd (hs.trans hs'.symm) hss
      · subst hs
        rw [upd_same] at hv
        cases hv
        rw [upd_other _ _ hs'] at hv'
        exact hne1 s' v' hs' hv'
    · rw [upd_other _ _ hs] at hv
      by_cases hs' : s' = srcOf y
      · subst hs'
        rw [upd_same] at hv'
        cases hv'
        exact ne_symm (hne1 s v hs hv)
      · rw [upd_other _ _ hs'] at hv'
        exact ha s s' v v' hv hv' hss

/-! ### the longest -/
theorem pre_prefix {α : Type} (a b : List α) : pre a b = true ↔ a <+: b ∨ b <+: a := by
  unfold pre
  rw [eqv_iff]
  rcases Nat.le_total a.length b.length with h | h
  · rw [Nat.min_eq_left h, List.take_length]
    constructor
    · intro e; exact .inl (e ▸ List.take_prefix _ _)
    · rintro (⟨t, rfl⟩ | ⟨t, rfl⟩)
      · simp
      · have : t = [] := List.eq_nil_of_length_eq_zero (by rw [List.length_append] at h; omega)
        simp [this]
  · rw [Nat.min_eq_right h, List.take_length]
    constructor
    · intro e; exact .inr (e ▸ List.take_prefix _ _)
    · rintro (⟨t, rfl⟩ | ⟨t, rfl⟩)
      · have : t = [] := List.eq_nil_of_length_eq_zero (by rw [List.length_append] at h; omega)
        simp [this]
      · simp
theorem prefix_pre {α : Type} {a b c : List α} (h : a <+: c) (h' : b <+: c) : pre a b = true := by
  rw [pre_prefix]
  exact List.prefix_or_prefix_of_prefix h h'
/-- of the source s the longest list of the logs that came -/
def LongR (w : World) (base : Nat) (dn : List (List S50)) (o : Option Value) (s : Int × Int) : Prop :=
  (o = none ∧ ∀ a ∈ dn, ofL a s.1 s.2 = []) ∨ ∃ v xs, o = some v ∧ Row50 w base v xs ∧ (∀ a ∈ dn, ofL a s.1 s.2 <+: xs) ∧ ∃ a ∈ dn, xs = ofL a s.1 s.2
theorem LongR.ck {w w' : World} {base : Nat} {dn : List (List S50)} {o : Option Value} {s : Int × Int} (h : LongR w base dn o s) (hc : CK w w') : LongR w' base dn o s := by
  rcases h with h | ⟨v, xs, hv, hr, h⟩
  · exact .inl h
  · exact .inr ⟨v, xs, hv, R_ck hr hc, h⟩
/-- nothing of this source in the new log -/
theorem LongR.skip {w : World} {base : Nat} {dn : List (List S50)} {o : Option Value} {s : Int × Int} {l : List S50} (h : LongR w base dn o s) (hl : ofL l s.1 s.2 = []) : LongR w base (dn ++ [l]) o s := by
  rcases h with ⟨rfl, h⟩ | ⟨v, xs, rfl, hr, h, a, ha, e⟩
  · refine .inl ⟨rfl, fun a ha => ?_⟩
    rcases List.mem_append.1 ha with h1 | h1
    · exact h a h1
    · rw [List.mem_singleton.1 h1]; exact hl
  · refine .inr ⟨v, xs, rfl, hr, fun a ha => ?_, a, List.mem_append_left _ ha, e⟩
    rcases List.mem_append.1 ha with h1 | h1
    · exact h a h1
    · rw [List.mem_singleton.1 h1, hl]; exact List.nil_prefix

theorem LongR.at_ {w : World} {base : Nat} {dn : List (List S50)} {o : Option Value} {s : Int × Int} (h : LongR w base dn o s) :
    ∃ xs, Row50 w base (o.getD (.slice none 0 0)) xs ∧ (∀ a ∈ dn, ofL a s.1 s.2 <+: xs) ∧ ((∃ a ∈ dn, xs = ofL a s.1 s.2) ∨ xs = []) ∧
      ∀ l, pre (ofL l s.1 s.2) xs = true → (ofL l s.1 s.2).length ≤ xs.length → LongR w base (dn ++ [l]) o s := by
  have h0 := h
  rcases h with ⟨rfl, h⟩ | ⟨v, xs, rfl, hr, h, h'⟩
  · exact ⟨[], Kd.R_nil _ _ _ _ _, fun a ha => by rw [h a ha]; exact List.prefix_rfl, .inr rfl, fun l _ hl => h0.skip (List.eq_nil_of_length_eq_zero (by simpa using hl))⟩
  · refine ⟨xs, hr, h, .inl h', fun l hp hl => .inr ⟨v, xs, rfl, hr, fun a ha => ?_, ?_⟩⟩
    · rcases List.mem_append.1 ha with h1 | h1
      · exact h a h1
      · rw [List.mem_singleton.1 h1]
        rcases (pre_prefix _ _).1 hp with h2 | h2
        · exact h2
        · rw [h2.eq_of_length_le hl]; exact List.prefix_rfl
    · obtain ⟨a, ha, e⟩ := h'
      exact ⟨a, List.mem_append_left _ ha, e⟩
/-- Do the logs agree? -/
def AgL (l : List (List S50)) : Prop := ∀ a ∈ l, ∀ b ∈ l, ∀ s : Int × Int, pre (ofL a s.1 s.2) (ofL b s.1 s.2) = true
noncomputable def agL (l : List (List S50)) : Bool := @decide (AgL l) (Classical.propDecidable _)
theorem agL_iff (l : List (List S50)) : agL l = true ↔ AgL l := by unfold agL; simp
theorem agL_no {l : List (List S50)} (h : ¬ AgL l) : agL l = false := by unfold agL; simp [h]
theorem agL_of_long {w : World} {base : Nat} {l : List (List S50)} {g : Int × Int → Option Value} (h : ∀ s, LongR w base l (g s) s) : AgL l := by
  intro a ha b hb s
  rcases h s with ⟨_, h⟩ | ⟨v, xs, _, _, h, _⟩
  · rw [h a ha]; exact pre_nil _
  · exact prefix_pre (h a ha) (h b hb)
/-- the two spellings of agreement -/
theorem agL_conv (l : List (List S52)) : agL (l.map fun x => x.map conv) = agrB l := by
  rw [Bool.eq_iff_iff, agL_iff, agrB_iff]
  have hpre : ∀ a b : List S52, ∀ v s : Int, pre (ofL (a.map conv) v s) (ofL (b.map conv) v s) = pre (ofR a v s) (ofR b v s) := fun a b v s => by
    rw [ofR_conv, ofR_conv]; exact pre_map conv (fun _ _ h => conv_inj h) _ _
  constructor
  · intro h a ha x hx b hb
    rw [← hpre]
    exact h _ (List.mem_map.2 ⟨a, ha, rfl⟩) _ (List.mem_map.2 ⟨b, hb, rfl⟩) (x.f0.f0, x.f0.f1)
  · intro h a' ha' b' hb' s
    obtain ⟨a, ha, rfl⟩ := List.mem_map.1 ha'
    obtain ⟨b, hb, rfl⟩ := List.mem_map.1 hb'
    rw [hpre]
    by_cases he : ofR a s.1 s.2 = []
    · rw [he]; exact pre_nil _
    · obtain ⟨x, hx⟩ := List.exists_mem_of_ne_nil _ he
      have hx' := List.mem_filter.1 hx
      have : isOf s.1 s.2 (conv x) = true := hx'.2
      rw [isOf_iff] at this
      obtain ⟨h1, h2⟩ := this
      have := h a ha x hx'.1 b hb
      simp only [conv] at h1 h2
      rw [h1, h2] at this
      exact this
end Go.Proofs.Ythkofjlbnekgkaa.Trc
