/- Maps of the call's own, told key by key: MapIs says of each key what the map holds there, as a value. -/
import Derived.Maps.OwnSet
import Derived.Maps.OwnOps
import Derived.Maps.RangeWalk
import Derived.Maps.Views
import Derived.DeepKeys4
import Derived.Test.YtkifekjcpnoclaaWWords
namespace Go.Proofs.Ytkifekjcpnoclaa.Mp
open Go Go.RowKit Go.Maps Go.Proofs.YtkifekjcpnoclaaW.PrintWords
open Classical
set_option linter.unusedVariables false

/-- every value reads as itself -/
def hR (v : Value) : Option (DataW Value × List MemPlace) := some (.held v, [])
theorem hR_inv {v : Value} {d : DataW Value} {ps : List MemPlace} (h : hR v = some (d, ps)) : d = .held v := by
  unfold hR at h
  cases h
  rfl

/-- The keys of a type, as mk writes them. -/
structure Keys {α : Type} (P : Program) (k : TypeId) (mk : α → Value) (ok : α → Prop) : Prop where
  law : Keyed P k
  inj : ∀ x y, mk x = mk y → x = y
  reads : ∀ x, ok x → ∃ kl, keyOf P k (mk x) = some kl
  inv : ∀ v kl, keyOf P k v = some kl → ∃ x, ok x ∧ v = mk x

/-- What D holds at x is what g says. -/
def Holds (D : DataW Value) (kl : Lit) (o : Option Value) : Prop := (∃ v, o = some v ∧ has D kl = true ∧ ∀ z, D.atKey kl z = .held v) ∨ (o = none ∧ has D kl = false)
/-- Block b is a map of at most n entries that holds what g says. -/
def MapIs {α : Type} (P : Program) (k : TypeId) (mk : α → Value) (w : World) (b n : Nat) (g : α → Option Value) : Prop :=
  ∃ D : DataW Value, w.ownsMap P k hR b n D ∧ ∀ x kl, keyOf P k (mk x) = some kl → Holds D kl (g x)
/-- g, but v at x. -/
noncomputable def upd {α : Type} (g : α → Option Value) (x : α) (v : Value) : α → Option Value := fun y => if y = x then some v else g y
theorem upd_same {α : Type} (g : α → Option Value) (x : α) (v : Value) : upd g x v x = some v := by simp [upd]
theorem upd_other {α : Type} (g : α → Option Value) {x y : α} (v : Value) (h : y ≠ x) : upd g x v y = g y := by simp [upd, h]

section
variable {α : Type} {P : Program} {k : TypeId} {mk : α → Value} {ok : α → Prop} {w w' : World} {b n : Nat} {g : α → Option Value}

theorem MapIs.made (P : Program) (k : TypeId) (mk : α → Value) (w : World) : MapIs P k mk (w.alloc (.map #[] 0)) w.heap.size 0 (fun _ => none) :=
  ⟨_, World.ownsMap_made w P k hR, fun x kl h => .inr ⟨rfl, rfl⟩⟩
theorem MapIs.lt (h : MapIs P k mk w b n g) : b < w.heap.size := by
  obtain ⟨D, h, _⟩ := h
  exact h.lt
theorem MapIs.kept {row : Option Nat} (h : MapIs P k mk w b n g) (hg : w.grownBy w' row) (hne : some b ≠ row) : MapIs P k mk w' b n g := by
  obtain ⟨D, h, hD⟩ := h
  exact ⟨D, h.kept hg hne, hD⟩
theorem MapIs.moved (h : MapIs P k mk w b n g) (hm : w'.heap[b]? = w.heap[b]?) : MapIs P k mk w' b n g := by
  obtain ⟨D, ⟨es, clock, hb, rest⟩, hD⟩ := h
  exact ⟨D, ⟨es, clock, hm.trans hb, rest⟩, hD⟩
theorem MapIs.below (h : MapIs P k mk w b n g) (hb : Below w.heap.size w w') : MapIs P k mk w' b n g := h.moved (hb.block b h.lt)
theorem MapIs.mono (h : MapIs P k mk w b n g) {n' : Nat} (hn : n ≤ n') : MapIs P k mk w b n' g := by
  obtain ⟨D, h, hD⟩ := h
  exact ⟨D, h.mono hn, hD⟩

/-- m[x] -/
theorem MapIs.look (h : MapIs P k mk w b n g) (K : Keys P k mk ok) {t e : TypeId} (ht : P.underlying t = some (.map k e)) {z : Value} (hz : (zeroValue e).run P w = .ok z w) (x : α) (hx : ok x) :
    (Instr.lookup t (.map (some b)) (mk x) false).run P w = .ok ((g x).getD z) w := by
  obtain ⟨D, h, hD⟩ := h
  obtain ⟨kl, hkl⟩ := K.reads x hx
  obtain ⟨v, ps, hrun, hv⟩ := h.lookup K.law ht hz (show hR z = some (.held z, []) from rfl) hkl
  have hv' := hR_inv hv
  rcases hD x kl hkl with ⟨u, hu, _, hat⟩ | ⟨hu, hno⟩
  · rw [hat] at hv'
    cases hv'
    rw [hu]; exact hrun
  · rw [atKey_of_not_has hno] at hv'
    cases hv'
    rw [hu]; exact hrun
/-- v, ok := m[x] -/
theorem MapIs.look_ok (h : MapIs P k mk w b n g) (K : Keys P k mk ok) {t e : TypeId} (ht : P.underlying t = some (.map k e)) {z : Value} (hz : (zeroValue e).run P w = .ok z w) (x : α) (hx : ok x) :
    (Instr.lookup t (.map (some b)) (mk x) true).run P w = .ok (.tuple #[(g x).getD z, .bool (g x).isSome]) w := by
  obtain ⟨D, h, hD⟩ := h
  obtain ⟨kl, hkl⟩ := K.reads x hx
  obtain ⟨v, ps, hrun, hv⟩ := h.look_ok K.law ht hz (show hR z = some (.held z, []) from rfl) hkl
  have hv' := hR_inv hv
  rcases hD x kl hkl with ⟨u, hu, hhas, hat⟩ | ⟨hu, hno⟩
  · rw [hat] at hv'
    cases hv'
    rw [hhas] at hrun
    rw [hu]; exact hrun
  · rw [atKey_of_not_has hno] at hv'
    cases hv'
    rw [hno] at hrun
    rw [hu]; exact hrun
/-- m[x] = v -/
theorem MapIs.put (h : MapIs P k mk w b n g) (K : Keys P k mk ok) {t e : TypeId} (ht : P.underlying t = some (.map k e)) (hn : n < maxLen) (x : α) (hx : ok x) (v : Value) :
    ∃ w', (Instr.mapUpdate t (.map (some b)) (mk x) v).run P w = .ok () w' ∧ MapIs P k mk w' b (n + 1) (upd g x v) ∧ w.grownBy w' (some b) := by
  obtain ⟨D, h, hD⟩ := h
  obtain ⟨kl, hkl⟩ := K.reads x hx
  obtain ⟨w', hrun, h', hg⟩ := h.update K.law ht hn hkl (show hR v = some (.held v, []) from rfl)
  refine ⟨w', hrun, ⟨_, h', fun y kl' hy => ?_⟩, hg⟩
  by_cases e : y = x
  · subst e
    rw [hkl] at hy
    cases hy
    exact .inl ⟨v, upd_same g y v, has_put_same h.isMap (K.law.key hkl) _, fun z => atKey_put_same h.isMap (K.law.key hkl) _ z⟩
  · have hne : kl' ≠ kl := fun e' => e (K.inj _ _ (K.law.inj (e' ▸ hy) hkl))
    rw [upd_other g v e]
    rcases hD y kl' hy with ⟨u, hu, hh, hat⟩ | ⟨hu, hno⟩
    · exact .inl ⟨u, hu, by rw [has_put_other hne]; exact hh, fun z => by rw [atKey_put_other hne]; exact hat z⟩
    · exact .inr ⟨hu, by rw [has_put_other hne]; exact hno⟩

/-- m[x] at the operation -/
theorem wpList_look {ops : Array Oper} {rest : List Oper} {o : Oper} {a : Act} {Q : Exit → Act → World → Prop}
    (hg : o.guard = none) (m kx : Operand) (t : TypeId) (hop : o.op = Op.lookup t m kx false) (K : Keys P k mk ok) (e : TypeId) (ht : P.underlying t = some (.map k e)) {z : Value} (hz : (zeroValue e).run P w = .ok z w)
    (hm : a.eval m = .map (some b)) (h : MapIs P k mk w b n g) (x : α) (hok : ok x) (hx : a.eval kx = mk x) (hK : wpList P ops Q rest (a.put o.dst ((g x).getD z)) w) : wpList P ops Q (o :: rest) a w := by
  refine wpList_plain hg fun K' hK' => ?_
  unfold Oper.wp
  simp [execOp, hop, hm, hx, h.look K ht hz x hok, Result.andThen]
  exact hK' _ _ hK
/-- v, ok := m[x] at the operation -/
theorem wpList_look_ok {ops : Array Oper} {rest : List Oper} {o : Oper} {a : Act} {Q : Exit → Act → World → Prop}
    (hg : o.guard = none) (m kx : Operand) (t : TypeId) (hop : o.op = Op.lookup t m kx true) (K : Keys P k mk ok) (e : TypeId) (ht : P.underlying t = some (.map k e)) {z : Value} (hz : (zeroValue e).run P w = .ok z w)
    (hm : a.eval m = .map (some b)) (h : MapIs P k mk w b n g) (x : α) (hok : ok x) (hx : a.eval kx = mk x) (hK : wpList P ops Q rest (a.put o.dst (.tuple #[(g x).getD z, .bool (g x).isSome])) w) : wpList P ops Q (o :: rest) a w := by
  refine wpList_plain hg fun K' hK' => ?_
  unfold Oper.wp
  simp [execOp, hop, hm, hx, h.look_ok K ht hz x hok, Result.andThen]
  exact hK' _ _ hK
/-- m[x] = v at the operation -/
theorem wpList_put {ops : Array Oper} {rest : List Oper} {o : Oper} {a : Act} {Q : Exit → Act → World → Prop}
    (hg : o.guard = none) (m kx v : Operand) (t : TypeId) (hop : o.op = Op.mapUpdate t m kx v) (K : Keys P k mk ok) (e : TypeId) (ht : P.underlying t = some (.map k e)) (hm : a.eval m = .map (some b))
    (h : MapIs P k mk w b n g) (hn : n < maxLen) (x : α) (hok : ok x) (hx : a.eval kx = mk x) (u : Value) (hv : a.eval v = u)
    (hK : ∀ w', MapIs P k mk w' b (n + 1) (upd g x u) → w.grownBy w' (some b) → wpList P ops Q rest (a.put o.dst undef) w') :
    wpList P ops Q (o :: rest) a w := by
  refine wpList_plain hg fun K' hK' => ?_
  obtain ⟨w', hrun, r1, r2⟩ := h.put K ht hn x hok u
  unfold Oper.wp
  simp [execOp, hop, hm, hx, hv, hrun, Result.andThen]
  exact hK' _ _ (hK w' r1 r2)

/-- for x, v := range m, under way: done says which keys came. -/
def RangeIs (P : Program) (k : TypeId) (mk : α → Value) (w : World) (b r n : Nat) (g : α → Option Value) (done : α → Prop) : Prop :=
  ∃ (D : DataW Value) (left : Lit → Bool) (cnt : Nat), w.ranges P k hR b r n D left cnt ∧ (∀ x kl, keyOf P k (mk x) = some kl → Holds D kl (g x)) ∧ (∀ x kl, keyOf P k (mk x) = some kl → left kl = true → ¬ done x) ∧
    (∀ x kl, keyOf P k (mk x) = some kl → left kl = false → g x ≠ none → done x)
theorem RangeIs.map {r : Nat} {done : α → Prop} (h : RangeIs P k mk w b r n g done) : MapIs P k mk w b n g := by
  obtain ⟨D, left, cnt, h, hD, _⟩ := h
  exact ⟨D, h.owns, hD⟩
theorem RangeIs.lt {r : Nat} {done : α → Prop} (h : RangeIs P k mk w b r n g done) : b < w.heap.size ∧ r < w.heap.size := by
  obtain ⟨D, left, cnt, h, hD, _⟩ := h
  exact ⟨h.owns.lt, h.lt⟩
theorem RangeIs.moved {r : Nat} {done : α → Prop} (h : RangeIs P k mk w b r n g done) (hb : w'.heap[b]? = w.heap[b]?) (hr : w'.heap[r]? = w.heap[r]?) : RangeIs P k mk w' b r n g done ∧ w'.rangeLeft b r = w.rangeLeft b r := by
  refine ⟨?_, by unfold World.rangeLeft; rw [hb, hr]⟩
  obtain ⟨D, left, cnt, ⟨es, clock, since, seen, c0, h1, F, hs, hD', h2, rest⟩, hD, h3, h4⟩ := h
  exact ⟨D, left, cnt, ⟨es, clock, since, seen, c0, hb.trans h1, F, hs, hD', hr.trans h2, rest⟩, hD, h3, h4⟩
theorem RangeIs.below {r : Nat} {done : α → Prop} (h : RangeIs P k mk w b r n g done) (hb : Below w.heap.size w w') : RangeIs P k mk w' b r n g done ∧ w'.rangeLeft b r = w.rangeLeft b r :=
  h.moved (hb.block b h.lt.1) (hb.block r h.lt.2)

/-- range m, at the operation -/
theorem wpList_range_is {ops : Array Oper} {rest : List Oper} {o : Oper} {a : Act} {Q : Exit → Act → World → Prop}
    (hg : o.guard = none) (m : Operand) (t : TypeId) (hop : o.op = Op.range t m) (K : Keys P k mk ok) (e : TypeId) (ht : P.underlying t = some (.map k e)) (hm : a.eval m = .map (some b))
    (h : MapIs P k mk w b n g)
    (hK : ∀ w', RangeIs P k mk w' b w.heap.size n g (fun _ => False) → w.grownBy w' none → w'.heap.size = w.heap.size + 1 → w'.rangeLeft b w.heap.size ≤ n → wpList P ops Q rest (a.put o.dst (.pointer (some ⟨w.heap.size, 0, none⟩))) w') :
    wpList P ops Q (o :: rest) a w := by
  obtain ⟨D, h, hD⟩ := h
  refine wpList_range_own w hg m t hop k e K.law ht hR b n D hm h fun w' hr hgw hsz => hK w' ?_ hgw hsz (by rw [hr.left_eq]; exact h.size_le)
  refine ⟨D, _, _, hr, hD, fun x kl hx hl hf => hf, fun x kl hx hl hne => ?_⟩
  rcases hD x kl hx with ⟨u, hu, hh, hat⟩ | ⟨hu, hno⟩
  · rw [hh] at hl; cases hl
  · exact absurd hu hne

/-- the step of the range, at the operation -/
theorem wpList_next_is {ops : Array Oper} {rest : List Oper} {o : Oper} {a : Act} {Q : Exit → Act → World → Prop} {r : Nat} {done : α → Prop}
    (hg : o.guard = none) (it : Operand) (hop : o.op = Op.next it false) (K : Keys P k mk ok) (hit : a.eval it = .pointer (some ⟨r, 0, none⟩))
    (h : RangeIs P k mk w b r n g done)
    (hDone : (∀ x, ok x → g x ≠ none → done x) → wpList P ops Q rest (a.put o.dst (.tuple #[.bool false])) w)
    (hMore : ∀ (x : α) (v : Value) (w' : World), ok x → ¬ done x → g x = some v → RangeIs P k mk w' b r n g (fun y => done y ∨ y = x) → w'.rangeLeft b r < w.rangeLeft b r →
      w.grownBy w' (some r) → w'.heap.size = w.heap.size → (Instr.entry (.pointer (some ⟨r, 0, none⟩))).run P w' = .ok (.tuple #[mk x, v]) w' → wpList P ops Q rest (a.put o.dst (.tuple #[.bool true, mk x, v])) w') :
    wpList P ops Q (o :: rest) a w := by
  obtain ⟨D, left, cnt, h, hD, hl1, hl2⟩ := h
  refine wpList_next_ranges (α := { x : α // ok x }) (β := Value) w hg it hop k K.law hR (fun x => mk x.1) id (fun key kl hk => by obtain ⟨x, hx, e⟩ := K.inv key kl hk; exact ⟨⟨x, hx⟩, e⟩) (fun v y _ => ⟨v, rfl⟩) b r n D left cnt hit h ?_ ?_
  · intro _ hl0
    refine hDone fun x hx hne => ?_
    obtain ⟨kl, hkl⟩ := K.reads x hx
    exact hl2 x kl hkl (hl0 kl) hne
  · rintro ⟨x, hx⟩ v kl y w' cnt' hkey hlk hv hat hrg hlt hgr hsz hen
    have hg' : g x = some v := by
      rcases hD x kl hkey with ⟨u, hu, hh, hat'⟩ | ⟨hu, hno⟩
      · have e1 := hat .nil
        rw [hat' .nil] at e1
        have e2 : y = (.held v, []) := by have := hv; unfold hR at this; cases this; rfl
        rw [e2] at e1
        cases e1
        exact hu
      · have := has_true_of_atKey hat
        rw [hno] at this; cases this
    refine hMore x v w' hx (hl1 x kl hkey hlk) hg' ⟨D, _, cnt', hrg, hD, fun z kz hz hl => ?_, fun z kz hz hl hne => ?_⟩ (by rw [hrg.left_eq, h.left_eq]; exact hlt) hgr hsz hen
    · simp at hl
      rintro (hd | rfl)
      · exact hl1 z kz hz hl.1 hd
      · rw [hkey] at hz
        cases hz
        rw [WideAt.sameKey_self (K.law.key hkey)] at hl
        simp at hl
    · cases hlz : left kz with
      | false => exact .inl (hl2 z kz hz hlz hne)
      | true =>
        right
        simp [hlz] at hl
        have := WideAt.sameKey_eq hl
        subst this
        exact K.inj _ _ (K.law.inj hz hkey)
end

/-! ### the keys of structs, cell by cell -/
theorem lits_int {P : Program} {t : TypeId} {q : IntKind} (hu : P.underlying t = some (.int q)) (m : Nat) (cs : List Value) (L : List Lit) : P.keyLits (m + 1) t cs = some L ↔ ∃ n, cs = [.int q n] ∧ (Lit.int q n).wf = true ∧ L = [.int q n] := by
  unfold Program.keyLits
  simp only [hu]
  constructor
  · intro h
    split at h <;> simp_all
  · rintro ⟨n, rfl, hw, rfl⟩
    simp [hw]
theorem lits_str {P : Program} {t : TypeId} (hu : P.underlying t = some .string) (m : Nat) (cs : List Value) (L : List Lit) : P.keyLits (m + 1) t cs = some L ↔ ∃ s, cs = [.string s] ∧ s.size ≤ maxLen ∧ L = [.string s.data.toList] := by
  unfold Program.keyLits
  simp only [hu]
  constructor
  · intro h
    split at h <;> simp_all
  · rintro ⟨s, rfl, hw, rfl⟩
    simp [hw]
end Go.Proofs.Ytkifekjcpnoclaa.Mp
