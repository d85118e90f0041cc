/- Maps of the call's own, told key by key: MapIs says of each key what the map holds there, as a value. -/
import Derived.Maps.OwnSet
import Derived.Maps.OwnOps
import Derived.Maps.RangeWalk
import Derived.Maps.Views
import Derived.DeepKeys4
import Derived.Test.YtbaknecnkipooaaWWords
namespace Go.Proofs.Ytbaknecnkipooaa.Mp
open Go Go.RowKit Go.Maps Go.Proofs.YtbaknecnkipooaaW.PrintWords
open Classical
set_option linter.unusedVariables false
def hR (v : Value) : Option (DataW Value × List MemPlace) := some (.held v, [])
theorem hR_inv {v : Value} {d : DataW Value} {ps : List MemPlace} (h : hR v = some (d, ps)) : d = .held v := by
  unfold hR at h
  cases h
  rfl
structure Keys {α : Type} (P : Program) (k : TypeId) (mk : α → Value) (ok : α → Prop) : Prop where
  law : Keyed P k
  inj : ∀ x y, mk x = mk y → x = y
  reads : ∀ x, ok x → ∃ kl, keyOf P k (mk x) = some kl
  inv : ∀ v kl, keyOf P k v = some kl → ∃ x, ok x ∧ v = mk x
def Holds (D : DataW Value) (kl : Lit) (o : Option Value) : Prop := (∃ v, o = some v ∧ has D kl = true ∧ ∀ z, D.atKey kl z = .held v) ∨ (o = none ∧ has D kl = false)
def MapIs {α : Type} (P : Program) (k : TypeId) (mk : α → Value) (w : World) (b n : Nat) (g : α → Option Value) : Prop :=
  ∃ D : DataW Value, w.ownsMap P k hR b n D ∧ ∀ x kl, keyOf P k (mk x) = some kl → Holds D kl (g x)
noncomputable def upd {α : Type} (g : α → Option Value) (x : α) (v : Value) : α → Option Value := fun y => if y = x then some v else g y
theorem upd_same {α : Type} (g : α → Option Value) (x : α) (v : Value) : upd g x v x = some v := by simp [upd]
theorem upd_other {α : Type} (g : α → Option Value) {x y : α} (v : Value) (h : y ≠ x) : upd g x v y = g y := by simp [upd, h]
section
variable {α : Type} {P : Program} {k : TypeId} {mk : α → Value} {ok : α → Prop} {w w' : World} {b n : Nat} {g : α → Option Value}
theorem MapIs.made (P : Program) (k : TypeId) (mk : α → Value) (w : World) : MapIs P k mk (w.alloc (.map #[] 0)) w.heap.size 0 (fun _ => none) :=
  ⟨_, World.ownsMap_made w P k hR, fun x kl h => .inr ⟨rfl, rfl⟩⟩
theorem MapIs.lt (h : MapIs P k mk w b n g) : b < w.heap.size := by
  obtain ⟨D, h, _⟩ := h
  exact h.lt
theorem MapIs.moved (h : MapIs P k mk w b n g) (hm : w'.heap[b]? = w.heap[b]?) : MapIs P k mk w' b n g := by
  obtain ⟨D, ⟨es, clock, hb, rest⟩, hD⟩ := h
  exact ⟨D, ⟨es, clock, hm.trans hb, rest⟩, hD⟩
theorem MapIs.look_ok (h : MapIs P k mk w b n g) (K : Keys P k mk ok) {t e : TypeId} (ht : P.underlying t = some (.map k e)) {z : Value} (hz : (zeroValue e).run P w = .ok z w) (x : α) (hx : ok x) :
    (Instr.lookup t (.map (some b)) (mk x) true).run P w = .ok (.tuple #[(g x).getD z, .bool (g x).isSome]) w := by
  obtain ⟨D, h, hD⟩ := h
  obtain ⟨kl, hkl⟩ := K.reads x hx
  obtain ⟨v, ps, hrun, hv⟩ := h.look_ok K.law ht hz (show hR z = some (.held z, []) from rfl) hkl
  have hv' := hR_inv hv
  rcases hD x kl hkl with ⟨u, hu, hhas, hat⟩ | ⟨hu, hno⟩
  · rw [hat] at hv'
    cases hv'
    rw [hhas] at hrun
    rw [hu]; exact hrun
  · rw [atKey_of_not_has hno] at hv'
    cases hv'
    rw [hno] at hrun
    rw [hu]; exact hrun
theorem MapIs.put (h : MapIs P k mk w b n g) (K : Keys P k mk ok) {t e : TypeId} (ht : P.underlying t = some (.map k e)) (hn : n < maxLen) (x : α) (hx : ok x) (v : Value) :
    ∃ w', (Instr.mapUpdate t (.map (some b)) (mk x) v).run P w = .ok () w' ∧ MapIs P k mk w' b (n + 1) (upd g x v) ∧ w.grownBy w' (some b) := by
  obtain ⟨D, h, hD⟩ := h
  obtain ⟨kl, hkl⟩ := K.reads x hx
  obtain ⟨w', hrun, h', hg⟩ := h.update K.law ht hn hkl (show hR v = some (.held v, []) from rfl)
  refine ⟨w', hrun, ⟨_, h', fun y kl' hy => ?_⟩, hg⟩
  by_cases e : y = x
  · subst e
    rw [hkl] at hy
    cases hy
    exact .inl ⟨v, upd_same g y v, has_put_same h.isMap (K.law.key hkl) _, fun z => atKey_put_same h.isMap (K.law.key hkl) _ z⟩
  · have hne : kl' ≠ kl := fun e' => e (K.inj _ _ (K.law.inj (e' ▸ hy) hkl))
    rw [upd_other g v e]
    rcases hD y kl' hy with ⟨u, hu, hh, hat⟩ | ⟨hu, hno⟩
    · exact .inl ⟨u, hu, by rw [has_put_other hne]; exact hh, fun z => by rw [atKey_put_other hne]; exact hat z⟩
    · exact .inr ⟨hu, by rw [has_put_other hne]; exact hno⟩
theorem wpList_look_ok {ops : Array Oper} {rest : List Oper} {o : Oper} {a : Act} {Q : Exit → Act → World → Prop}
    (hg : o.guard = none) (m kx : Operand) (t : TypeId) (hop : o.op = Op.lookup t m kx true) (K : Keys P k mk ok) (e : TypeId) (ht : P.underlying t = some (.map k e)) {z : Value} (hz : (zeroValue e).run P w = .ok z w)
    (hm : a.eval m = .map (some b)) (h : MapIs P k mk w b n g) (x : α) (hok : ok x) (hx : a.eval kx = mk x) (hK : wpList P ops Q rest (a.put o.dst (.tuple #[(g x).getD z, .bool (g x).isSome])) w) : wpList P ops Q (o :: rest) a w := by
  refine wpList_plain hg fun K' hK' => ?_
  unfold Oper.wp
  simp [execOp, hop, hm, hx, h.look_ok K ht hz x hok, Result.andThen]
  exact hK' _ _ hK
theorem wpList_put {ops : Array Oper} {rest : List Oper} {o : Oper} {a : Act} {Q : Exit → Act → World → Prop}
    (hg : o.guard = none) (m kx v : Operand) (t : TypeId) (hop : o.op = Op.mapUpdate t m kx v) (K : Keys P k mk ok) (e : TypeId) (ht : P.underlying t = some (.map k e)) (hm : a.eval m = .map (some b))
    (h : MapIs P k mk w b n g) (hn : n < maxLen) (x : α) (hok : ok x) (hx : a.eval kx = mk x) (u : Value) (hv : a.eval v = u)
    (hK : ∀ w', MapIs P k mk w' b (n + 1) (upd g x u) → w.grownBy w' (some b) → wpList P ops Q rest (a.put o.dst undef) w') :
    wpList P ops Q (o :: rest) a w := by
  refine wpList_plain hg fun K' hK' => ?_
  obtain ⟨w', hrun, r1, r2⟩ := h.put K ht hn x hok u
  unfold Oper.wp
  simp [execOp, hop, hm, hx, hv, hrun, Result.andThen]
  exact hK' _ _ (hK w' r1 r2)
end
theorem lits_int {P : Program} {t : TypeId} {q : IntKind} (hu : P.underlying t = some (.int q)) (m : Nat) (cs : List Value) (L : List Lit) : P.keyLits (m + 1) t cs = some L ↔ ∃ n, cs = [.int q n] ∧ (Lit.int q n).wf = true ∧ L = [.int q n] := by
  unfold Program.keyLits
  simp only [hu]
  constructor
  · intro h
    split at h <;> simp_all
  · rintro ⟨n, rfl, hw, rfl⟩
    simp [hw]
theorem lits_str {P : Program} {t : TypeId} (hu : P.underlying t = some .string) (m : Nat) (cs : List Value) (L : List Lit) : P.keyLits (m + 1) t cs = some L ↔ ∃ s, cs = [.string s] ∧ s.size ≤ maxLen ∧ L = [.string s.data.toList] := by
  unfold Program.keyLits
  simp only [hu]
  constructor
  · intro h
    split at h <;> simp_all
  · rintro ⟨s, rfl, hw, rfl⟩
    simp [hw]
end Go.Proofs.Ytbaknecnkipooaa.Mp
