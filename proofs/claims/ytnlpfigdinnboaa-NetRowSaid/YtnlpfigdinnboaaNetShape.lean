/- Letters whose bodies are written over: what stays of them; a row of bytes, written. -/
import Derived.Test.YtnlpfigdinnboaaNetWrap
namespace Go.Proofs.Ytnlpfigdinnboaa.Net
open Go Go.RowKit Go.Proofs.YtnlpfigdinnboaaW.PrintWords Go.Proofs.Ytnlpfigdinnboaa.Sep Go.Proofs.Ytnlpfigdinnboaa.Obj
set_option linter.unusedVariables false
set_option linter.unusedSimpArgs false

theorem putU {S : Nat → Prop} {As : List Asr} {w0 w : World} (h : OwnS S As w0 w) (i : Nat) {e g n c : Nat} {xs : List Int} (hi : As[i]? = some (Sep.row kU e (.slice (some ⟨g, 0, none⟩) n c) xs)) (k : Nat) (x : Int) :
    OwnS S (As.set i (Sep.row kU e (.slice (some ⟨g, 0, none⟩) n c) (xs.set k x))) w0 (w.setCell ⟨g, k, none⟩ (.int .u8 x)) :=
  h.mod i hi _ (fun T hp => by
    have hr := Kd.R_putg (h1 := fun _ => rfl) (enc := Value.int .u8) (show (Kd.scalar (Value.int .u8) (fun _ => rfl)).R e w 0 T (.slice (some ⟨g, 0, none⟩) n c) xs from hp) (k : Int) x
    simp only [Int.toNat_natCast] at hr
    refine ⟨Frm.grown hr.2 (fun q hq => ?_), Kd.R_mono hr.1 (fun q hq => .inl hq)⟩
    injection hq with hq
    subst hq
    exact hp.1 _ rfl)
/-- letters of a row at A, of which the bodies' lengths stay -/
def shapeA (A : Option Addr) (ls : List Lt) : Asr where
  P := fun w S => ∀ i (hi : i < ls.length), ∃ ad Ab cb, A = some ad ∧ (S ad.block ∧ ad.block < w.heap.size) ∧ w.cell? ⟨(ad.add (i * 5)).block, (ad.add (i * 5)).off + 3, none⟩ = some (.slice Ab ls[i].body.length cb) ∧
    (0 < ls[i].body.length → ∃ g, Ab = some ⟨g, 0, none⟩ ∧ S g ∧ g ≠ ad.block ∧ ∃ cells T, w.heap[g]? = some (.cells cells T (0, 0)) ∧ ∀ k, k < ls[i].body.length → ∃ x, cells[k]? = some (.int .u8 x))
  mono := fun {w S S'} h a i hi => by
    obtain ⟨ad, Ab, cb, e, ⟨h1, h2⟩, h3, h4⟩ := a i hi
    refine ⟨ad, Ab, cb, e, ⟨h _ h1, h2⟩, h3, fun hp => ?_⟩
    obtain ⟨g, e1, s, r⟩ := h4 hp
    exact ⟨g, e1, h _ s, r⟩
  move := fun {w w' S} h a i hi => by
    obtain ⟨ad, Ab, cb, e, ⟨h1, h2⟩, h3, h4⟩ := a i hi
    have hb := h _ h1 h2
    refine ⟨ad, Ab, cb, e, ⟨h1, (Array.getElem?_eq_some_iff.1 (hb.trans (Array.getElem?_eq_getElem h2))).1⟩, ?_, fun hp => ?_⟩
    · have hb2 : w'.heap[(⟨(ad.add (i * 5)).block, (ad.add (i * 5)).off + 3, none⟩ : Addr).block]? = w.heap[(⟨(ad.add (i * 5)).block, (ad.add (i * 5)).off + 3, none⟩ : Addr).block]? := by
        show w'.heap[(ad.add (i * 5)).block]? = w.heap[(ad.add (i * 5)).block]?
        rw [add_block]
        exact hb
      exact (World.cell?_of_block (w := w) hb2).trans h3
    · obtain ⟨g, e1, s, ne, cells, T, hg, r⟩ := h4 hp
      exact ⟨g, e1, s, ne, cells, T, (h _ s (blk_lt hg)).trans hg, r⟩
theorem shape_of {A : Option Addr} {n c : Nat} {ls : List Lt} {w : World} {S : Nat → Prop} (hp : (Sep.row kLt 36 (.slice A n c) ls).P w S) : (shapeA A ls).P w S := by
  intro i hi
  have hn := (Kd.R_reads' hp).1
  obtain ⟨ad, Ab, cb, ea, hr, hcb, k0, k1, k2, k3, k4⟩ := at_Lt (Kd.R_reads' hp).2.2 i hi
  obtain ⟨g, eg, _, _⟩ := row_front hp (by omega)
  subst ea
  obtain rfl := Option.some.inj eg
  have hA := hp.1 g rfl
  obtain ⟨_, inner, hown, hreps⟩ := hp
  refine ⟨_, Ab, cb, rfl, ⟨hA, ?_⟩, k3, fun hpos => ?_⟩
  · obtain ⟨cells, hc⟩ := own_typed hown g rfl
    exact blk_lt hc
  obtain ⟨v, hcs, hR⟩ := kLt_openM (hreps.2 i ls[i] (List.getElem?_eq_getElem hi))
  have hv : inner[i * 5 + 3]? = some v := by
    have h3 := congrArg (fun l : List Value => l[3]?) hcs
    have h4 : ((inner.drop (i * kLt.sz)).take kLt.sz)[3]? = inner[i * 5 + 3]? := by
      rw [List.getElem?_take, if_pos (by decide), List.getElem?_drop]
      rfl
    rw [← h4]
    exact h3.trans rfl
  have hc3 := hown.cells (g := g) rfl (i * 5 + 3) v hv
  have e3 : (⟨((⟨g, 0, none⟩ : Addr).add (i * 5)).block, ((⟨g, 0, none⟩ : Addr).add (i * 5)).off + 3, none⟩ : Addr) = ⟨g, i * 5 + 3, none⟩ := by rw [add_plain]
  rw [e3] at k3
  have hv2 : v = .slice Ab ls[i].body.length cb := by
    have : (⟨g, 0, none⟩ : Addr).add (i * 5 + 3) = ⟨g, i * 5 + 3, none⟩ := add_plain _ _
    first
      | rw [this] at hc3; exact Option.some.inj (hc3.symm.trans k3)
      | exact Option.some.inj (hc3.symm.trans k3)
  subst hv2
  obtain ⟨g', eg', _, _⟩ := row_front hR hpos
  subst eg'
  have ho := hR.1 g' rfl
  obtain ⟨_, inner', hown', _⟩ := id hR
  obtain ⟨cells, hcl⟩ := own_typed hown' g' rfl
  refine ⟨g', rfl, ho.1, fun e => ho.2 (by subst e; rfl), cells, _, hcl, fun k hk => ?_⟩
  obtain ⟨ad', cs', e', _, hK, hc'⟩ := Kd.C_get (Kd.R_reads' hR).2.2 (0 : Int) (k : Int) (by omega) (by omega)
  obtain rfl := Option.some.inj e'
  have hq := hc' 0 (.int .u8 (ls[i].body.getD (k : Int).toNat 0)) (by rw [show cs' = [.int .u8 (ls[i].body.getD (k : Int).toNat 0)] from hK]; rfl)
  have e4 : (⟨g', 0, none⟩ : Addr).add ((k : Int).toNat * kU.sz + 0) = ⟨g', k, none⟩ := by
    rw [add_plain]
    show (⟨g', (k : Int).toNat * 1 + 0, none⟩ : Addr) = _
    simp
  rw [e4] at hq
  exact ⟨_, (blk_cell hcl k).symm.trans hq⟩
theorem shape_set {A : Option Addr} {ls : List Lt} {w : World} {S : Nat → Prop} (h : (shapeA A ls).P w S) {g : Nat} {cells : Array Value} {T : TypeId} (hg : w.heap[g]? = some (.cells cells T (0, 0))) (hne : ∀ ad, A = some ad → g ≠ ad.block) (k : Nat) (x : Int) : (shapeA A ls).P (w.setCell ⟨g, k, none⟩ (.int .u8 x)) S := by
  intro i hi
  obtain ⟨ad, Ab, cb, ea, ⟨s1, s2⟩, hc, hb⟩ := h i hi
  have hsz : (w.setCell ⟨g, k, none⟩ (.int .u8 x)).heap.size = w.heap.size := by
    have := (setCells_same g [.int .u8 x] k w).2.2.2
    exact this
  refine ⟨ad, Ab, cb, ea, ⟨s1, by rw [hsz]; exact s2⟩, (cell_far (by show (ad.add (i * 5)).block ≠ g; rw [add_block]; exact (hne ad ea).symm) _).trans hc, fun hp => ?_⟩
  obtain ⟨g', e1, sg, ne', cells', T', hg', hk⟩ := hb hp
  by_cases eg : g' = g
  · subst eg
    refine ⟨g', e1, sg, ne', _, T', blk_set hg' k _, fun q hq => ?_⟩
    obtain ⟨y, hy⟩ := hk q hq
    have hlt : q < cells'.size := (Array.getElem?_eq_some_iff.1 hy).1
    rw [Array.getElem?_setIfInBounds]
    split
    · exact ⟨x, by rw [if_pos (by omega)]⟩
    · exact ⟨y, hy⟩
  · exact ⟨g', e1, sg, ne', cells', T', blk_far hg' (by exact eg) _, hk⟩
theorem shape_at {S : Nat → Prop} {As : List Asr} {w0 w : World} (h : OwnS S As w0 w) (i : Nat) {A : Option Addr} {ls : List Lt} (hi : As[i]? = some (shapeA A ls)) (j : Nat) (hj : j < ls.length) :
    ∃ ad Ab cb, A = some ad ∧ w.cell? ⟨(ad.add (j * 5)).block, (ad.add (j * 5)).off + 3, none⟩ = some (.slice Ab ls[j].body.length cb) ∧
      (0 < ls[j].body.length → ∃ g, Ab = some ⟨g, 0, none⟩ ∧ ∀ k, k < ls[j].body.length → ∃ x, w.cell? ⟨g, k, none⟩ = some (.int .u8 x) ∧ w.frozen? ⟨g, k, none⟩ = false) := by
  obtain ⟨ad, Ab, cb, ea, _, hc, hb⟩ := h.get i hi j hj
  refine ⟨ad, Ab, cb, ea, hc, fun hp => ?_⟩
  obtain ⟨g, e1, _, _, cells, T, hg, hk⟩ := hb hp
  refine ⟨g, e1, fun k hlt => ?_⟩
  obtain ⟨x, hx⟩ := hk k hlt
  exact ⟨x, (blk_cell hg k).trans hx, blk_frozen hg k⟩
theorem shape_put {S : Nat → Prop} {As : List Asr} {w0 w : World} (h : OwnS S As w0 w) (i : Nat) {A : Option Addr} {ls : List Lt} (hi : As[i]? = some (shapeA A ls)) (j : Nat) (hj : j < ls.length) (hpos : 0 < ls[j].body.length) {ad : Addr} (hA : A = some ad) {g n c : Nat}
    (hc : w.cell? ⟨(ad.add (j * 5)).block, (ad.add (j * 5)).off + 3, none⟩ = some (.slice (some ⟨g, 0, none⟩) n c)) (k : Nat) (x : Int) : OwnS S (As.set i (shapeA A ls)) w0 (w.setCell ⟨g, k, none⟩ (.int .u8 x)) :=
  h.mod i hi _ (fun T hp => by
    obtain ⟨ad', Ab, cb, ea, _, hc', hb⟩ := hp j hj
    obtain ⟨g', e1, sg, ne, cells, T', hg, hk⟩ := hb hpos
    obtain rfl := Option.some.inj (hA.symm.trans ea)
    have e2 := Option.some.inj (hc.symm.trans hc')
    injection e2 with e2 _ _
    rw [e1] at e2
    injection e2 with e2
    injection e2 with e2 _ _
    subst e2
    have hf := Frm.set w g k (.int .u8 x)
    exact ⟨⟨hf.os, hf.tape, hf.output, hf.size, fun q hq hn => hf.block q hq (fun e => hn (by rw [e]; exact sg))⟩, (shapeA A ls).mono (fun q hq => .inl hq) (shape_set hp hg (fun ad' e => by obtain rfl := Option.some.inj (hA.symm.trans e); exact ne) k x)⟩)
end Go.Proofs.Ytnlpfigdinnboaa.Net
