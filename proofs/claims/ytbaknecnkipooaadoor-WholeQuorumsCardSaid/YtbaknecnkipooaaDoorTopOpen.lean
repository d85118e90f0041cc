/- How the arguments of WholeQuorums are opened. -/
import Derived.Test.YtbaknecnkipooaaDoorOpen
import Derived.Test.YtbaknecnkipooaaDoorTopLaw
namespace Go.Proofs.YtbaknecnkipooaaDoor.Vot
open Go Go.RowKit Go.Proofs.YtbaknecnkipooaaDoorW.PrintWords Go.Proofs.YtbaknecnkipooaaDoor.Opn
set_option linter.unusedVariables false

abbrev WI (k : IntKind) (n : Int) : Prop := (Lit.int k n).wf = true
/-- n elements of a cell each, by value -/
theorem opens_arr {α : Type} {P : Program} {t e : TypeId} {n : Nat} {d : Kd α} {f : α → Value} {G : α → Prop} (hd : ∀ w x cs, d.K w x cs → cs = [f x]) (ht : P.underlying t = some (.array n e)) (he : Opens P e d G) (hc : P.cellsOf e = 1) (hn : P.cellsOf t = n)
    {H : Type} {enc : TypeId × Value → H} {w : World} {base : Nat} {spare : Nat → Bool} {held : Bool} {fuel : Nat} {cs : List Value} {y : DataW H × List MemPlace} (h : DataW.trod enc P w base spare held fuel t cs = some y) :
    ∃ xs : List α, cs = xs.map f ∧ xs.length = n ∧ ∀ x ∈ xs, G x := by
  obtain ⟨ys, m, _, _, hl, hyl, hx⟩ := DataW.trod_array ht h
  have hall : ∀ i, i < n → ∃ z : α, cs[i]? = some (f z) ∧ G z := by
    intro i hi
    have := hx i hi
    rw [List.getElem?_eq_getElem (by omega), hc] at this
    obtain ⟨z, hz, hG⟩ := he this
    refine ⟨z, ?_, hG⟩
    have h0 := congrArg (fun l : List Value => l[0]?) (hd _ _ _ hz)
    simpa [List.getElem?_take, List.getElem?_drop] using h0
  obtain ⟨xs, hxl, hxs⟩ := list_of n hall
  refine ⟨xs, ?_, hxl, fun x hx => ?_⟩
  · apply List.ext_getElem?
    intro i
    rcases Nat.lt_or_ge i n with hi | hi
    · have h1 : xs[i]? = some xs[i] := List.getElem?_eq_getElem (by omega)
      rw [(hxs i _ h1).1]
      simp [h1]
    · rw [List.getElem?_eq_none (by omega), List.getElem?_eq_none (by simp; omega)]
  · obtain ⟨i, hi⟩ := List.getElem?_of_mem hx
    exact (hxs i x hi).2
def k3 : Kd (Int × Int × Int) := Kd.pair (Kd.int .u16) (Kd.pair (Kd.int .u16) (Kd.int .u16))
def k2s : Kd (ByteArray × ByteArray) := Kd.pair Kd.string Kd.string
theorem k3_open {w : World} {a b c : Int} {cs : List Value} (h : k3.K w (a, b, c) cs) : cs = [.int .u16 a, .int .u16 b, .int .u16 c] := by
  obtain ⟨_, _, rfl, rfl, _, _, rfl, rfl, rfl⟩ := h
  exact rfl
theorem k2s_open {w : World} {a b : ByteArray} {cs : List Value} (h : k2s.K w (a, b) cs) : cs = [.string a, .string b] := by
  obtain ⟨_, _, rfl, rfl, rfl⟩ := h
  exact rfl
theorem opens3 : Opens Tryd.prog 24 k3 (fun x => WI .u16 x.1 ∧ WI .u16 x.2.1 ∧ WI .u16 x.2.2) := by
  intro H enc w base spare held fuel cs y h
  obtain ⟨xs, e, hl, hg⟩ := opens_arr (f := Value.int .u16) (fun _ _ _ h => h) Tryd.underlying24 (opens_int Tryd.underlying23) (by kernel_rfl) (by kernel_rfl) h
  match xs, hl with
  | [a, b, c], _ =>
    subst e
    exact ⟨(a, b, c), ⟨[.int .u16 a], [.int .u16 b, .int .u16 c], rfl, rfl, [.int .u16 b], [.int .u16 c], rfl, rfl, rfl⟩, hg a (by simp), hg b (by simp), hg c (by simp)⟩
theorem opens2s : Opens Tryd.prog 25 k2s (fun x => x.1.size ≤ maxLen ∧ x.2.size ≤ maxLen) := by
  intro H enc w base spare held fuel cs y h
  obtain ⟨xs, e, hl, hg⟩ := opens_arr (f := Value.string) (fun _ _ _ h => h) Tryd.underlying25 (opens_string Tryd.underlying9) (by kernel_rfl) (by kernel_rfl) h
  match xs, hl with
  | [a, b], _ =>
    subst e
    exact ⟨(a, b), ⟨[.string a], [.string b], rfl, rfl, rfl⟩, hg a (by simp), hg b (by simp)⟩
end Go.Proofs.YtbaknecnkipooaaDoor.Vot
