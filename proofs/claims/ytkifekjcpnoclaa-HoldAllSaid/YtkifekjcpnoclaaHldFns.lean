/- Items and holds as plain data; cells of a struct with an array in it; events on such blocks. -/
import Derived.Test.YtkifekjcpnoclaaObjMore
import Derived.Test.YtkifekjcpnoclaaOpen
import Derived.Test.YtkifekjcpnoclaaProg
import Derived.WalkKit
import Derived.WalkLawsBesides
import Derived.Deep.LoopGhost
import Derived.Deep.QuietTactic
import Derived.Deep.RegionLaw
import Derived.Deep.RegionHeld3
import Derived.BigQuiet
import Derived.Laws.Rows
import Derived.Laws.Tables
import Derived.WalkSpells
namespace Go.Proofs.Ytkifekjcpnoclaa.Hld
open Go Go.RowKit Go.Proofs.YtkifekjcpnoclaaW.PrintWords Go.Proofs.Ytkifekjcpnoclaa.Sep Go.Proofs.Ytkifekjcpnoclaa.Obj
set_option linter.unusedVariables false
set_option linter.unusedSimpArgs false

/-- Hands back v; what was there is as it was. -/
def Kept (v : Value) (w : World) (e : Ending) (w' : World) : Prop := e = .returned v ∧ Below w.heap.size w w'
theorem below_frm {w w' : World} (h : Frm (fun _ => False) w w') : Below w.heap.size w w' := ⟨h.os, h.tape, h.output, h.size, fun k hk => h.block k hk (fun e => e)⟩
theorem list16 {α : Type} (l : List α) (h : l.length = 16) : ∃ a0 a1 a2 a3 a4 a5 a6 a7 a8 a9 a10 a11 a12 a13 a14 a15, l = [a0, a1, a2, a3, a4, a5, a6, a7, a8, a9, a10, a11, a12, a13, a14, a15] := by
  match l, h with
  | [a0, a1, a2, a3, a4, a5, a6, a7, a8, a9, a10, a11, a12, a13, a14, a15], _ => exact ⟨a0, a1, a2, a3, a4, a5, a6, a7, a8, a9, a10, a11, a12, a13, a14, a15, rfl⟩
/-- an item -/
structure It where
  frm : Int
  seq : Int
  kind : Int
  past : List Int
  text : ByteArray
/-- the cells of a vector, a body, an item, a hold -/
def vecC (v : List Int) : Array Value := (nums .u16 v).toArray
def bodC (k : Int) (v : List Int) (t : ByteArray) : Array Value := (.int .i64 k :: (nums .u16 v ++ [.string t])).toArray
def itC (x : It) : Array Value := (.int .u8 x.frm :: .int .i64 x.seq :: .int .i64 x.kind :: (nums .u16 x.past ++ [.string x.text])).toArray
def hoC (v : List Int) (s : Value) : Array Value := (nums .u16 v ++ [s]).toArray
theorem vecC_size (v : List Int) (h : v.length = 16) : (vecC v).size = 16 := by simp [vecC, nums, h]
theorem bodC_size (k : Int) (v : List Int) (t : ByteArray) (h : v.length = 16) : (bodC k v t).size = 18 := by simp [bodC, nums, h]
theorem itC_size (x : It) (h : x.past.length = 16) : (itC x).size = 20 := by simp [itC, nums, h]
theorem hoC_size (v : List Int) (s : Value) (h : v.length = 16) : (hoC v s).size = 17 := by simp [hoC, nums, h]
theorem vecC_one (v : List Int) : ∀ q ∈ (vecC v).toList, q.oneCell' = true := by intro q hq; simp [vecC, nums] at hq; obtain ⟨a, _, rfl⟩ := hq; rfl
theorem bodC_one (k : Int) (v : List Int) (t : ByteArray) : ∀ q ∈ (bodC k v t).toList, q.oneCell' = true := by
  intro q hq; simp [bodC, nums] at hq; rcases hq with rfl | ⟨a, _, rfl⟩ | rfl <;> rfl
theorem itC_one (x : It) : ∀ q ∈ (itC x).toList, q.oneCell' = true := by
  intro q hq; simp [itC, nums] at hq; rcases hq with rfl | rfl | rfl | ⟨a, _, rfl⟩ | rfl <;> rfl
theorem hoC_one (v : List Int) (s : Value) (hs : s.oneCell' = true) : ∀ q ∈ (hoC v s).toList, q.oneCell' = true := by
  intro q hq; simp [hoC, nums] at hq; rcases hq with ⟨a, _, rfl⟩ | rfl; rfl; exact hs
theorem nums_at (v : List Int) (i : Nat) (h : i < v.length) : (nums .u16 v)[i]? = some (.int .u16 (v.getD i 0)) := by simp [nums, h]
theorem vecC_at (v : List Int) (i : Nat) (h : i < v.length) : (vecC v)[i]? = some (.int .u16 (v.getD i 0)) := by simpa [vecC] using nums_at v i h
theorem hoC_at (v : List Int) (s : Value) (i : Nat) (h : i < v.length) : (hoC v s)[i]? = some (.int .u16 (v.getD i 0)) := by
  have := nums_at v i h
  simp only [hoC, List.getElem?_toArray]
  rw [List.getElem?_append_left (by simpa [nums] using h)]
  exact this
theorem hoC_last (v : List Int) (s : Value) (h : v.length = 16) : (hoC v s)[16]? = some s := by
  simp only [hoC, List.getElem?_toArray]
  rw [List.getElem?_append_right (by simp [nums, h])]
  simp [nums, h]
theorem bodC_at (k : Int) (v : List Int) (t : ByteArray) (i : Nat) (h : i < v.length) : (bodC k v t)[i + 1]? = some (.int .u16 (v.getD i 0)) := by
  have := nums_at v i h
  simp only [bodC, List.getElem?_toArray, List.getElem?_cons_succ]
  rw [List.getElem?_append_left (by simpa [nums] using h)]
  exact this
theorem bodC_last (k : Int) (v : List Int) (t : ByteArray) (h : v.length = 16) : (bodC k v t)[17]? = some (.string t) := by
  simp only [bodC, List.getElem?_toArray, List.getElem?_cons_succ]
  rw [List.getElem?_append_right (by simp [nums, h])]
  simp [nums, h]
theorem itC_at (x : It) (i : Nat) (h : i < x.past.length) : (itC x)[i + 3]? = some (.int .u16 (x.past.getD i 0)) := by
  have := nums_at x.past i h
  simp only [itC, List.getElem?_toArray, List.getElem?_cons_succ]
  rw [List.getElem?_append_left (by simpa [nums] using h)]
  exact this
theorem itC_last (x : It) (h : x.past.length = 16) : (itC x)[19]? = some (.string x.text) := by
  simp only [itC, List.getElem?_toArray, List.getElem?_cons_succ]
  rw [List.getElem?_append_right (by simp [nums, h])]
  simp [nums, h]
theorem itC_vec (x : It) (h : x.past.length = 16) : (itC x).extract 3 (3 + 16) = vecC x.past := by
  obtain ⟨f, s, k, v, t⟩ := x
  obtain ⟨a0, a1, a2, a3, a4, a5, a6, a7, a8, a9, a10, a11, a12, a13, a14, a15, rfl⟩ := list16 v h
  rfl
theorem itC_bod (x : It) (h : x.past.length = 16) : (itC x).extract 2 (2 + 18) = bodC x.kind x.past x.text := by
  obtain ⟨f, s, k, v, t⟩ := x
  obtain ⟨a0, a1, a2, a3, a4, a5, a6, a7, a8, a9, a10, a11, a12, a13, a14, a15, rfl⟩ := list16 v h
  rfl
theorem bodC_vec (k : Int) (v : List Int) (t : ByteArray) (h : v.length = 16) : (bodC k v t).extract 1 (1 + 16) = vecC v := by
  obtain ⟨a0, a1, a2, a3, a4, a5, a6, a7, a8, a9, a10, a11, a12, a13, a14, a15, rfl⟩ := list16 v h
  rfl
theorem hoC_vec (v : List Int) (s : Value) (h : v.length = 16) : (hoC v s).extract 0 (0 + 16) = vecC v := by
  obtain ⟨a0, a1, a2, a3, a4, a5, a6, a7, a8, a9, a10, a11, a12, a13, a14, a15, rfl⟩ := list16 v h
  rfl
theorem all_of (cs : Array Value) (n : Nat) (h : cs.size = n) : cs.extract 0 (0 + n) = cs := by subst h; simp
theorem put_all (cs vs : Array Value) (h : vs.size = cs.size) : (putL cs.toList 0 vs.toList).toArray = vs := by
  apply Array.toList_inj.1
  simp [putL, h]
theorem lt16 {i : Nat} (h : i < 16) : i = 0 ∨ i = 1 ∨ i = 2 ∨ i = 3 ∨ i = 4 ∨ i = 5 ∨ i = 6 ∨ i = 7 ∨ i = 8 ∨ i = 9 ∨ i = 10 ∨ i = 11 ∨ i = 12 ∨ i = 13 ∨ i = 14 ∨ i = 15 := by omega
theorem hoC_put (v : List Int) (s : Value) (i : Nat) (y : Int) (hv : v.length = 16) (h : i < 16) : (putL (hoC v s).toList i [.int .u16 y]).toArray = hoC (v.set i y) s := by
  obtain ⟨a0, a1, a2, a3, a4, a5, a6, a7, a8, a9, a10, a11, a12, a13, a14, a15, rfl⟩ := list16 v hv
  rcases lt16 h with rfl | rfl | rfl | rfl | rfl | rfl | rfl | rfl | rfl | rfl | rfl | rfl | rfl | rfl | rfl | rfl <;> rfl
theorem vecC_put (v : List Int) (i : Nat) (y : Int) (hv : v.length = 16) (h : i < 16) : (putL (vecC v).toList i [.int .u16 y]).toArray = vecC (v.set i y) := by
  obtain ⟨a0, a1, a2, a3, a4, a5, a6, a7, a8, a9, a10, a11, a12, a13, a14, a15, rfl⟩ := list16 v hv
  rcases lt16 h with rfl | rfl | rfl | rfl | rfl | rfl | rfl | rfl | rfl | rfl | rfl | rfl | rfl | rfl | rfl | rfl <;> rfl
theorem hoC_slice (v : List Int) (s s' : Value) (h : v.length = 16) : (putL (hoC v s).toList 16 [s']).toArray = hoC v s' := by
  obtain ⟨a0, a1, a2, a3, a4, a5, a6, a7, a8, a9, a10, a11, a12, a13, a14, a15, rfl⟩ := list16 v h
  rfl
section
variable {P : Program} {ops : Array Oper} {rest : List Oper} {o : Oper} {a : Act} {Q : Exit → Act → World → Prop} {Kc : Act → World → Prop} {S : Nat → Prop} {As : List Asr} {w0 W : World}
/-- a struct or an array is read out of a block -/
theorem ev_loadA {w : World} {g : Nat} {cs : Array Value} {T : TypeId} (hg : w.heap[g]? = some (.cells cs T (0, 0))) (j n : Nat) (vs : Array Value) (hvs : cs.extract j (j + n) = vs) (hgd : o.guard = none) {t : TypeId} {p : Operand} (ho : o.op = .load t p) (hp : a.eval p = .pointer (some ⟨g, j, none⟩)) {d : TypeDesc} (hu : P.underlying t = some d) (hd : d.isRow = true) (hs : vs.size = n) (hn : (P.info? t).map (·.size) = some n)
    (h : wpList P ops Q rest (a.put o.dst (.agg vs)) w) : wpList P ops Q (o :: rest) a w := by
  refine ev_load hg j n vs.toList (by rw [hvs]) hgd ho hp hu hd (by rw [hn]; simp [hs]) ?_
  simpa using h
/-- vs over the cells from j on: cs' -/
theorem evS_storeA (HH : OwnS S As w0 W) (i : Nat) (hgd : o.guard = none) (hN : o.dst = none) {t : TypeId} {p x : Operand} (ho : o.op = .store t p x) {g j : Nat} {cs : Array Value} {T : TypeId} (hi : As[i]? = some (Sep.blk g cs T)) (hp : a.eval p = .pointer (some ⟨g, j, none⟩))
    (u : Value) (hx : a.eval x = u) (vs : Array Value) (hu : u.cells = vs) (n m : Nat) (hs : vs.size = n) (hc : cs.size = m) (ht : (P.info? t).map (·.size) = some n) (hj : j + n ≤ m) (h1 : ∀ q ∈ vs.toList, q.oneCell' = true) (cs' : Array Value) (hcs : (putL cs.toList j vs.toList).toArray = cs')
    (h : ∀ w', OwnS S (As.set i (Sep.blk g cs' T)) w0 w' → wpList P ops Q rest a w') : wpList P ops Q (o :: rest) a W := by
  subst hcs
  exact evS_store HH i hgd hN ho hi hp u hx vs.toList (by rw [hu]) (by rw [ht]; simp [hs]) (by simp [hs, hc]; exact hj) h1 h
end
/-- an operation is taken first (wpAnyH_take, its conditions paid by themselves) -/
theorem tk {P : Program} {md : Region.Mode} {ops : Array Oper} {Q : Exit → Act → World → Prop} {S : World → Prop} {i : Nat} {oi : Oper} {v : Value} {fuel : Nat} {listed : Array Bool} {a : Act} {w : World}
    (hi : ops[i]? = some oi := by simp only [List.getElem?_toArray, List.getElem?_cons_succ, List.getElem?_cons_zero]; rfl)
    (hs : Region.noSelect ops = true := by kernel_rfl) (hf : Region.free md ops listed i = true := by kernel_rfl) (hr : (Region.ready md ops listed).contains i = true := by kernel_rfl)
    (hQ : ∀ c a w, Q (.panic c) (a.put oi.dst v) w → Q (.panic c) a w := by exact fun _ _ _ h => h) (hy : YieldsIf P ops S oi v a) (hS : S w := by assumption)
    (h : wpAnyH P md ops Q S fuel (listed.setIfInBounds i true) (a.put oi.dst v) w) : wpAnyH P md ops Q S (fuel + 1) listed a w := wpAnyH_take hi hs hf hr hQ hy hS h
/-! ### structs that are put together -/
theorem build_it (x : It) (h : x.past.length = 16) (w : World) : (Instr.build 43 #[(0, .int .u8 x.frm), (1, .int .i64 x.seq), (2, .agg (bodC x.kind x.past x.text))]).run Try.prog w = .ok (.agg (itC x)) w := by
  obtain ⟨f, s, k, v, t⟩ := x
  obtain ⟨a0, a1, a2, a3, a4, a5, a6, a7, a8, a9, a10, a11, a12, a13, a14, a15, rfl⟩ := list16 v h
  kernel_rfl
theorem buildR_it (x : It) (h : x.past.length = 16) (w : World) : (Instr.build 31 #[(0, .int .u8 x.frm), (1, .int .i64 x.seq), (2, .agg (bodC x.kind x.past x.text))]).run Try.prog w = .ok (.agg (itC x)) w := by
  obtain ⟨f, s, k, v, t⟩ := x
  obtain ⟨a0, a1, a2, a3, a4, a5, a6, a7, a8, a9, a10, a11, a12, a13, a14, a15, rfl⟩ := list16 v h
  kernel_rfl
theorem lit_it (x : It) (h : x.past.length = 16) (w : World) : (Instr.buildSlice 34 1 #[(0, .agg (itC x))]).run Try.prog w = .ok (.slice (some ⟨w.heap.size, 0, none⟩) 1 1) (w.alloc (.cells (itC x) 43)) := by
  obtain ⟨f, s, k, v, t⟩ := x
  obtain ⟨a0, a1, a2, a3, a4, a5, a6, a7, a8, a9, a10, a11, a12, a13, a14, a15, rfl⟩ := list16 v h
  kernel_rfl
theorem litR_it (x : It) (h : x.past.length = 16) (w : World) : (Instr.buildSlice 25 1 #[(0, .agg (itC x))]).run Try.prog w = .ok (.slice (some ⟨w.heap.size, 0, none⟩) 1 1) (w.alloc (.cells (itC x) 31)) := by
  obtain ⟨f, s, k, v, t⟩ := x
  obtain ⟨a0, a1, a2, a3, a4, a5, a6, a7, a8, a9, a10, a11, a12, a13, a14, a15, rfl⟩ := list16 v h
  kernel_rfl
end Go.Proofs.Ytkifekjcpnoclaa.Hld
