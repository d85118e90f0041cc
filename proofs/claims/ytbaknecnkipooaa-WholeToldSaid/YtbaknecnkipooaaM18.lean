/- Items and holds as plain data; cells of a struct with an array in it; events on such blocks. What may be; below; ready. Vectors: below, join. -/
import Derived.Test.YtbaknecnkipooaaM10
import Derived.Test.YtbaknecnkipooaaM02
import Derived.Test.YtbaknecnkipooaaProg
import Derived.WalkKit
import Derived.WalkLawsBesides
import Derived.Deep.LoopGhost
import Derived.Deep.QuietTactic
import Derived.Deep.RegionLaw
import Derived.Deep.RegionHeld3
import Derived.BigQuiet
import Derived.Laws.Rows
import Derived.Laws.Tables
import Derived.WalkSpells
namespace Go.Proofs.Ytbaknecnkipooaa.Hld
open Go Go.RowKit Go.Proofs.YtbaknecnkipooaaW.PrintWords Go.Proofs.Ytbaknecnkipooaa.Sep Go.Proofs.Ytbaknecnkipooaa.Obj
set_option linter.unusedVariables false
set_option linter.unusedSimpArgs false
def Kept (v : Value) (w : World) (e : Ending) (w' : World) : Prop := e = .returned v ∧ Below w.heap.size w w'
theorem below_frm {w w' : World} (h : Frm (fun _ => False) w w') : Below w.heap.size w w' := ⟨h.os, h.tape, h.output, h.size, fun k hk => h.block k hk (fun e => e)⟩
theorem list16 {α : Type} (l : List α) (h : l.length = 16) : ∃ a0 a1 a2 a3 a4 a5 a6 a7 a8 a9 a10 a11 a12 a13 a14 a15, l = [a0, a1, a2, a3, a4, a5, a6, a7, a8, a9, a10, a11, a12, a13, a14, a15] := by
  match l, h with
  | [a0, a1, a2, a3, a4, a5, a6, a7, a8, a9, a10, a11, a12, a13, a14, a15], _ => exact ⟨a0, a1, a2, a3, a4, a5, a6, a7, a8, a9, a10, a11, a12, a13, a14, a15, rfl⟩
structure It where
  frm : Int
  seq : Int
  kind : Int
  past : List Int
  text : ByteArray
def vecC (v : List Int) : Array Value := (nums .u16 v).toArray
def bodC (k : Int) (v : List Int) (t : ByteArray) : Array Value := (.int .i64 k :: (nums .u16 v ++ [.string t])).toArray
def itC (x : It) : Array Value := (.int .u8 x.frm :: .int .i64 x.seq :: .int .i64 x.kind :: (nums .u16 x.past ++ [.string x.text])).toArray
def hoC (v : List Int) (s : Value) : Array Value := (nums .u16 v ++ [s]).toArray
theorem vecC_size (v : List Int) (h : v.length = 16) : (vecC v).size = 16 := by simp [vecC, nums, h]
theorem bodC_size (k : Int) (v : List Int) (t : ByteArray) (h : v.length = 16) : (bodC k v t).size = 18 := by simp [bodC, nums, h]
theorem itC_size (x : It) (h : x.past.length = 16) : (itC x).size = 20 := by simp [itC, nums, h]
theorem hoC_size (v : List Int) (s : Value) (h : v.length = 16) : (hoC v s).size = 17 := by simp [hoC, nums, h]
theorem vecC_one (v : List Int) : ∀ q ∈ (vecC v).toList, q.oneCell' = true := by intro q hq; simp [vecC, nums] at hq; obtain ⟨a, _, rfl⟩ := hq; rfl
theorem bodC_one (k : Int) (v : List Int) (t : ByteArray) : ∀ q ∈ (bodC k v t).toList, q.oneCell' = true := by
  intro q hq; simp [bodC, nums] at hq; rcases hq with rfl | ⟨a, _, rfl⟩ | rfl <;> rfl
theorem itC_one (x : It) : ∀ q ∈ (itC x).toList, q.oneCell' = true := by
  intro q hq; simp [itC, nums] at hq; rcases hq with rfl | rfl | rfl | ⟨a, _, rfl⟩ | rfl <;> rfl
theorem hoC_one (v : List Int) (s : Value) (hs : s.oneCell' = true) : ∀ q ∈ (hoC v s).toList, q.oneCell' = true := by
  intro q hq; simp [hoC, nums] at hq; rcases hq with ⟨a, _, rfl⟩ | rfl; rfl; exact hs
theorem nums_at (v : List Int) (i : Nat) (h : i < v.length) : (nums .u16 v)[i]? = some (.int .u16 (v.getD i 0)) := by simp [nums, h]
theorem vecC_at (v : List Int) (i : Nat) (h : i < v.length) : (vecC v)[i]? = some (.int .u16 (v.getD i 0)) := by simpa [vecC] using nums_at v i h
theorem hoC_at (v : List Int) (s : Value) (i : Nat) (h : i < v.length) : (hoC v s)[i]? = some (.int .u16 (v.getD i 0)) := by
  have := nums_at v i h
  simp only [hoC, List.getElem?_toArray]
  rw [List.getElem?_append_left (by simpa [nums] using h)]
  exact this
theorem hoC_last (v : List Int) (s : Value) (h : v.length = 16) : (hoC v s)[16]? = some s := by
  simp only [hoC, List.getElem?_toArray]
  rw [List.getElem?_append_right (by simp [nums, h])]
  simp [nums, h]
theorem bodC_at (k : Int) (v : List Int) (t : ByteArray) (i : Nat) (h : i < v.length) : (bodC k v t)[i + 1]? = some (.int .u16 (v.getD i 0)) := by
  have := nums_at v i h
  simp only [bodC, List.getElem?_toArray, List.getElem?_cons_succ]
  rw [List.getElem?_append_left (by simpa [nums] using h)]
  exact this
theorem bodC_last (k : Int) (v : List Int) (t : ByteArray) (h : v.length = 16) : (bodC k v t)[17]? = some (.string t) := by
  simp only [bodC, List.getElem?_toArray, List.getElem?_cons_succ]
  rw [List.getElem?_append_right (by simp [nums, h])]
  simp [nums, h]
theorem itC_vec (x : It) (h : x.past.length = 16) : (itC x).extract 3 (3 + 16) = vecC x.past := by
  obtain ⟨f, s, k, v, t⟩ := x
  obtain ⟨a0, a1, a2, a3, a4, a5, a6, a7, a8, a9, a10, a11, a12, a13, a14, a15, rfl⟩ := list16 v h
  rfl
theorem itC_bod (x : It) (h : x.past.length = 16) : (itC x).extract 2 (2 + 18) = bodC x.kind x.past x.text := by
  obtain ⟨f, s, k, v, t⟩ := x
  obtain ⟨a0, a1, a2, a3, a4, a5, a6, a7, a8, a9, a10, a11, a12, a13, a14, a15, rfl⟩ := list16 v h
  rfl
theorem bodC_vec (k : Int) (v : List Int) (t : ByteArray) (h : v.length = 16) : (bodC k v t).extract 1 (1 + 16) = vecC v := by
  obtain ⟨a0, a1, a2, a3, a4, a5, a6, a7, a8, a9, a10, a11, a12, a13, a14, a15, rfl⟩ := list16 v h
  rfl
theorem hoC_vec (v : List Int) (s : Value) (h : v.length = 16) : (hoC v s).extract 0 (0 + 16) = vecC v := by
  obtain ⟨a0, a1, a2, a3, a4, a5, a6, a7, a8, a9, a10, a11, a12, a13, a14, a15, rfl⟩ := list16 v h
  rfl
theorem all_of (cs : Array Value) (n : Nat) (h : cs.size = n) : cs.extract 0 (0 + n) = cs := by subst h; simp
theorem put_all (cs vs : Array Value) (h : vs.size = cs.size) : (putL cs.toList 0 vs.toList).toArray = vs := by
  apply Array.toList_inj.1
  simp [putL, h]
theorem lt16 {i : Nat} (h : i < 16) : i = 0 ∨ i = 1 ∨ i = 2 ∨ i = 3 ∨ i = 4 ∨ i = 5 ∨ i = 6 ∨ i = 7 ∨ i = 8 ∨ i = 9 ∨ i = 10 ∨ i = 11 ∨ i = 12 ∨ i = 13 ∨ i = 14 ∨ i = 15 := by omega
theorem hoC_put (v : List Int) (s : Value) (i : Nat) (y : Int) (hv : v.length = 16) (h : i < 16) : (putL (hoC v s).toList i [.int .u16 y]).toArray = hoC (v.set i y) s := by
  obtain ⟨a0, a1, a2, a3, a4, a5, a6, a7, a8, a9, a10, a11, a12, a13, a14, a15, rfl⟩ := list16 v hv
  rcases lt16 h with rfl | rfl | rfl | rfl | rfl | rfl | rfl | rfl | rfl | rfl | rfl | rfl | rfl | rfl | rfl | rfl <;> rfl
theorem vecC_put (v : List Int) (i : Nat) (y : Int) (hv : v.length = 16) (h : i < 16) : (putL (vecC v).toList i [.int .u16 y]).toArray = vecC (v.set i y) := by
  obtain ⟨a0, a1, a2, a3, a4, a5, a6, a7, a8, a9, a10, a11, a12, a13, a14, a15, rfl⟩ := list16 v hv
  rcases lt16 h with rfl | rfl | rfl | rfl | rfl | rfl | rfl | rfl | rfl | rfl | rfl | rfl | rfl | rfl | rfl | rfl <;> rfl
theorem hoC_slice (v : List Int) (s s' : Value) (h : v.length = 16) : (putL (hoC v s).toList 16 [s']).toArray = hoC v s' := by
  obtain ⟨a0, a1, a2, a3, a4, a5, a6, a7, a8, a9, a10, a11, a12, a13, a14, a15, rfl⟩ := list16 v h
  rfl
section
variable {P : Program} {ops : Array Oper} {rest : List Oper} {o : Oper} {a : Act} {Q : Exit → Act → World → Prop} {Kc : Act → World → Prop} {S : Nat → Prop} {As : List Asr} {w0 W : World}
theorem ev_loadA {w : World} {g : Nat} {cs : Array Value} {T : TypeId} (hg : w.heap[g]? = some (.cells cs T (0, 0))) (j n : Nat) (vs : Array Value) (hvs : cs.extract j (j + n) = vs) (hgd : o.guard = none) {t : TypeId} {p : Operand} (ho : o.op = .load t p) (hp : a.eval p = .pointer (some ⟨g, j, none⟩)) {d : TypeDesc} (hu : P.underlying t = some d) (hd : d.isRow = true) (hs : vs.size = n) (hn : (P.info? t).map (·.size) = some n)
    (h : wpList P ops Q rest (a.put o.dst (.agg vs)) w) : wpList P ops Q (o :: rest) a w := by
  refine ev_load hg j n vs.toList (by rw [hvs]) hgd ho hp hu hd (by rw [hn]; simp [hs]) ?_
  simpa using h
theorem evS_storeA (HH : OwnS S As w0 W) (i : Nat) (hgd : o.guard = none) (hN : o.dst = none) {t : TypeId} {p x : Operand} (ho : o.op = .store t p x) {g j : Nat} {cs : Array Value} {T : TypeId} (hi : As[i]? = some (Sep.blk g cs T)) (hp : a.eval p = .pointer (some ⟨g, j, none⟩))
    (u : Value) (hx : a.eval x = u) (vs : Array Value) (hu : u.cells = vs) (n m : Nat) (hs : vs.size = n) (hc : cs.size = m) (ht : (P.info? t).map (·.size) = some n) (hj : j + n ≤ m) (h1 : ∀ q ∈ vs.toList, q.oneCell' = true) (cs' : Array Value) (hcs : (putL cs.toList j vs.toList).toArray = cs')
    (h : ∀ w', OwnS S (As.set i (Sep.blk g cs' T)) w0 w' → wpList P ops Q rest a w') : wpList P ops Q (o :: rest) a W := by
  subst hcs
  exact evS_store HH i hgd hN ho hi hp u hx vs.toList (by rw [hu]) (by rw [ht]; simp [hs]) (by simp [hs, hc]; exact hj) h1 h
end
theorem tk {P : Program} {md : Region.Mode} {ops : Array Oper} {Q : Exit → Act → World → Prop} {S : World → Prop} {i : Nat} {oi : Oper} {v : Value} {fuel : Nat} {listed : Array Bool} {a : Act} {w : World}
    (hi : ops[i]? = some oi := by simp only [List.getElem?_toArray, List.getElem?_cons_succ, List.getElem?_cons_zero]; rfl)
    (hs : Region.noSelect ops = true := by kernel_rfl) (hf : Region.free md ops listed i = true := by kernel_rfl) (hr : (Region.ready md ops listed).contains i = true := by kernel_rfl)
    (hQ : ∀ c a w, Q (.panic c) (a.put oi.dst v) w → Q (.panic c) a w := by exact fun _ _ _ h => h) (hy : YieldsIf P ops S oi v a) (hS : S w := by assumption)
    (h : wpAnyH P md ops Q S fuel (listed.setIfInBounds i true) (a.put oi.dst v) w) : wpAnyH P md ops Q S (fuel + 1) listed a w := wpAnyH_take hi hs hf hr hQ hy hS h
theorem build_it (x : It) (h : x.past.length = 16) (w : World) : (Instr.build 56 #[(0, .int .u8 x.frm), (1, .int .i64 x.seq), (2, .agg (bodC x.kind x.past x.text))]).run Try.prog w = .ok (.agg (itC x)) w := by
  obtain ⟨f, s, k, v, t⟩ := x
  obtain ⟨a0, a1, a2, a3, a4, a5, a6, a7, a8, a9, a10, a11, a12, a13, a14, a15, rfl⟩ := list16 v h
  kernel_rfl
theorem buildR_it (x : It) (h : x.past.length = 16) (w : World) : (Instr.build 40 #[(0, .int .u8 x.frm), (1, .int .i64 x.seq), (2, .agg (bodC x.kind x.past x.text))]).run Try.prog w = .ok (.agg (itC x)) w := by
  obtain ⟨f, s, k, v, t⟩ := x
  obtain ⟨a0, a1, a2, a3, a4, a5, a6, a7, a8, a9, a10, a11, a12, a13, a14, a15, rfl⟩ := list16 v h
  kernel_rfl
theorem lit_it (x : It) (h : x.past.length = 16) (w : World) : (Instr.buildSlice 34 1 #[(0, .agg (itC x))]).run Try.prog w = .ok (.slice (some ⟨w.heap.size, 0, none⟩) 1 1) (w.alloc (.cells (itC x) 56)) := by
  obtain ⟨f, s, k, v, t⟩ := x
  obtain ⟨a0, a1, a2, a3, a4, a5, a6, a7, a8, a9, a10, a11, a12, a13, a14, a15, rfl⟩ := list16 v h
  kernel_rfl
theorem litR_it (x : It) (h : x.past.length = 16) (w : World) : (Instr.buildSlice 25 1 #[(0, .agg (itC x))]).run Try.prog w = .ok (.slice (some ⟨w.heap.size, 0, none⟩) 1 1) (w.alloc (.cells (itC x) 40)) := by
  obtain ⟨f, s, k, v, t⟩ := x
  obtain ⟨a0, a1, a2, a3, a4, a5, a6, a7, a8, a9, a10, a11, a12, a13, a14, a15, rfl⟩ := list16 v h
  kernel_rfl
end Go.Proofs.Ytbaknecnkipooaa.Hld
namespace Go.Proofs.Ytbaknecnkipooaa.Hld
open Go Go.RowKit Go.Proofs.YtbaknecnkipooaaW.PrintWords Go.Proofs.Ytbaknecnkipooaa.Sep Go.Proofs.Ytbaknecnkipooaa.Obj
set_option linter.unusedVariables false
set_option linter.unusedSimpArgs false
def mayB (k : Int) (v : List Int) (t : ByteArray) : Bool := v.all (fun n => decide (n ≤ 1000)) && decide (1 ≤ k) && decide (k ≤ 3) && decide (t.size ≤ 400)
theorem all_take {v : List Int} {i : Nat} (h : i < v.length) (ha : ∀ x ∈ v.take i, x ≤ 1000) (hi : v.getD i 0 ≤ 1000) : ∀ x ∈ v.take (i + 1), x ≤ 1000 := by
  intro x hx
  rw [← List.take_append_getElem h] at hx
  rcases List.mem_append.1 hx with hx | hx
  · exact ha x hx
  · rw [List.mem_singleton.1 hx]
    simpa [List.getD_eq_getElem?_getD, h] using hi
theorem mayB_bad {k : Int} {v : List Int} {t : ByteArray} {i : Nat} (h : i < v.length) (hi : 1000 < v.getD i 0) : mayB k v t = false := by
  have h1 : v.all (fun n => decide (n ≤ 1000)) = false := by
    rw [List.all_eq_false]
    refine ⟨v[i], List.getElem_mem _, ?_⟩
    have : v.getD i 0 = v[i] := by simp [List.getD_eq_getElem?_getD, h]
    rw [this] at hi
    simp
    omega
  simp [mayB, h1]
theorem mayB_all {k : Int} {v : List Int} {t : ByteArray} (h : ∀ x ∈ v, x ≤ 1000) : mayB k v t = (decide (1 ≤ k) && decide (k ≤ 3) && decide (t.size ≤ 400)) := by
  have h1 : v.all (fun n => decide (n ≤ 1000)) = true := by
    rw [List.all_eq_true]
    intro x hx
    simpa using h x hx
  simp [mayB, h1]
theorem vec_index (v : List Int) (i : Nat) (hv : v.length = 16) (h : i < 16) : ∀ W : World, (Instr.index 30 (.agg (vecC v)) (.int .i64 (i : Int))).run Try.prog W = .ok (.int .u16 (v.getD i 0)) W := by
  intro W
  obtain ⟨a0, a1, a2, a3, a4, a5, a6, a7, a8, a9, a10, a11, a12, a13, a14, a15, rfl⟩ := list16 v hv
  rcases lt16 h with rfl | rfl | rfl | rfl | rfl | rfl | rfl | rfl | rfl | rfl | rfl | rfl | rfl | rfl | rfl | rfl <;> kernel_rfl
set_option maxHeartbeats 2000000 in
set_option maxRecDepth 100000 in
theorem may_calls (w : World) (k : Int) (v : List Int) (t : ByteArray) (hv : v.length = 16) (htx : t.size ≤ 9223372036854775807) : Calls Try.prog 15 #[.agg (bodC k v t)] w (Kept (.bool (mayB k v t)) w) := by
  have HH : Aside0 (OwnS (fun _ => False) [] w w) := ⟨OwnS.of_own (Own.start w)⟩
  go_enter Try.func15, Try.ntmps15
  go_wp2_with (first
    | ((with_reducible refine gate_dst (N := 1) rfl ?_); refine evS_box (oh HH) rfl (cs := bodC k v t) (T := 46) ?_ ?_; (focus first | (go_simp; done) | (go_simp; rfl)); intro g1 w1 he hh; clear he; replace HH : Aside0 (OwnS (fun _ => False) [Sep.blk g1 (bodC k v t) 46] w w1) := ⟨hh⟩; clear hh)
    | ((with_reducible refine gate_ (.load 30 (.tmp 5)) rfl ?_); refine ev_loadA (OwnS.blk (oh HH) 0 rfl) 1 16 (vecC v) (bodC_vec _ _ _ hv) rfl rfl (by rfl) Try.underlying30 rfl (vecC_size _ hv) (by kernel_rfl) ?_)
    | fail
    | fail)
  go_loopw [7] (fun vi W => ∃ (i : Nat), vi = .int .i64 (i : Int) ∧ i ≤ 16 ∧ Aside0 (∀ x ∈ v.take i, x ≤ 1000) ∧ Aside0 (OwnS (fun _ => False) [Sep.blk g1 (bodC k v t) 46] w W)) (fun vi _ => 16 - (intOf vi).toNat)
  case atStart => exact ⟨0, rfl, by omega, ⟨by simp⟩, HH⟩
  case round =>
    clear HH
    obtain ⟨i, rfl, hi, HA, HH⟩ := hrel
    by_cases hlt : i < 16
    · have HV : Aside0 (i < v.length) := ⟨by omega⟩
      obtain ⟨n, hn⟩ : ∃ n, v.getD i 0 = n := ⟨_, rfl⟩
      have hix := vec_index v i hv hlt
      rw [hn] at hix
      have HN := Aside0.mk hn
      clear hn
      have q0 : 0 ≤ (i : Int) := by omega
      have q1 : (i : Int) < 16 := by omega
      by_cases hbig : 1000 < n
      · have HBIG : Aside0 (1000 < v.getD i 0) := ⟨by rw [HN.out]; exact hbig⟩
        go_wp2_with fail
        go_ret
        exact ⟨by rw [mayB_bad HV.out HBIG.out]; rfl, below_frm (OwnS.frm HH.out)⟩
      · have HBIG : Aside0 (v.getD i 0 ≤ 1000) := ⟨by rw [HN.out]; omega⟩
        go_wp2_with fail
        go_roundw
        case rel => exact ⟨i + 1, by go_num, by omega, ⟨all_take HV.out HA.out HBIG.out⟩, HH⟩
        case measure => simp [intOf]; omega
    · have hi16 : i = 16 := by omega
      subst hi16
      have HAL : Aside0 (mayB k v t = (decide (1 ≤ k) && decide (k ≤ 3) && decide (t.size ≤ 400))) := ⟨mayB_all (by have := HA.out; rw [List.take_of_length_le (by omega)] at this; exact this)⟩
      have fc1 : wr.cell? ⟨g1, 0, none⟩ = some (.int .i64 k) := ((blk_cell (OwnS.blk HH.out 0 rfl) 0).trans rfl)
      have fc2 : wr.cell? ⟨g1, 17, none⟩ = some (.string t) := ((blk_cell (OwnS.blk HH.out 0 rfl) 17).trans (bodC_last _ _ _ hv))
      go_wp2_with (first
        | ((with_reducible refine gate_ (.load 3 (.tmp 13)) rfl ?_); refine ev_cell (v := .int .i64 k) ((blk_cell (OwnS.blk (oh HH) 0 rfl) 0).trans rfl) rfl rfl (by rfl) Try.underlying3 rfl ?_)
        | fail
        | fail)
      all_goals go_ret
      all_goals exact ⟨by rw [HAL.out]; simp [*]; try (first | omega | exact decide_eq_decide.2 (by omega)), below_frm (OwnS.frm HH.out)⟩
def rightB (k : Int) (v : List Int) (t : ByteArray) (f q : Int) : Bool := mayB k v t && decide (f < 16) && decide (v.getD f.toNat 0 = q)
def okV (v : List Int) : Prop := v.length = 16 ∧ ∀ x ∈ v, 0 ≤ x ∧ x ≤ 65535
theorem okV_at {v : List Int} (h : okV v) (i : Nat) (hi : i < 16) : 0 ≤ v.getD i 0 ∧ v.getD i 0 ≤ 65535 := by
  have hl : i < v.length := by have := h.1; omega
  have e : v.getD i 0 = v[i] := by simp [List.getD_eq_getElem?_getD, hl]
  rw [e]
  exact h.2 _ (List.getElem_mem _)
theorem wrap_u16 {n : Int} (h0 : 0 ≤ n) (h1 : n ≤ 65535) : IntKind.i64.wrap n = n := by rw [IntKind.wrap_i64]; omega
set_option maxHeartbeats 2000000 in
set_option maxRecDepth 100000 in
theorem right_calls (w : World) (k : Int) (v : List Int) (t : ByteArray) (f q : Int) (hv : okV v) (htx : t.size ≤ 9223372036854775807) (hf0 : 0 ≤ f) : Calls Try.prog 9 #[.agg (bodC k v t), .int .u8 f, .int .i64 q] w (Kept (.bool (rightB k v t f q)) w) := by
  have HH : Aside0 (OwnS (fun _ => False) [] w w) := ⟨OwnS.of_own (Own.start w)⟩
  cases hm : mayB k v t with
  | false =>
    go_enter Try.func9, Try.ntmps9
    go_wp2_with (first
        | ((with_reducible refine gate_dst (N := 3) rfl ?_); refine evS_box (oh HH) rfl (cs := bodC k v t) (T := 46) ?_ ?_; (focus first | (go_simp; done) | (go_simp; rfl)); intro g1 w1 he hh; clear he; replace HH : Aside0 (OwnS (fun _ => False) [Sep.blk g1 (bodC k v t) 46] w w1) := ⟨hh⟩; clear hh)
        | ((with_reducible refine gate_ (.load 46 (.tmp 3)) rfl ?_); refine ev_loadA (OwnS.blk (oh HH) 0 rfl) 0 18 (bodC k v t) (all_of _ 18 (bodC_size _ _ _ hv.1)) rfl rfl (by rfl) Try.underlying46 rfl (bodC_size _ _ _ hv.1) (by kernel_rfl) ?_)
        | (go_at_call 15; refine ownS_call (oh HH) ?_; intro ht; refine (may_calls _ k v t hv.1 htx).mono ?_; rintro e w2 ⟨rfl, hb⟩; rw [hm]; replace HH : Aside0 (OwnS (fun _ => False) [Sep.blk g1 (bodC k v t) 46] w w2) := ⟨OwnS.step ht hb⟩; clear hb; clear ht)
        | fail
        | fail)
    go_ret
    exact ⟨by simp [rightB, hm], below_frm (OwnS.frm HH.out)⟩
  | true =>
    by_cases hf : f < 16
    · obtain ⟨n, hn⟩ : ∃ n, v.getD f.toNat 0 = n := ⟨_, rfl⟩
      have HN := Aside0.mk hn
      have hr := okV_at hv f.toNat (by omega)
      rw [hn] at hr
      have hw := wrap_u16 hr.1 hr.2
      have hnn : 0 ≤ n := hr.1
      have HRB : Aside0 (rightB k v t f q = (n == q)) := ⟨by unfold rightB; rw [hm, decide_eq_true hf, HN.out]; simp [Bool.beq_eq_decide_eq]⟩
      clear hn hr
      go_enter Try.func9, Try.ntmps9
      go_wp2_with (first
        | ((with_reducible refine gate_dst (N := 3) rfl ?_); refine evS_box (oh HH) rfl (cs := bodC k v t) (T := 46) ?_ ?_; (focus first | (go_simp; done) | (go_simp; rfl)); intro g1 w1 he hh; clear he; replace HH : Aside0 (OwnS (fun _ => False) [Sep.blk g1 (bodC k v t) 46] w w1) := ⟨hh⟩; clear hh)
        | ((with_reducible refine gate_ (.load 46 (.tmp 3)) rfl ?_); refine ev_loadA (OwnS.blk (oh HH) 0 rfl) 0 18 (bodC k v t) (all_of _ 18 (bodC_size _ _ _ hv.1)) rfl rfl (by rfl) Try.underlying46 rfl (bodC_size _ _ _ hv.1) (by kernel_rfl) ?_)
        | (go_at_call 15; refine ownS_call (oh HH) ?_; intro ht; refine (may_calls _ k v t hv.1 htx).mono ?_; rintro e w2 ⟨rfl, hb⟩; rw [hm]; replace HH : Aside0 (OwnS (fun _ => False) [Sep.blk g1 (bodC k v t) 46] w w2) := ⟨OwnS.step ht hb⟩; clear hb; clear ht; have fi : w2.cell? ⟨g1, 1 + f.toNat, none⟩ = some (.int .u16 n) := (by rw [Nat.add_comm 1 f.toNat, ← HN.out]; exact (blk_cell (OwnS.blk HH.out 0 rfl) (f.toNat + 1)).trans (bodC_at _ _ _ f.toNat (by rw [hv.1]; omega))))
        | fail
        | fail)
      go_ret
      exact ⟨by rw [HRB.out]; rfl, below_frm (OwnS.frm HH.out)⟩
    · have HRB : Aside0 (rightB k v t f q = false) := ⟨by unfold rightB; rw [hm, decide_eq_false hf]; rfl⟩
      go_enter Try.func9, Try.ntmps9
      go_wp2_with (first
        | ((with_reducible refine gate_dst (N := 3) rfl ?_); refine evS_box (oh HH) rfl (cs := bodC k v t) (T := 46) ?_ ?_; (focus first | (go_simp; done) | (go_simp; rfl)); intro g1 w1 he hh; clear he; replace HH : Aside0 (OwnS (fun _ => False) [Sep.blk g1 (bodC k v t) 46] w w1) := ⟨hh⟩; clear hh)
        | ((with_reducible refine gate_ (.load 46 (.tmp 3)) rfl ?_); refine ev_loadA (OwnS.blk (oh HH) 0 rfl) 0 18 (bodC k v t) (all_of _ 18 (bodC_size _ _ _ hv.1)) rfl rfl (by rfl) Try.underlying46 rfl (bodC_size _ _ _ hv.1) (by kernel_rfl) ?_)
        | (go_at_call 15; refine ownS_call (oh HH) ?_; intro ht; refine (may_calls _ k v t hv.1 htx).mono ?_; rintro e w2 ⟨rfl, hb⟩; rw [hm]; replace HH : Aside0 (OwnS (fun _ => False) [Sep.blk g1 (bodC k v t) 46] w w2) := ⟨OwnS.step ht hb⟩; clear hb; clear ht)
        | fail
        | fail)
      go_ret
      exact ⟨by rw [HRB.out]; rfl, below_frm (OwnS.frm HH.out)⟩
def okI (x : It) : Prop := okV x.past ∧ (0 ≤ x.frm ∧ x.frm ≤ 255) ∧ x.text.size ≤ 9223372036854775807
def rightI (x : It) : Bool := rightB x.kind x.past x.text x.frm x.seq
set_option maxRecDepth 100000 in
theorem imay_calls (w : World) (x : It) (hx : okI x) : Calls Try.prog 29 #[.agg (itC x)] w (Kept (.bool (rightI x)) w) := by
  have HH : Aside0 (OwnS (fun _ => False) [] w w) := ⟨OwnS.of_own (Own.start w)⟩
  go_enter Try.func29, Try.ntmps29
  go_wp2_with (first
    | ((with_reducible refine gate_dst (N := 1) rfl ?_); refine evS_box (oh HH) rfl (cs := itC x) (T := 56) ?_ ?_; (focus first | (go_simp; done) | (go_simp; rfl)); intro g1 w1 he hh; clear he; replace HH : Aside0 (OwnS (fun _ => False) [Sep.blk g1 (itC x) 56] w w1) := ⟨hh⟩; clear hh)
    | ((with_reducible refine gate_ (.load 46 (.tmp 3)) rfl ?_); refine ev_loadA (OwnS.blk (oh HH) 0 rfl) 2 18 (bodC (x.kind) (x.past) (x.text)) (itC_bod _ hx.1.1) rfl rfl (by rfl) Try.underlying46 rfl (bodC_size _ _ _ hx.1.1) (by kernel_rfl) ?_)
    | ((with_reducible refine gate_ (.load 5 (.tmp 5)) rfl ?_); refine ev_cell (v := .int .u8 x.frm) ((blk_cell (OwnS.blk (oh HH) 0 rfl) 0).trans rfl) rfl rfl (by rfl) Try.underlying5 rfl ?_)
    | ((with_reducible refine gate_ (.load 3 (.tmp 7)) rfl ?_); refine ev_cell (v := .int .i64 x.seq) ((blk_cell (OwnS.blk (oh HH) 0 rfl) 1).trans rfl) rfl rfl (by rfl) Try.underlying3 rfl ?_)
    | (go_at_call 9; refine ownS_call (oh HH) ?_; intro ht; refine (right_calls _ x.kind x.past x.text x.frm x.seq hx.1 hx.2.2 hx.2.1.1).mono ?_; rintro e w2 ⟨rfl, hb⟩; replace HH : Aside0 (OwnS (fun _ => False) [Sep.blk g1 (itC x) 56] w w2) := ⟨OwnS.step ht hb⟩; clear hb; clear ht)
    | fail
    | fail)
  go_ret
  exact ⟨rfl, below_frm (OwnS.frm HH.out)⟩
end Go.Proofs.Ytbaknecnkipooaa.Hld
namespace Go.Proofs.Ytbaknecnkipooaa.Hld
open Go Go.RowKit Go.Proofs.YtbaknecnkipooaaW.PrintWords Go.Proofs.Ytbaknecnkipooaa.Sep Go.Proofs.Ytbaknecnkipooaa.Obj
set_option linter.unusedVariables false
set_option linter.unusedSimpArgs false
def belL (a b : List Int) : Bool := (List.range 16).all fun i => decide (a.getD i 0 ≤ b.getD i 0)
theorem belL_true {a b : List Int} (h : ∀ i, i < 16 → a.getD i 0 ≤ b.getD i 0) : belL a b = true := by
  unfold belL
  rw [List.all_eq_true]
  intro i hi
  exact decide_eq_true (h i (List.mem_range.1 hi))
theorem belL_iff {a b : List Int} : belL a b = true ↔ ∀ i, i < 16 → a.getD i 0 ≤ b.getD i 0 := by
  unfold belL
  rw [List.all_eq_true]
  exact ⟨fun h i hi => of_decide_eq_true (h i (List.mem_range.2 hi)), fun h i hi => decide_eq_true (h i (List.mem_range.1 hi))⟩
def mx (a b : Int) : Int := if a < b then b else a
def joinN (a b : List Int) (i : Nat) : List Int := (List.range 16).map fun j => if j < i then mx (a.getD j 0) (b.getD j 0) else a.getD j 0
def joinL (a b : List Int) : List Int := joinN a b 16
theorem joinN_len (a b : List Int) (i : Nat) : (joinN a b i).length = 16 := by simp [joinN]
theorem joinL_len (a b : List Int) : (joinL a b).length = 16 := joinN_len a b 16
theorem joinN_at (a b : List Int) (i j : Nat) (hj : j < 16) : (joinN a b i).getD j 0 = if j < i then mx (a.getD j 0) (b.getD j 0) else a.getD j 0 := by
  simp [joinN, List.getD_eq_getElem?_getD, hj]
theorem joinN_zero (a b : List Int) (h : a.length = 16) : joinN a b 0 = a := by
  obtain ⟨a0, a1, a2, a3, a4, a5, a6, a7, a8, a9, a10, a11, a12, a13, a14, a15, rfl⟩ := list16 a h
  rfl
theorem joinN_step (a b : List Int) (i : Nat) (hi : i < 16) : (joinN a b i).set i (mx (a.getD i 0) (b.getD i 0)) = joinN a b (i + 1) := by
  apply List.ext_getElem?
  intro j
  rw [List.getElem?_set]
  by_cases e : i = j
  · subst e
    rw [if_pos rfl, if_pos (by rw [joinN_len]; exact hi)]
    simp [joinN, hi]
  · rw [if_neg e]
    rcases Nat.lt_or_ge j 16 with h | h
    · have : (j < i) = (j < i + 1) := by rw [eq_iff_iff]; omega
      simp [joinN, h, this]
    · rw [List.getElem?_eq_none (by rw [joinN_len]; exact h), List.getElem?_eq_none (by rw [joinN_len]; exact h)]
theorem vecC_set (v : List Int) (i : Nat) (y : Int) : (vecC v).setIfInBounds i (.int .u16 y) = vecC (v.set i y) := by
  apply Array.toList_inj.1
  simp [vecC, nums]
theorem OwnS.setV {S : Nat → Prop} {As : List Asr} {w0 w : World} (h : OwnS S As w0 w) (i : Nat) {g : Nat} {v : List Int} {T : TypeId} (hi : As[i]? = some (Sep.blk g (vecC v) T)) (j : Nat) (y : Int) : OwnS S (As.set i (Sep.blk g (vecC (v.set j y)) T)) w0 (w.setCell ⟨g, j, none⟩ (.int .u16 y)) := by
  have := OwnS.setC h i hi j (.int .u16 y)
  rw [vecC_set] at this
  exact this
set_option maxHeartbeats 2000000 in
set_option maxRecDepth 100000 in
theorem join_calls (w : World) (a b : List Int) (ha : a.length = 16) (hb : b.length = 16) : Calls Try.prog 35 #[.agg (vecC a), .agg (vecC b)] w (Kept (.agg (vecC (joinL a b))) w) := by
  have HH : Aside0 (OwnS (fun _ => False) [] w w) := ⟨OwnS.of_own (Own.start w)⟩
  go_enter Try.func35, Try.ntmps35
  go_wp2_with (first
    | ((with_reducible refine gate_dst (N := 2) rfl ?_); refine evS_box (oh HH) rfl (cs := vecC a) (T := 30) ?_ ?_; (focus first | (go_simp; done) | (go_simp; rfl)); intro g1 w1 he hh; clear he; replace HH : Aside0 (OwnS (fun _ => False) [Sep.blk g1 (vecC a) 30] w w1) := ⟨hh⟩; clear hh)
    | ((with_reducible refine gate_dst (N := 3) rfl ?_); refine evS_box (oh HH) rfl (cs := vecC b) (T := 30) ?_ ?_; (focus first | (go_simp; done) | (go_simp; rfl)); intro g2 w2 he hh; clear he; replace HH : Aside0 (OwnS (fun _ => False) [Sep.blk g1 (vecC a) 30, Sep.blk g2 (vecC b) 30] w w2) := ⟨hh⟩; clear hh)
    | ((with_reducible refine gate_dst (N := 4) rfl ?_); refine evS_box (oh HH) rfl (cs := vecC (List.replicate 16 (0 : Int))) (T := 30) ?_ ?_; (focus first | (go_simp; done) | (go_simp; rfl)); intro g3 w3 he hh; clear he; replace HH : Aside0 (OwnS (fun _ => False) [Sep.blk g1 (vecC a) 30, Sep.blk g2 (vecC b) 30, Sep.blk g3 (vecC (List.replicate 16 (0 : Int))) 30] w w3) := ⟨hh⟩; clear hh)
    | ((with_reducible refine gate_ (.load 30 (.tmp 3)) rfl ?_); refine ev_loadA (OwnS.blk (oh HH) 1 rfl) 0 16 (vecC b) (all_of _ 16 (vecC_size _ hb)) rfl rfl (by rfl) Try.underlying30 rfl (vecC_size _ hb) (by kernel_rfl) ?_)
    | fail
    | fail)
  go_loopw [8] (fun vi W => ∃ (i : Nat), vi = .int .i64 (i : Int) ∧ i ≤ 16 ∧ Aside0 (OwnS (fun _ => False) [Sep.blk g1 (vecC (joinN a b i)) 30, Sep.blk g2 (vecC b) 30, Sep.blk g3 (vecC (List.replicate 16 (0 : Int))) 30] w W)) (fun vi _ => 16 - (intOf vi).toNat)
  case atStart => exact ⟨0, rfl, by omega, ⟨by rw [joinN_zero a b ha]; exact HH.out⟩⟩
  case round =>
    clear HH
    obtain ⟨i, rfl, hi, HH⟩ := hrel
    by_cases hlt : i < 16
    · obtain ⟨x, hx⟩ : ∃ x, (joinN a b i).getD i 0 = x := ⟨_, rfl⟩
      obtain ⟨y, hy⟩ : ∃ y, b.getD i 0 = y := ⟨_, rfl⟩
      have HX := Aside0.mk hx
      have HS : Aside0 ((joinN a b i).set i (if x < y then y else x) = joinN a b (i + 1)) := ⟨by
        have h1 := joinN_at a b i i hlt
        rw [if_neg (Nat.lt_irrefl _), hx] at h1
        rw [h1, ← hy]
        exact joinN_step a b i hlt⟩
      clear hx
      have fa : wr.cell? ⟨g1, i, none⟩ = some (.int .u16 x) := (by rw [← HX.out]; exact (blk_cell (OwnS.blk HH.out 0 rfl) i).trans (vecC_at _ i (by rw [joinN_len]; exact hlt)))
      have fz : wr.frozen? ⟨g1, i, none⟩ = false := blk_frozen (OwnS.blk HH.out 0 rfl) i
      have fb := vec_index b i hb hlt
      rw [hy] at fb
      clear hy
      have q0 : 0 ≤ (i : Int) := by omega
      have q1 : (i : Int) < 16 := by omega
      go_wp2_with fail
      go_roundw
      all_goals first | exact ⟨i + 1, by go_num, by omega, ⟨by rw [← HS.out]; exact OwnS.setV HH.out 0 rfl i _⟩⟩ | (simp [intOf]; omega)
    · have hi16 : i = 16 := by omega
      subst hi16
      have HHx : Aside0 (OwnS (fun _ => False) [Sep.blk g1 (vecC (joinL a b)) 30, Sep.blk g2 (vecC b) 30, Sep.blk g3 (vecC (List.replicate 16 (0 : Int))) 30] w wr) := ⟨HH.out⟩
      clear HH
      have HH := HHx
      clear HHx
      go_wp2_with (first
        | ((with_reducible refine gate_ (.load 30 (.tmp 2)) rfl ?_); refine ev_loadA (OwnS.blk (oh HH) 0 rfl) 0 16 (vecC (joinL a b)) (all_of _ 16 (vecC_size _ (joinL_len _ _))) rfl rfl (by rfl) Try.underlying30 rfl (vecC_size _ (joinL_len _ _)) (by kernel_rfl) ?_)
        | ((with_reducible refine gate_ (.store 30 (.tmp 4) (.tmp 20)) rfl ?_); refine evS_storeA (oh HH) 2 rfl rfl rfl rfl (by rfl) (.agg (vecC (joinL a b))) (by rfl) (vecC (joinL a b)) (by rfl) 16 16 (vecC_size _ (joinL_len _ _)) (vecC_size _ (by rfl)) (by kernel_rfl) (by decide) (vecC_one _) (vecC (joinL a b)) (put_all _ _ (by rw [(vecC_size _ (joinL_len _ _)), (vecC_size _ (by rfl))])) ?_; intro w21 hh; replace HH : Aside0 (OwnS (fun _ => False) [Sep.blk g1 (vecC (joinL a b)) 30, Sep.blk g2 (vecC b) 30, Sep.blk g3 (vecC (joinL a b)) 30] w w21) := ⟨hh⟩; clear hh)
        | fail
        | fail)
      refine bodyPost_ret (v := .agg (vecC (joinL a b))) (results_cell_row rfl _ _ g3 30 (vecC (joinL a b)) (0, 0) _ rfl (OwnS.blk HH.out 2 rfl) Try.underlying30 rfl (by rw [(vecC_size _ (joinL_len _ _))]; kernel_rfl)) rfl ?_
      exact ⟨rfl, below_frm (OwnS.frm HH.out)⟩
set_option maxHeartbeats 2000000 in
set_option maxRecDepth 100000 in
theorem rjoin_calls (w : World) (a b : List Int) (ha : a.length = 16) (hb : b.length = 16) : Calls Try.prog 14 #[.agg (vecC a), .agg (vecC b)] w (Kept (.agg (vecC (joinL a b))) w) := by
  have HH : Aside0 (OwnS (fun _ => False) [] w w) := ⟨OwnS.of_own (Own.start w)⟩
  go_enter Try.func14, Try.ntmps14
  go_wp2_with (first
    | ((with_reducible refine gate_dst (N := 2) rfl ?_); refine evS_box (oh HH) rfl (cs := vecC a) (T := 30) ?_ ?_; (focus first | (go_simp; done) | (go_simp; rfl)); intro g1 w1 he hh; clear he; replace HH : Aside0 (OwnS (fun _ => False) [Sep.blk g1 (vecC a) 30] w w1) := ⟨hh⟩; clear hh)
    | ((with_reducible refine gate_dst (N := 3) rfl ?_); refine evS_box (oh HH) rfl (cs := vecC b) (T := 30) ?_ ?_; (focus first | (go_simp; done) | (go_simp; rfl)); intro g2 w2 he hh; clear he; replace HH : Aside0 (OwnS (fun _ => False) [Sep.blk g1 (vecC a) 30, Sep.blk g2 (vecC b) 30] w w2) := ⟨hh⟩; clear hh)
    | ((with_reducible refine gate_dst (N := 4) rfl ?_); refine evS_box (oh HH) rfl (cs := vecC (List.replicate 16 (0 : Int))) (T := 30) ?_ ?_; (focus first | (go_simp; done) | (go_simp; rfl)); intro g3 w3 he hh; clear he; replace HH : Aside0 (OwnS (fun _ => False) [Sep.blk g1 (vecC a) 30, Sep.blk g2 (vecC b) 30, Sep.blk g3 (vecC (List.replicate 16 (0 : Int))) 30] w w3) := ⟨hh⟩; clear hh)
    | fail
    | fail)
  go_loopw [5] (fun vi W => ∃ (i : Nat), vi = .int .i64 (i : Int) ∧ i ≤ 16 ∧ Aside0 (OwnS (fun _ => False) [Sep.blk g1 (vecC (joinN a b i)) 30, Sep.blk g2 (vecC b) 30, Sep.blk g3 (vecC (List.replicate 16 (0 : Int))) 30] w W)) (fun vi _ => 16 - (intOf vi).toNat)
  case atStart => exact ⟨0, rfl, by omega, ⟨by rw [joinN_zero a b ha]; exact HH.out⟩⟩
  case round =>
    clear HH
    obtain ⟨i, rfl, hi, HH⟩ := hrel
    by_cases hlt : i < 16
    · obtain ⟨x, hx⟩ : ∃ x, (joinN a b i).getD i 0 = x := ⟨_, rfl⟩
      obtain ⟨y, hy⟩ : ∃ y, b.getD i 0 = y := ⟨_, rfl⟩
      have HX := Aside0.mk hx
      have HS : Aside0 ((joinN a b i).set i (if x < y then y else x) = joinN a b (i + 1)) := ⟨by
        have h1 := joinN_at a b i i hlt
        rw [if_neg (Nat.lt_irrefl _), hx] at h1
        rw [h1, ← hy]
        exact joinN_step a b i hlt⟩
      clear hx
      have fa : wr.cell? ⟨g1, i, none⟩ = some (.int .u16 x) := (by rw [← HX.out]; exact (blk_cell (OwnS.blk HH.out 0 rfl) i).trans (vecC_at _ i (by rw [joinN_len]; exact hlt)))
      have fz : wr.frozen? ⟨g1, i, none⟩ = false := blk_frozen (OwnS.blk HH.out 0 rfl) i
      have fb : wr.cell? ⟨g2, i, none⟩ = some (.int .u16 y) := (by rw [← hy]; exact (blk_cell (OwnS.blk HH.out 1 rfl) i).trans (vecC_at _ i (by rw [hb]; exact hlt)))
      clear hy
      have q0 : 0 ≤ (i : Int) := by omega
      have q1 : (i : Int) < 16 := by omega
      go_wp2_with fail
      go_region_law (fail)
      all_goals (go_wp2_with fail; go_roundw)
      all_goals first | exact ⟨i + 1, by go_num, by omega, ⟨by rw [← HS.out]; exact OwnS.drew (OwnS.setV HH.out 0 rfl i _)⟩⟩ | (simp [intOf]; omega)
    · have hi16 : i = 16 := by omega
      subst hi16
      have HHx : Aside0 (OwnS (fun _ => False) [Sep.blk g1 (vecC (joinL a b)) 30, Sep.blk g2 (vecC b) 30, Sep.blk g3 (vecC (List.replicate 16 (0 : Int))) 30] w wr) := ⟨HH.out⟩
      clear HH
      have HH := HHx
      clear HHx
      go_wp2_with (first
        | ((with_reducible refine gate_ (.load 30 (.tmp 2)) rfl ?_); refine ev_loadA (OwnS.blk (oh HH) 0 rfl) 0 16 (vecC (joinL a b)) (all_of _ 16 (vecC_size _ (joinL_len _ _))) rfl rfl (by rfl) Try.underlying30 rfl (vecC_size _ (joinL_len _ _)) (by kernel_rfl) ?_)
        | ((with_reducible refine gate_ (.store 30 (.tmp 4) (.tmp 19)) rfl ?_); refine evS_storeA (oh HH) 2 rfl rfl rfl rfl (by rfl) (.agg (vecC (joinL a b))) (by rfl) (vecC (joinL a b)) (by rfl) 16 16 (vecC_size _ (joinL_len _ _)) (vecC_size _ (by rfl)) (by kernel_rfl) (by decide) (vecC_one _) (vecC (joinL a b)) (put_all _ _ (by rw [(vecC_size _ (joinL_len _ _)), (vecC_size _ (by rfl))])) ?_; intro w21 hh; replace HH : Aside0 (OwnS (fun _ => False) [Sep.blk g1 (vecC (joinL a b)) 30, Sep.blk g2 (vecC b) 30, Sep.blk g3 (vecC (joinL a b)) 30] w w21) := ⟨hh⟩; clear hh)
        | fail
        | fail)
      refine bodyPost_ret (v := .agg (vecC (joinL a b))) (results_cell_row rfl _ _ g3 30 (vecC (joinL a b)) (0, 0) _ rfl (OwnS.blk HH.out 2 rfl) Try.underlying30 rfl (by rw [(vecC_size _ (joinL_len _ _))]; kernel_rfl)) rfl ?_
      exact ⟨rfl, below_frm (OwnS.frm HH.out)⟩
end Go.Proofs.Ytbaknecnkipooaa.Hld
