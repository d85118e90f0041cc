/- Votes: one block written; ready. -/
import Derived.Test.YtkppilpailbpeaaVotTake2
namespace Go.Proofs.Ytkppilpailbpeaa.Vot
open Go Go.RowKit Go.Proofs.YtkppilpailbpeaaW.PrintWords Go.Proofs.Ytkppilpailbpeaa.Cnt Go.Proofs.Ytkppilpailbpeaa.Opn
set_option linter.unusedVariables false
set_option linter.unusedSimpArgs false

/-- only block g has been written; others may be new -/
structure Touch (g : Nat) (W w' : World) : Prop where
  os : w'.os = W.os
  tape : w'.tape = W.tape
  output : w'.output = W.output
  size : W.heap.size ≤ w'.heap.size
  block : ∀ k, k < W.heap.size → k ≠ g → w'.heap[k]? = W.heap[k]?
theorem Touch.below {g B : Nat} {w0 W w' : World} (h : Touch g W w') (hb : Below B w0 W) (hg : B ≤ g) (hB : B ≤ W.heap.size) : Below B w0 w' :=
  ⟨h.os.trans hb.os, h.tape.trans hb.tape, h.output.trans hb.output, Nat.le_trans hb.size h.size, fun k hk => (h.block k (by omega) (by omega)).trans (hb.block k hk)⟩
theorem Touch.blk {g k : Nat} {W w' : World} {o : Obj} (h : Touch g W w') (hk : W.heap[k]? = some o) (hne : k ≠ g) : w'.heap[k]? = some o := (h.block k (blk_lt hk) hne).trans hk
theorem Touch.rb {g : Nat} {W w' : World} {v : Value} {l : List Bal} {cs : Array Value} {T : TypeId} (h : Touch g W w') (hr : RB W v l) (hg : W.heap[g]? = some (.cells cs T (0, 0))) (hT : 77 ≠ T) : RB w' v l :=
  Kd.R_mono (Kd.R_step (Kd.R_types hr hg (fun q hq => by rw [tyB' q hq]; exact hT)) (fun k hk hlt => h.block k hlt hk.2)) (fun _ _ => trivial)
theorem Touch.set (W : World) (g j : Nat) (u : Value) : Touch g W (W.setCell ⟨g, j, none⟩ u) :=
  ⟨((Below.refl 0 W).setCell (p := ⟨g, j, none⟩) (Nat.zero_le _) u).os, ((Below.refl 0 W).setCell (p := ⟨g, j, none⟩) (Nat.zero_le _) u).tape, ((Below.refl 0 W).setCell (p := ⟨g, j, none⟩) (Nat.zero_le _) u).output, by simp, fun k _ hk => Below.heap_setCell W ⟨g, j, none⟩ u k hk⟩
theorem Touch.alloc {g : Nat} {W w' : World} (h : Touch g W w') (o : Obj) : Touch g W (w'.alloc o) :=
  ⟨h.os, h.tape, h.output, by have := h.size; simp; omega, fun k hk hne => (Below.heap_alloc w' o k (by have := h.size; omega)).trans (h.block k hk hne)⟩
theorem Touch.refl (g : Nat) (W : World) : Touch g W W := ⟨rfl, rfl, rfl, Nat.le_refl _, fun _ _ _ => rfl⟩
/-- a cell of a block is written: the world behind it as a letter -/
theorem set_event {P : Program} {ops : Array Oper} {rest : List Oper} {o : Oper} {a : Act} {Q : Exit → Act → World → Prop} {W : World} (hN : o.dst = none) (hgd : o.guard = none) (t : TypeId) (p x : Operand) (ho : o.op = .store t p x) (g j : Nat) (cs : Array Value) (T : TypeId) (u : Value)
    (hp : a.eval p = .pointer (some ⟨g, j, none⟩)) (hx : a.eval x = u) (hu : u.cells.toList = [u]) (ht : (P.info? t).map (·.size) = some 1) (hg : W.heap[g]? = some (.cells cs T (0, 0))) (hj : j < cs.size) (h1 : u.oneCell' = true)
    (h : ∀ w', w'.heap[g]? = some (.cells (cs.setIfInBounds j u) T (0, 0)) → Touch g W w' → wpList P ops Q rest a w') : wpList P ops Q (o :: rest) a W := by
  refine wpList_plain hgd fun K hK => ?_
  have hrun : (Instr.storeAt t (.pointer (some ⟨g, j, none⟩)) u).run P W = .ok () (W.setCell ⟨g, j, none⟩ u) :=
    run_store_run t u [u] hg hu ht (by simp; omega) (by intro q hq; rw [List.mem_singleton] at hq; subst hq; exact h1)
  unfold Oper.wp execOp
  simp only [ho, hp, hx, Sem.run_bind, Sem.run_pure, Result.andThen_ok, hrun]
  show K (a.put o.dst undef) _
  rw [hN]
  exact hK a _ (h _ (blk_set hg j u) (Touch.set _ _ _ _))

theorem Touch.ro {g : Nat} {W w' : World} {v : Value} {l : List Out} {cs : Array Value} {T : TypeId} (h : Touch g W w') (hr : RO W v l) (hg : W.heap[g]? = some (.cells cs T (0, 0))) (hT : 72 ≠ T) : RO w' v l :=
  Kd.R_mono (Kd.R_step (Kd.R_types hr hg (fun q hq => by rw [tyO q hq]; exact hT)) (fun k hk hlt => h.block k hlt hk.2)) (fun _ _ => trivial)
/-- ready's answer -/
def readyL (r : Bool) (body : ByteArray) : List Out := if r = true then [] else [⟨3, body⟩]
theorem ready_calls (g : Nat) (e r d : Bool) (vE vR : Value) (body : ByteArray) (w : World) (hg : w.heap[g]? = some (.cells #[.bool e, .bool r, .bool d, vE, vR] 35 (0, 0))) :
    Calls Try.prog 37 #[.pointer (some ⟨g, 0, none⟩), .string body] w (fun en w' => ∃ A n, en = .returned (.slice A (readyL r body).length n) ∧ RO w' (.slice A (readyL r body).length n) (readyL r body) ∧ w'.heap[g]? = some (.cells #[.bool e, .bool true, .bool d, vE, vR] 35 (0, 0)) ∧ Touch g w w') := by
  cases r with
  | true =>
    refine (ready_yes g e d vE vR body w hg).mono ?_
    rintro en w' ⟨rfl, rfl⟩
    exact ⟨none, 0, rfl, Kd.R_nil _ _ _ _ _, hg, Touch.refl _ _⟩
  | false =>
    refine (ready_no g e d vE vR body w hg).mono ?_
    rintro en w' ⟨rfl, rfl⟩
    refine ⟨some ⟨w.heap.size, 0, none⟩, 1, rfl, ?_, blk_alloc (blk_set hg 1 _) _, Touch.alloc (Touch.set _ _ _ _) _⟩
    have := RO_lit (w.setCell ⟨g, 1, none⟩ (.bool true)) 3 body
    simpa [readyL] using this
theorem cast_no {A : Option Addr} {ca : Nat} {l : List Bal} {who : Int} {body : ByteArray} {w : World} (hr : RB w (.slice A l.length ca) l) (hl : l.length ≤ 900000) (hw : whoOk l) (h0 : 0 ≤ who) (hv : votedL l who = true) :
    Calls Try.prog 36 #[.slice A l.length ca, .int .u8 who, .string body] w (fun en w' => ∃ A6 c6, en = .returned (.tuple #[.slice A6 l.length c6, .int .i64 0, .bool false]) ∧ Below w.heap.size w w') := by
  have hrr := Kd.R_reads' hr
  refine (cast_calls A ca l who body w hrr.2.2 hrr.2.1 hl hw h0).mono ?_
  rintro en w' (⟨_, A6, c6, he, _, _, hb⟩ | ⟨hn, _⟩)
  · exact ⟨A6, c6, he, hb⟩
  · rw [hv] at hn; cases hn
theorem cast_yes {A : Option Addr} {ca : Nat} {l : List Bal} {who : Int} {body : ByteArray} {w : World} (hr : RB w (.slice A l.length ca) l) (hl : l.length ≤ 900000) (hw : whoOk l) (h0 : 0 ≤ who) (hv : votedL l who = false) {L : List Bal} (hL : withL l who body = L) {mn : Int} (hmn : manyL l who body = mn) :
    Calls Try.prog 36 #[.slice A l.length ca, .int .u8 who, .string body] w (fun en w' => ∃ A6 c6, en = .returned (.tuple #[.slice A6 L.length c6, .int .i64 mn, .bool true]) ∧ RB w' (.slice A6 L.length c6) L ∧ Below w.heap.size w w') := by
  have hrr := Kd.R_reads' hr
  subst hL
  subst hmn
  refine (cast_calls A ca l who body w hrr.2.2 hrr.2.1 hl hw h0).mono ?_
  rintro en w' (⟨hn, _⟩ | ⟨_, A6, c6, he, h, hb⟩)
  · rw [hv] at hn; cases hn
  · exact ⟨A6, c6, he, h, hb⟩
end Go.Proofs.Ytkppilpailbpeaa.Vot
