/- The walk of WholeQuorums. -/
import Derived.Test.YtbaknecnkipooaaDoorTopPlain
import Derived.Test.YtbaknecnkipooaaDoorCntList
namespace Go.Proofs.YtbaknecnkipooaaDoor.Vot
open Go Go.RowKit Go.Proofs.YtbaknecnkipooaaDoorW.PrintWords Go.Proofs.YtbaknecnkipooaaDoor.Cnt Go.Proofs.YtbaknecnkipooaaDoor.Opn
set_option linter.unusedVariables false
set_option linter.unusedSimpArgs false

theorem szall : ∀ k : Fin 16, sz (2 ^ (k.val + 1) - 1) = k.val + 1 := by decide
theorem hasall : ∀ k : Fin 16, hasB (2 ^ (k.val + 1) - 1) 0 = true := by decide
/-- block g holds a case -/
def CaseB (w : World) (g : Nat) (c : Cas) : Prop := ∃ A1 c1 A2 c2, w.heap[g]? = some (.cells #[.bool c.echoed, .bool c.readied, .bool c.done, .slice A1 c.echoes.length c1, .slice A2 c.readies.length c2] 34 (0, 0)) ∧ RB w (.slice A1 c.echoes.length c1) c.echoes ∧ RB w (.slice A2 c.readies.length c2) c.readies
theorem CaseB.below {w w' : World} {g : Nat} {c : Cas} (h : CaseB w g c) (hb : Below w.heap.size w w') : CaseB w' g c := by
  obtain ⟨A1, c1, A2, c2, hC, h1, h2⟩ := h
  exact ⟨A1, c1, A2, c2, blk_below hC hb, Kd.R_below h1 hb, Kd.R_below h2 hb⟩
theorem CaseB.stored {W : World} {g : Nat} {c : Cas} {old : Array Value} {A1 A2 : Option Addr} {c1 c2 : Nat} (hg : W.heap[g]? = some (.cells old 34 (0, 0))) (h1 : RB W (.slice A1 c.echoes.length c1) c.echoes) (h2 : RB W (.slice A2 c.readies.length c2) c.readies) : CaseB (W.setRow g #[.bool c.echoed, .bool c.readied, .bool c.done, .slice A1 c.echoes.length c1, .slice A2 c.readies.length c2]) g c :=
  ⟨A1, c1, A2, c2, setRow_heap _ _ _ _ _ _ hg, RB_row h1 hg (by decide) _, RB_row h2 hg (by decide) _⟩
theorem testBit_flip16 (b i : Nat) (hb : b < 65536) (hi : i < 16) : (65535 - b).testBit i = !b.testBit i := by
  have := testBit_flip b i hb
  simpa [hi] using this
theorem quorum_of {al co fi sa xo se s0 s1 s2 k : Nat} (hal : 2 ^ (k + 1) - 1 = al) (hco : s2 &&& al = co) (hfi : s0 &&& al = fi) (hsa : s1 &&& al = sa) (hxo : fi &&& (65535 - co) = xo) (hse : sa &&& (65535 - xo) = se) (hk : k < 16) (hgt : ((sz co : Nat) : Int) ≤ faulty ((k : Int) + 1)) (lal : al < 65536) (lco : co < 65536) (lxo : xo < 65536) :
    ¬ (echoes ((k + 1 : Nat) : Int) ≤ (sz fi : Int) ∧ echoes ((k + 1 : Nat) : Int) ≤ (sz se : Int)) := by
  have hbit : ∀ i, al.testBit i = true → i < k + 1 := by
    intro i h
    rw [← hal, Nat.testBit_two_pow_sub_one] at h
    simpa using h
  have hf : ∀ i, fi.testBit i = true → i < k + 1 := fun i h => by rw [← hfi, Nat.testBit_and, Bool.and_eq_true] at h; exact hbit i h.2
  have hs : ∀ i, se.testBit i = true → i < k + 1 := fun i h => by rw [← hse, Nat.testBit_and, Bool.and_eq_true, ← hsa, Nat.testBit_and, Bool.and_eq_true] at h; exact hbit i h.1.2
  refine quorum (corrupt := co) (by omega) (by omega) hf hs (by rw [show ((k + 1 : Nat) : Int) = (k : Int) + 1 from by omega]; exact hgt) (fun i h1 h2 => ?_)
  have hi := hf i h1
  rw [← hse, Nat.testBit_and, Bool.and_eq_true, testBit_flip16 xo i lxo (by omega)] at h2
  have h3 : xo.testBit i = false := by simpa using h2.2
  rw [← hxo, Nat.testBit_and, h1, Bool.true_and, testBit_flip16 co i lco (by omega)] at h3
  simpa using h3

abbrev RU (w : World) (v : Value) (l : List Int) : Prop := (Kd.int .u8).R 5 w 0 (fun _ => True) v l
theorem tyU : ∀ q, q ∈ 5 :: (Kd.int .u8).E → q = 5 := by
  intro q hq
  simpa [Kd.int, Kd.scalar] using hq
theorem Touch.ru {g : Nat} {W w' : World} {v : Value} {l : List Int} {cs : Array Value} {T : TypeId} (h : Touch g W w') (hr : RU W v l) (hg : W.heap[g]? = some (.cells cs T (0, 0))) (hT : 5 ≠ T) : RU w' v l :=
  Kd.R_mono (Kd.R_step (Kd.R_types hr hg (fun q hq => by rw [tyU q hq]; exact hT)) (fun k hk hlt => h.block k hlt hk.2)) (fun _ _ => trivial)
theorem Touch.trans {g : Nat} {a b c : World} (h : Touch g a b) (k : Touch g b c) : Touch g a c :=
  ⟨k.os.trans h.os, k.tape.trans h.tape, k.output.trans h.output, Nat.le_trans h.size k.size, fun i hi hne => (k.block i (Nat.lt_of_lt_of_le hi h.size) hne).trans (h.block i hi hne)⟩
theorem Touch.row (W : World) (g : Nat) (cs : Array Value) : Touch g W (W.setRow g cs) := by
  have hb : Below 0 W (W.setRow g cs) := below_setRow ⟨rfl, rfl, rfl, Nat.le_refl _, fun k hk => by omega⟩ (Nat.zero_le _) cs
  exact ⟨hb.os, hb.tape, hb.output, hb.size, fun k _ hk => setRow_other W g k cs hk⟩
theorem RB_C {w : World} {A : Option Addr} {c : Nat} {l : List Bal} (h : RB w (.slice A l.length c) l) : kB.C w A l.length l := (Kd.R_reads' h).2.2
theorem RB_le {w : World} {A : Option Addr} {c : Nat} {l : List Bal} (h : RB w (.slice A l.length c) l) : l.length ≤ c := (Kd.R_reads' h).2.1
theorem caseQ_nil (m : Nat) (body : ByteArray) : caseQ m body [] = ⟨false, false, false, [], []⟩ := by
  have h1 := held_range (m : Int)
  have h2 := faulty_range (m : Int)
  have h3 : ¬ echoes (m : Int) ≤ 0 := by unfold echoes; omega
  simp [caseQ, h3]
theorem orI_lt (l : List Nat) (h : ∀ i ∈ l, i < 16) : orI l < 65536 := by
  have hg : ∀ (l : List Nat) (a : Nat), a < 65536 → (∀ i ∈ l, i < 16) → l.foldl (fun a i => a ||| 2 ^ i) a < 65536 := by
    intro l
    induction l with
    | nil => intro a ha _; exact ha
    | cons x r ih =>
      intro a ha h
      rw [List.foldl_cons]
      refine ih _ (or_lt ha ?_) (fun i hi => h i (by simp [hi]))
      have hx := h x (by simp)
      have : 2 ^ x ≤ 2 ^ 15 := Nat.pow_le_pow_right (by decide) (by omega)
      omega
  exact hg l 0 (by omega) h
theorem caseQ_ok (m : Nat) (body : ByteArray) (l : List Nat) (h : ∀ i ∈ l, i < 16) : whoOk (caseQ m body l).echoes ∧ whoOk (caseQ m body l).readies ∧ (caseQ m body l).echoes.length ≤ 1 ∧ (caseQ m body l).readies.length = 0 := by
  refine ⟨fun x hx => ?_, fun x hx => by simp [caseQ] at hx, by unfold caseQ; split <;> simp, rfl⟩
  unfold caseQ at hx
  by_cases hl : l = []
  · simp [hl] at hx
  · simp only [hl, if_false, List.mem_singleton] at hx
    subst hx
    exact orI_lt l h

theorem takeW : takeM ⟨false, false, false, [], []⟩ 1 0 3 0 ⟨#[120]⟩ = ⟨⟨false, true, true, [], [⟨⟨#[120]⟩, 1⟩]⟩, [⟨3, ⟨#[120]⟩⟩], ⟨#[120]⟩, true, 0⟩ := by
  have s1 : sz 1 = 1 := by decide
  have s2 : ∀ n, hit ⟨#[120]⟩ ⟨⟨#[120]⟩, n⟩ = true := hit_self _
  have s3 : (⟨#[120]⟩ : ByteArray).size = 1 := rfl
  have b0 : hasB 1 0 = true := by decide
  have b1 : bitN 0 = 1 := by decide
  have f1 : faulty 1 = 0 := by decide
  simp [takeM, readyA, s3, votedL, withL, manyL, forL, readyC, readyO, doneB, s1, s2, b0, b1, f1]
set_option maxRecDepth 100000 in
theorem works_calls (w : World) : Calls Tryd.prog 4 #[] w (Kept (.bool true) w) := by
  have HB := Aside0.mk (Below.refl w.heap.size w)
  have HF4 : Aside0 (faulty 4 = 1) := ⟨by decide⟩
  have hSS : ((⟨#[120]⟩ : ByteArray).toList == (⟨#[120]⟩ : ByteArray).toList) = true := by simp
  go_enter Tryd.func4, Tryd.ntmps4
  go_wp2_with (first | (go_at_call 8; refine (take_calls ⟨false, false, false, [], []⟩ none 0 none 0 1 0 3 0 ⟨#[120]⟩ _ (Kd.C_nil _ _) (Kd.C_nil _ _) (Nat.le_refl _) (Nat.le_refl _) (by simp) (by simp) (by omega) (by omega) (by omega) (by omega) (by omega) (by omega) (by omega) (by decide) (fun x hx => by simp at hx) (fun x hx => by simp at hx)).mono ?_; rw [takeW]; rintro e w1 ⟨v, A3, n3, rfl, ⟨B1, d1, B2, d2, rfl, hr1, hr2⟩, hO, hb⟩; clear hr1 hr2 hO; have HBx : Aside0 (Below w.heap.size w w1) := ⟨below_back hb (by repeat (first | (with_reducible exact HB.out) | (with_reducible refine below_alloc ?_ _) | (with_reducible refine pw_below_drewN ?_ _) | (with_reducible refine below_drew ?_)))⟩; clear HB hb; have HB := HBx; clear HBx) | (go_at_call 6; refine (faulty_calls 4 _).mono ?_; rw [HF4.out]; rintro e w2 ⟨rfl, m2, rfl⟩) | fail)
  go_ret
  exact ⟨rfl, (by repeat (first | (with_reducible exact HB.out) | (with_reducible refine below_alloc ?_ _) | (with_reducible refine pw_below_drewN ?_ _) | (with_reducible refine below_drew ?_)))⟩

set_option maxHeartbeats 4000000 in
set_option maxRecDepth 100000 in
theorem quorums_calls (k s0 s1 s2 : Nat) (n : Int) (b0 b1 : ByteArray) (w : World) (hT : Tab w) (hn0 : 0 ≤ n) (hn1 : n ≤ 255) (hk : n % 16 = (k : Int)) (h0 : s0 < 65536) (h1 : s1 < 65536) (h2 : s2 < 65536) (hb0 : b0.size ≤ 9223372036854775807) (hb1 : b1.size ≤ 9223372036854775807) :
    Calls Tryd.prog 3 #[.int .u8 n, .agg #[.int .u16 (s0 : Int), .int .u16 (s1 : Int), .int .u16 (s2 : Int)], .agg #[.string b0, .string b1]] w (Kept (.bool true) w) := by
  have hk16 : k < 16 := by omega
  have HB := Aside0.mk (Below.refl w.heap.size w)
  have HT := Aside0.mk hT
  have hwk : IntKind.i64.wrap (k : Int) = (k : Int) := IntWalk.i64_in _ (by omega)
  clear hT
  by_cases hz0 : 100 < b0.size
  · go_enter Tryd.func3, Tryd.ntmps3
    go_wp2_with (first | (go_at_call 4; refine (works_calls _).mono ?_; rintro e w1 ⟨rfl, hb⟩; have HS : Aside0 (w1.heap[w.heap.size]? = some (.cells #[.int .u16 (s0 : Int), .int .u16 (s1 : Int), .int .u16 (s2 : Int)] 24 (0, 0))) := ⟨blk_below (by repeat (first | (with_reducible exact HS.out) | (with_reducible refine blk_drew ?_) | (with_reducible refine blk_drewN ?_ _) | (with_reducible refine blk_newg ?_; (simp; done)) | (with_reducible refine blk_alloc ?_ _))) hb⟩; have HS2 : Aside0 (w1.heap[w.heap.size + 1]? = some (.cells #[.string b0, .string b1] 25 (0, 0))) := ⟨blk_below (by repeat (first | (with_reducible exact HS2.out) | (with_reducible refine blk_drew ?_) | (with_reducible refine blk_drewN ?_ _) | (with_reducible refine blk_newg ?_; (simp; done)) | (with_reducible refine blk_alloc ?_ _))) hb⟩; have HBx : Aside0 (Below w.heap.size w w1) := ⟨below_back hb (by repeat (first | (with_reducible exact HB.out) | (with_reducible refine below_alloc ?_ _) | (with_reducible refine pw_below_drewN ?_ _) | (with_reducible refine below_drew ?_)))⟩; clear HB hb; have HB := HBx; clear HBx; have c0 : w1.cell? ⟨w.heap.size, 0, none⟩ = some (.int .u16 (s0 : Int)) := blk_cell HS.out 0; have c1 : w1.cell? ⟨w.heap.size, 1, none⟩ = some (.int .u16 (s1 : Int)) := blk_cell HS.out 1; have c2 : w1.cell? ⟨w.heap.size, 2, none⟩ = some (.int .u16 (s2 : Int)) := blk_cell HS.out 2; have d0 : w1.cell? ⟨w.heap.size + 1, 0, none⟩ = some (.string b0) := blk_cell HS2.out 0; have d1 : w1.cell? ⟨w.heap.size + 1, 1, none⟩ = some (.string b1) := blk_cell HS2.out 1; have lt1 := blk_lt HS2.out) | fail)
    go_ret
    exact ⟨rfl, (by repeat (first | (with_reducible exact HB.out) | (with_reducible refine below_alloc ?_ _) | (with_reducible refine pw_below_drewN ?_ _) | (with_reducible refine below_drew ?_)))⟩
  by_cases hz1 : 100 < b1.size
  · go_enter Tryd.func3, Tryd.ntmps3
    go_wp2_with (first | (go_at_call 4; refine (works_calls _).mono ?_; rintro e w1 ⟨rfl, hb⟩; have HS : Aside0 (w1.heap[w.heap.size]? = some (.cells #[.int .u16 (s0 : Int), .int .u16 (s1 : Int), .int .u16 (s2 : Int)] 24 (0, 0))) := ⟨blk_below (by repeat (first | (with_reducible exact HS.out) | (with_reducible refine blk_drew ?_) | (with_reducible refine blk_drewN ?_ _) | (with_reducible refine blk_newg ?_; (simp; done)) | (with_reducible refine blk_alloc ?_ _))) hb⟩; have HS2 : Aside0 (w1.heap[w.heap.size + 1]? = some (.cells #[.string b0, .string b1] 25 (0, 0))) := ⟨blk_below (by repeat (first | (with_reducible exact HS2.out) | (with_reducible refine blk_drew ?_) | (with_reducible refine blk_drewN ?_ _) | (with_reducible refine blk_newg ?_; (simp; done)) | (with_reducible refine blk_alloc ?_ _))) hb⟩; have HBx : Aside0 (Below w.heap.size w w1) := ⟨below_back hb (by repeat (first | (with_reducible exact HB.out) | (with_reducible refine below_alloc ?_ _) | (with_reducible refine pw_below_drewN ?_ _) | (with_reducible refine below_drew ?_)))⟩; clear HB hb; have HB := HBx; clear HBx; have c0 : w1.cell? ⟨w.heap.size, 0, none⟩ = some (.int .u16 (s0 : Int)) := blk_cell HS.out 0; have c1 : w1.cell? ⟨w.heap.size, 1, none⟩ = some (.int .u16 (s1 : Int)) := blk_cell HS.out 1; have c2 : w1.cell? ⟨w.heap.size, 2, none⟩ = some (.int .u16 (s2 : Int)) := blk_cell HS.out 2; have d0 : w1.cell? ⟨w.heap.size + 1, 0, none⟩ = some (.string b0) := blk_cell HS2.out 0; have d1 : w1.cell? ⟨w.heap.size + 1, 1, none⟩ = some (.string b1) := blk_cell HS2.out 1; have lt1 := blk_lt HS2.out) | fail)
    go_ret
    exact ⟨rfl, (by repeat (first | (with_reducible exact HB.out) | (with_reducible refine below_alloc ?_ _) | (with_reducible refine pw_below_drewN ?_ _) | (with_reducible refine below_drew ?_)))⟩
  cases hbb : b0.toList == b1.toList with
  | true =>
    go_enter Tryd.func3, Tryd.ntmps3
    go_wp2_with (first | (go_at_call 4; refine (works_calls _).mono ?_; rintro e w1 ⟨rfl, hb⟩; have HS : Aside0 (w1.heap[w.heap.size]? = some (.cells #[.int .u16 (s0 : Int), .int .u16 (s1 : Int), .int .u16 (s2 : Int)] 24 (0, 0))) := ⟨blk_below (by repeat (first | (with_reducible exact HS.out) | (with_reducible refine blk_drew ?_) | (with_reducible refine blk_drewN ?_ _) | (with_reducible refine blk_newg ?_; (simp; done)) | (with_reducible refine blk_alloc ?_ _))) hb⟩; have HS2 : Aside0 (w1.heap[w.heap.size + 1]? = some (.cells #[.string b0, .string b1] 25 (0, 0))) := ⟨blk_below (by repeat (first | (with_reducible exact HS2.out) | (with_reducible refine blk_drew ?_) | (with_reducible refine blk_drewN ?_ _) | (with_reducible refine blk_newg ?_; (simp; done)) | (with_reducible refine blk_alloc ?_ _))) hb⟩; have HBx : Aside0 (Below w.heap.size w w1) := ⟨below_back hb (by repeat (first | (with_reducible exact HB.out) | (with_reducible refine below_alloc ?_ _) | (with_reducible refine pw_below_drewN ?_ _) | (with_reducible refine below_drew ?_)))⟩; clear HB hb; have HB := HBx; clear HBx; have c0 : w1.cell? ⟨w.heap.size, 0, none⟩ = some (.int .u16 (s0 : Int)) := blk_cell HS.out 0; have c1 : w1.cell? ⟨w.heap.size, 1, none⟩ = some (.int .u16 (s1 : Int)) := blk_cell HS.out 1; have c2 : w1.cell? ⟨w.heap.size, 2, none⟩ = some (.int .u16 (s2 : Int)) := blk_cell HS.out 2; have d0 : w1.cell? ⟨w.heap.size + 1, 0, none⟩ = some (.string b0) := blk_cell HS2.out 0; have d1 : w1.cell? ⟨w.heap.size + 1, 1, none⟩ = some (.string b1) := blk_cell HS2.out 1; have lt1 := blk_lt HS2.out) | fail)
    go_ret
    exact ⟨rfl, (by repeat (first | (with_reducible exact HB.out) | (with_reducible refine below_alloc ?_ _) | (with_reducible refine pw_below_drewN ?_ _) | (with_reducible refine below_drew ?_)))⟩
  | false =>
    obtain ⟨al, hal⟩ : ∃ al : Nat, 2 ^ (k + 1) - 1 = al := ⟨_, rfl⟩
    have hp1 : 2 ^ (k + 1) ≤ 2 ^ 16 := Nat.pow_le_pow_right (by decide) (by omega)
    have hp0 : 0 < 2 ^ (k + 1) := Nat.two_pow_pos _
    have hall : al < 65536 := by omega
    have hpc : ((2 : Int) ^ (k + 1)) = ((2 ^ (k + 1) : Nat) : Int) := by simp
    have ha : IntKind.u16.wrap (((2 : Int) ^ (k + 1) - 1) % 4294967296) = (al : Int) := by rw [IntKind.wrap_u16, hpc]; omega
    obtain ⟨co, hco⟩ : ∃ co, s2 &&& al = co := ⟨_, rfl⟩
    obtain ⟨fi, hfi⟩ : ∃ fi, s0 &&& al = fi := ⟨_, rfl⟩
    obtain ⟨sa, hsa⟩ : ∃ sa, s1 &&& al = sa := ⟨_, rfl⟩
    have lco : co < 65536 := by rw [← hco]; exact Nat.lt_of_le_of_lt Nat.and_le_left h2
    have lfi : fi < 65536 := by rw [← hfi]; exact Nat.lt_of_le_of_lt Nat.and_le_left h0
    have lsa : sa < 65536 := by rw [← hsa]; exact Nat.lt_of_le_of_lt Nat.and_le_left h1
    have qb1 : bits .and .u16 (s2 : Int) (al : Int) = (co : Int) := by rw [← hco]; exact u16_and_nat s2 al h2 hall
    have qb2 : bits .and .u16 (s0 : Int) (al : Int) = (fi : Int) := by rw [← hfi]; exact u16_and_nat s0 al h0 hall
    have qb3 : bits .and .u16 (s1 : Int) (al : Int) = (sa : Int) := by rw [← hsa]; exact u16_and_nat s1 al h1 hall
    obtain ⟨xo, hxo⟩ : ∃ xo, fi &&& (65535 - co) = xo := ⟨_, rfl⟩
    have lxo : xo < 65536 := by rw [← hxo]; exact Nat.lt_of_le_of_lt Nat.and_le_left lfi
    have qb4 : bits .andNot .u16 (fi : Int) (co : Int) = (xo : Int) := by rw [← hxo]; exact u16_andNot_nat fi co lfi lco
    obtain ⟨se, hse⟩ : ∃ se, sa &&& (65535 - xo) = se := ⟨_, rfl⟩
    have lse : se < 65536 := by rw [← hse]; exact Nat.lt_of_le_of_lt Nat.and_le_left lsa
    have qb5 : bits .andNot .u16 (sa : Int) (xo : Int) = (se : Int) := by rw [← hse]; exact u16_andNot_nat sa xo lsa lxo
    have HAl := Aside0.mk hal
    have HCo := Aside0.mk hco
    have HFi := Aside0.mk hfi
    have HSa := Aside0.mk hsa
    have HXo := Aside0.mk hxo
    have HSe := Aside0.mk hse
    clear hal hco hfi hsa hxo hse hpc hp0 hp1
    by_cases hgt : faulty ((k : Int) + 1) < (sz co : Nat)
    · go_enter Tryd.func3, Tryd.ntmps3
      go_wp2_with (first
        | (go_at_call 4; refine (works_calls _).mono ?_; rintro e w1 ⟨rfl, hb⟩; have HS : Aside0 (w1.heap[w.heap.size]? = some (.cells #[.int .u16 (s0 : Int), .int .u16 (s1 : Int), .int .u16 (s2 : Int)] 24 (0, 0))) := ⟨blk_below (by repeat (first | (with_reducible exact HS.out) | (with_reducible refine blk_drew ?_) | (with_reducible refine blk_drewN ?_ _) | (with_reducible refine blk_newg ?_; (simp; done)) | (with_reducible refine blk_alloc ?_ _))) hb⟩; have HS2 : Aside0 (w1.heap[w.heap.size + 1]? = some (.cells #[.string b0, .string b1] 25 (0, 0))) := ⟨blk_below (by repeat (first | (with_reducible exact HS2.out) | (with_reducible refine blk_drew ?_) | (with_reducible refine blk_drewN ?_ _) | (with_reducible refine blk_newg ?_; (simp; done)) | (with_reducible refine blk_alloc ?_ _))) hb⟩; have HBx : Aside0 (Below w.heap.size w w1) := ⟨below_back hb (by repeat (first | (with_reducible exact HB.out) | (with_reducible refine below_alloc ?_ _) | (with_reducible refine pw_below_drewN ?_ _) | (with_reducible refine below_drew ?_)))⟩; clear HB hb; have HB := HBx; clear HBx; have c0 : w1.cell? ⟨w.heap.size, 0, none⟩ = some (.int .u16 (s0 : Int)) := blk_cell HS.out 0; have c1 : w1.cell? ⟨w.heap.size, 1, none⟩ = some (.int .u16 (s1 : Int)) := blk_cell HS.out 1; have c2 : w1.cell? ⟨w.heap.size, 2, none⟩ = some (.int .u16 (s2 : Int)) := blk_cell HS.out 2; have d0 : w1.cell? ⟨w.heap.size + 1, 0, none⟩ = some (.string b0) := blk_cell HS2.out 0; have d1 : w1.cell? ⟨w.heap.size + 1, 1, none⟩ = some (.string b1) := blk_cell HS2.out 1; have lt1 := blk_lt HS2.out)
        | (go_at_call 5; refine (size_calls co _ lco).mono ?_; rintro e w3 ⟨rfl, m3, rfl⟩)
        | (go_at_call 6; refine (faulty_calls ((k : Int) + 1) _).mono ?_; rintro e w4 ⟨rfl, m4, rfl⟩)
        | fail)
      go_ret
      exact ⟨rfl, (by repeat (first | (with_reducible exact HB.out) | (with_reducible refine below_alloc ?_ _) | (with_reducible refine pw_below_drewN ?_ _) | (with_reducible refine below_drew ?_)))⟩
    · go_enter Tryd.func3, Tryd.ntmps3
      go_wp2_with (first
        | (go_at_call 4; refine (works_calls _).mono ?_; rintro e w1 ⟨rfl, hb⟩; have HS : Aside0 (w1.heap[w.heap.size]? = some (.cells #[.int .u16 (s0 : Int), .int .u16 (s1 : Int), .int .u16 (s2 : Int)] 24 (0, 0))) := ⟨blk_below (by repeat (first | (with_reducible exact HS.out) | (with_reducible refine blk_drew ?_) | (with_reducible refine blk_drewN ?_ _) | (with_reducible refine blk_newg ?_; (simp; done)) | (with_reducible refine blk_alloc ?_ _))) hb⟩; have HS2 : Aside0 (w1.heap[w.heap.size + 1]? = some (.cells #[.string b0, .string b1] 25 (0, 0))) := ⟨blk_below (by repeat (first | (with_reducible exact HS2.out) | (with_reducible refine blk_drew ?_) | (with_reducible refine blk_drewN ?_ _) | (with_reducible refine blk_newg ?_; (simp; done)) | (with_reducible refine blk_alloc ?_ _))) hb⟩; have HBx : Aside0 (Below w.heap.size w w1) := ⟨below_back hb (by repeat (first | (with_reducible exact HB.out) | (with_reducible refine below_alloc ?_ _) | (with_reducible refine pw_below_drewN ?_ _) | (with_reducible refine below_drew ?_)))⟩; clear HB hb; have HB := HBx; clear HBx; have c0 : w1.cell? ⟨w.heap.size, 0, none⟩ = some (.int .u16 (s0 : Int)) := blk_cell HS.out 0; have c1 : w1.cell? ⟨w.heap.size, 1, none⟩ = some (.int .u16 (s1 : Int)) := blk_cell HS.out 1; have c2 : w1.cell? ⟨w.heap.size, 2, none⟩ = some (.int .u16 (s2 : Int)) := blk_cell HS.out 2; have d0 : w1.cell? ⟨w.heap.size + 1, 0, none⟩ = some (.string b0) := blk_cell HS2.out 0; have d1 : w1.cell? ⟨w.heap.size + 1, 1, none⟩ = some (.string b1) := blk_cell HS2.out 1; have lt1 := blk_lt HS2.out)
        | (go_at_call 5; refine (size_calls co _ lco).mono ?_; rintro e w3 ⟨rfl, m3, rfl⟩)
        | (go_at_call 6; refine (faulty_calls ((k : Int) + 1) _).mono ?_; rintro e w4 ⟨rfl, m4, rfl⟩)
        | (refine gate_ (.store 30 (.tmp 12) (.tmp 71)) rfl ?_; refine wpList_store_row rfl 30 (.tmp 12) (.tmp 71) rfl w1.heap.size #[.bool false, .bool false] rfl rfl 30 #[.bool false, .bool false] (blk_new _ _) (by kernel_rfl) rfl (by simp [Value.oneCell']) ?_)
        | fail)
      have hsz : sz al = k + 1 := by rw [← HAl.out]; exact szall ⟨k, hk16⟩
      have h00 : hasB al 0 = true := by rw [← HAl.out]; exact hasall ⟨k, hk16⟩
      have hq := quorum_of HAl.out HCo.out HFi.out HSa.out HXo.out HSe.out hk16 (by omega) hall lco lxo
      have hsub0 : ∀ i, fi.testBit i = true → al.testBit i = true := fun i h => by rw [← HFi.out, Nat.testBit_and, Bool.and_eq_true] at h; exact h.2
      have hsub1 : ∀ i, se.testBit i = true → al.testBit i = true := fun i h => by rw [← HSe.out, Nat.testBit_and, Bool.and_eq_true, ← HSa.out, Nat.testBit_and, Bool.and_eq_true] at h; exact h.1.2
      obtain ⟨e0, he0⟩ : ∃ b, decide (echoes ((k + 1 : Nat) : Int) ≤ (sz fi : Int)) = b := ⟨_, rfl⟩
      obtain ⟨e1, he1⟩ : ∃ b, decide (echoes ((k + 1 : Nat) : Int) ≤ (sz se : Int)) = b := ⟨_, rfl⟩
      have HQ : Aside0 (¬ (e0 = true ∧ e1 = true)) := ⟨by rintro ⟨h1, h2⟩; exact hq ⟨of_decide_eq_true (he0.trans h1), of_decide_eq_true (he1.trans h2)⟩⟩
      have HSz := Aside0.mk hsz
      have H00 := Aside0.mk h00
      have HSub0 := Aside0.mk hsub0
      have HSub1 := Aside0.mk hsub1
      have HE0 := Aside0.mk he0
      have HE1 := Aside0.mk he1
      clear hsz h00 hq hsub0 hsub1 he0 he1
      go_loopw [75] (fun v75 w' => ∃ (i : Nat), v75 = .int .i64 (i : Int) ∧ i ≤ 2 ∧ Aside0 (w'.heap[w1.heap.size]? = some (.cells #[.bool (decide (0 < i) && e0), .bool (decide (1 < i) && e1)] 30 (0, 0))) ∧ Aside0 (w'.heap[w.heap.size + 1]? = some (.cells #[.string b0, .string b1] 25 (0, 0))) ∧ Aside0 (Below w.heap.size w w')) (fun v75 _ => 2 - (intOf v75).toNat)
      case atStart => exact ⟨0, rfl, by omega, ⟨by have := setRow_heap _ _ _ #[.bool false, .bool false] _ _ (blk_new (w1.drewN (m3 + m4)) (.cells #[.bool false, .bool false] 30)); simpa using this⟩, ⟨by rw [setRow_other _ _ _ _ (by omega)]; exact blk_alloc (blk_drewN HS2.out _) _⟩, ⟨below_setRow (below_alloc (pw_below_drewN HB.out _) _) HB.out.size _⟩⟩
      case round =>
        clear HB HS HS2 c0 c1 c2 d0 d1
        obtain ⟨i, rfl, hi, HR, HS2, HB⟩ := hrel
        rename World => wo
        have HBwo := HB
        have ltRo := blk_lt HR.out
        have ltSo := blk_lt HS2.out
        by_cases hlt : i < 2
        · have h01 : i = 0 ∨ i = 1 := by omega
          rcases h01 with rfl | rfl
          · have hidx : ∀ W : World, (Instr.index 31 (.agg #[.int .u16 (fi : Int), .int .u16 (se : Int)]) (.int .i64 0)).run Tryd.prog W = .ok (.int .u16 (fi : Int)) W := fun _ => rfl
            go_wp2_with (first
              | (go_at_call 7; refine (list_calls fi _ lfi (HT.out.below (by repeat (first | (with_reducible exact HB.out) | (with_reducible refine below_alloc ?_ _) | (with_reducible refine pw_below_drewN ?_ _) | (with_reducible refine below_drew ?_))))).mono ?_; rintro e w5 ⟨v, rfl, ho, hb⟩; obtain ⟨A5, c5, ev, hle5, hL5⟩ := Kd.R_reads ho; subst ev; have HL5 : Aside0 (RU w5 (.slice A5 (lstI fi).length c5) (lstI fi)) := ⟨Kd.R_lower ho (Nat.zero_le _)⟩; have HC : Aside0 (CaseB w5 wo.heap.size ⟨false, false, false, [], []⟩) := ⟨CaseB.below ⟨none, 0, none, 0, blk_new wo _, Kd.R_nil _ _ _ _ _, Kd.R_nil _ _ _ _ _⟩ hb⟩; have HRx : Aside0 (w5.heap[w1.heap.size]? = some (.cells #[.bool (decide (0 < 0) && e0), .bool (decide (1 < 0) && e1)] 30 (0, 0))) := ⟨blk_below (by repeat (first | (with_reducible exact HR.out) | (with_reducible refine blk_drew ?_) | (with_reducible refine blk_drewN ?_ _) | (with_reducible refine blk_newg ?_; (simp; done)) | (with_reducible refine blk_alloc ?_ _))) hb⟩; have HS2x : Aside0 (w5.heap[w.heap.size + 1]? = some (.cells #[.string b0, .string b1] 25 (0, 0))) := ⟨blk_below (by repeat (first | (with_reducible exact HS2.out) | (with_reducible refine blk_drew ?_) | (with_reducible refine blk_drewN ?_ _) | (with_reducible refine blk_newg ?_; (simp; done)) | (with_reducible refine blk_alloc ?_ _))) hb⟩; have HBx : Aside0 (Below w.heap.size w w5) := ⟨below_back hb (by repeat (first | (with_reducible exact HB.out) | (with_reducible refine below_alloc ?_ _) | (with_reducible refine pw_below_drewN ?_ _) | (with_reducible refine below_drew ?_)))⟩; clear HR HS2 HB; have HR := HRx; clear HRx; have HS2 := HS2x; clear HS2x; have HB := HBx; clear HBx; clear hb ho hL5)
              | fail)
            have hLl : (lstI fi).length = (lst fi).length := by simp [lstI]
            have HLl := Aside0.mk hLl
            have hL16 := lst_le fi
            have hL17 : (lstI fi).length ≤ 16 := by omega
            clear hLl hL16
            have ltC0 : wo.heap.size < w5.heap.size := by obtain ⟨_, _, _, _, h, _⟩ := HC.out; exact blk_lt h
            go_loopw [82] (fun v82 w' => ∃ (j : Nat), v82 = .int .i64 (j : Int) ∧ j ≤ (lstI fi).length ∧ Aside0 (CaseB w' wo.heap.size (caseQ (k + 1) b0 ((lst fi).take j))) ∧ Aside0 (RU w' (.slice A5 (lstI fi).length c5) (lstI fi)) ∧ Aside0 (w'.heap[w1.heap.size]? = some (.cells #[.bool (decide (0 < 0) && e0), .bool (decide (1 < 0) && e1)] 30 (0, 0))) ∧ Aside0 (w'.heap[w.heap.size + 1]? = some (.cells #[.string b0, .string b1] 25 (0, 0))) ∧ Aside0 (Below w.heap.size w w')) (fun v82 _ => (lstI fi).length - (intOf v82).toNat)
            case atStart => exact ⟨0, rfl, by omega, ⟨by rw [List.take_zero, caseQ_nil]; exact HC.out⟩, HL5, HR, HS2, HB⟩
            case round =>
              clear HC HL5 HR HS2 HB
              obtain ⟨j, rfl, hj, HC, HL5, HR, HS2, HB⟩ := hrel
              by_cases hjl : j < (lstI fi).length
              · have hjl2 : j < (lst fi).length := by have := HLl.out; omega
                obtain ⟨ad, ea, hcell⟩ := Kd.at_int (Kd.R_reads' HL5.out).2.2 (j : Int) (by omega) (by omega)
                cases ea
                have hid : rd (lstI fi) (j : Int) = (((lst fi)[j] : Nat) : Int) := by simp [rd, lstI, hjl2]
                rw [hid] at hcell
                simp only [Int.toNat_natCast] at hcell
                have htk : (lst fi).take (j + 1) = (lst fi).take j ++ [(lst fi)[j]] := by rw [List.take_append_getElem hjl2]
                have hmm := lst_mem (List.getElem_mem hjl2)
                have hnd : ((lst fi).take (j + 1)).Nodup := (lst_nodup fi).sublist (List.take_sublist _ _)
                have h16 : ∀ q ∈ (lst fi).take (j + 1), q < 16 ∧ al.testBit q = true := fun q hq => by have := lst_mem (List.mem_of_mem_take hq); exact ⟨this.1, HSub0.out q this.2⟩
                obtain ⟨id, hidn⟩ : ∃ id, (lst fi)[j] = id := ⟨_, rfl⟩
                rw [hidn] at hcell htk hmm
                have hst := h16
                rw [htk] at hnd h16
                obtain ⟨o, ha⟩ := caseQ_step (body := b0) HSz.out H00.out (by omega) hnd h16
                rw [← htk] at ha
                obtain ⟨ok1, ok2, ok3, ok4⟩ := caseQ_ok (k + 1) b0 ((lst fi).take j) (fun q hq => (h16 q (by simp [hq])).1)
                obtain ⟨A1, c1, A2, c2, hC, hr1, hr2⟩ := HC.out
                obtain ⟨c, hc⟩ : ∃ c, caseQ (k + 1) b0 ((lst fi).take j) = c := ⟨_, rfl⟩
                obtain ⟨d, hd⟩ : ∃ d, caseQ (k + 1) b0 ((lst fi).take (j + 1)) = d := ⟨_, rfl⟩
                rw [hc, hd] at ha
                rw [hc] at hC hr1 hr2 ok1 ok2 ok3 ok4
                have HA := Aside0.mk ha
                have HD := Aside0.mk hd
                have HWE := Aside0.mk ok1
                have HWR := Aside0.mk ok2
                have HLE : Aside0 (c.echoes.length ≤ 900000) := ⟨by omega⟩
                have HLR : Aside0 (c.readies.length ≤ 900000) := ⟨by omega⟩
                have HL1 := Aside0.mk (RB_le hr1)
                have HL2 := Aside0.mk (RB_le hr2)
                have HCc := Aside0.mk hC
                have H1 := Aside0.mk hr1
                have H2 := Aside0.mk hr2
                have hid15 : id < 16 := hmm.1
                have HKV : Aside0 (∀ W : World, W.heap[wo.heap.size]? = some (.cells #[.bool c.echoed, .bool c.readied, .bool c.done, .slice A1 c.echoes.length c1, .slice A2 c.readies.length c2] 34 (0, 0)) → W.heap[w.heap.size + 1]? = some (.cells #[.string b0, .string b1] 25 (0, 0)) → (W.cell? ⟨wo.heap.size, 0, none⟩ = some (.bool c.echoed) ∧ W.cell? ⟨wo.heap.size, 1, none⟩ = some (.bool c.readied) ∧ W.cell? ⟨wo.heap.size, 2, none⟩ = some (.bool c.done) ∧ W.cell? ⟨wo.heap.size, 3, none⟩ = some (.slice A1 c.echoes.length c1) ∧ W.cell? ⟨wo.heap.size, 4, none⟩ = some (.slice A2 c.readies.length c2) ∧ W.cell? ⟨w.heap.size + 1, 0, none⟩ = some (.string b0))) := ⟨fun W h1 h2 => ⟨blk_cell h1 0, blk_cell h1 1, blk_cell h1 2, blk_cell h1 3, blk_cell h1 4, blk_cell h2 0⟩⟩
                have ltC := blk_lt hC
                have ltS := blk_lt HS2.out
                have ltR := blk_lt HR.out
                have ltwo : w.heap.size ≤ wo.heap.size := HBwo.out.size
                have ltwr : w.heap.size ≤ wr.heap.size := HB.out.size
                clear ha hd hc hC hr1 hr2 ok1 ok2 ok3 ok4 hnd h16 hst htk hid hidn hmm HC
                go_wp2_with fail
                go_region_held3 (fun w' => (w'.cell? ⟨wo.heap.size, 0, none⟩ = some (.bool c.echoed) ∧ w'.cell? ⟨wo.heap.size, 1, none⟩ = some (.bool c.readied) ∧ w'.cell? ⟨wo.heap.size, 2, none⟩ = some (.bool c.done) ∧ w'.cell? ⟨wo.heap.size, 3, none⟩ = some (.slice A1 c.echoes.length c1) ∧ w'.cell? ⟨wo.heap.size, 4, none⟩ = some (.slice A2 c.readies.length c2) ∧ w'.cell? ⟨w.heap.size + 1, 0, none⟩ = some (.string b0)))
                  ((refine HKV.out _ ?_ ?_ <;> (repeat (first | (with_reducible exact HCc.out) | (with_reducible exact HS2.out) | (with_reducible refine blk_drewN ?_ _) | (with_reducible refine blk_drew ?_) | (with_reducible refine blk_alloc ?_ _) | (with_reducible refine blk_far ?_ (by dsimp only; omega) _)))))
                  (first
                    | (go_at_call 8; refine (take_calls c A1 c1 A2 c2 al 0 2 (id : Int) b0 _ (RB_C (by repeat (first | (with_reducible exact H1.out) | (with_reducible refine Kd.R_alloc ?_ _) | (with_reducible refine Kd.R_drewN ?_ _) | (with_reducible refine Kd.R_drew ?_)))) (RB_C (by repeat (first | (with_reducible exact H2.out) | (with_reducible refine Kd.R_alloc ?_ _) | (with_reducible refine Kd.R_drewN ?_ _) | (with_reducible refine Kd.R_drew ?_)))) HL1.out HL2.out HLE.out HLR.out hall (by omega) (by omega) (by omega) (by omega) (by omega) (by omega) (by assumption) HWE.out HWR.out).mono ?_; rw [HA.out]; rintro e w6 ⟨v, A3, n3, rfl, ⟨B1, d1, B2, d2, rfl, hr1, hr2⟩, hO, hb⟩; have HCcx : Aside0 (w6.heap[wo.heap.size]? = some (.cells #[.bool c.echoed, .bool c.readied, .bool c.done, .slice A1 c.echoes.length c1, .slice A2 c.readies.length c2] 34 (0, 0))) := ⟨blk_below (by repeat (first | (with_reducible exact HCc.out) | (with_reducible refine blk_drew ?_) | (with_reducible refine blk_drewN ?_ _) | (with_reducible refine blk_newg ?_; (simp; done)) | (with_reducible refine blk_alloc ?_ _))) hb⟩; have HL5x : Aside0 (RU w6 (.slice (some ad) (lstI fi).length c5) (lstI fi)) := ⟨Kd.R_below (by repeat (first | (with_reducible exact HL5.out) | (with_reducible refine Kd.R_alloc ?_ _) | (with_reducible refine Kd.R_drewN ?_ _) | (with_reducible refine Kd.R_drew ?_))) hb⟩; have HRx : Aside0 (w6.heap[w1.heap.size]? = some (.cells #[.bool (decide (0 < 0) && e0), .bool (decide (1 < 0) && e1)] 30 (0, 0))) := ⟨blk_below (by repeat (first | (with_reducible exact HR.out) | (with_reducible refine blk_drew ?_) | (with_reducible refine blk_drewN ?_ _) | (with_reducible refine blk_newg ?_; (simp; done)) | (with_reducible refine blk_alloc ?_ _))) hb⟩; have HS2x : Aside0 (w6.heap[w.heap.size + 1]? = some (.cells #[.string b0, .string b1] 25 (0, 0))) := ⟨blk_below (by repeat (first | (with_reducible exact HS2.out) | (with_reducible refine blk_drew ?_) | (with_reducible refine blk_drewN ?_ _) | (with_reducible refine blk_newg ?_; (simp; done)) | (with_reducible refine blk_alloc ?_ _))) hb⟩; have HBx : Aside0 (Below w.heap.size w w6) := ⟨below_back hb (by repeat (first | (with_reducible exact HB.out) | (with_reducible refine below_alloc ?_ _) | (with_reducible refine pw_below_drewN ?_ _) | (with_reducible refine below_drew ?_)))⟩; clear HCc HL5 HR HS2 HB; have HCc := HCcx; clear HCcx; have HL5 := HL5x; clear HL5x; have HR := HRx; clear HRx; have HS2 := HS2x; clear HS2x; have HB := HBx; clear HBx; obtain ⟨gq0, gq1⟩ := below_cells hb; have hsz6 := hb.size; have HZF := Aside0.mk (fun (o : Obj) (h : _) => blk_below (g := wr.heap.size) (o := o) h hb); clear hb H1 H2 hO; have H1 := Aside0.mk hr1; have H2 := Aside0.mk hr2; clear hr1 hr2)
                    | fail)
                · obtain ⟨w9, hw9⟩ : ∃ w9, (w6.alloc (.cells #[.bool d.echoed, .bool d.readied, .bool d.done, .slice B1 d.echoes.length d1, .slice B2 d.readies.length d2] 34)) = w9 := ⟨_, rfl⟩
                  rw [hw9]
                  have HCc9 : Aside0 (w9.heap[wo.heap.size]? = some (.cells #[.bool c.echoed, .bool c.readied, .bool c.done, .slice A1 c.echoes.length c1, .slice A2 c.readies.length c2] 34 (0, 0))) := ⟨by rw [← hw9]; exact blk_alloc HCc.out _⟩
                  have H19 : Aside0 (RB w9 (.slice B1 d.echoes.length d1) d.echoes) := ⟨by rw [← hw9]; exact Kd.R_alloc H1.out _⟩
                  have H29 : Aside0 (RB w9 (.slice B2 d.readies.length d2) d.readies) := ⟨by rw [← hw9]; exact Kd.R_alloc H2.out _⟩
                  have HL9 : Aside0 (RU w9 (.slice (some ad) (lstI fi).length c5) (lstI fi)) := ⟨by rw [← hw9]; exact Kd.R_alloc HL5.out _⟩
                  have HR9 : Aside0 (w9.heap[w1.heap.size]? = some (.cells #[.bool (decide (0 < 0) && e0), .bool (decide (1 < 0) && e1)] 30 (0, 0))) := ⟨by rw [← hw9]; exact blk_alloc HR.out _⟩
                  have HS9 : Aside0 (w9.heap[w.heap.size + 1]? = some (.cells #[.string b0, .string b1] 25 (0, 0))) := ⟨by rw [← hw9]; exact blk_alloc HS2.out _⟩
                  have HB9 : Aside0 (Below w.heap.size w w9) := ⟨by rw [← hw9]; exact below_alloc HB.out _⟩
                  have HN9 : Aside0 (w9.heap[w6.heap.size]? = some (.cells #[.bool d.echoed, .bool d.readied, .bool d.done, .slice B1 d.echoes.length d1, .slice B2 d.readies.length d2] 34 (0, 0))) := ⟨by rw [← hw9]; exact blk_new _ _⟩
                  clear hw9 HZF HCc H1 H2 HL5 HR HS2 HB gq0 gq1
                  go_wp2_with (first
                    | (refine gate_ (.load 34 (.tmp 18)) rfl ?_; refine wpList_load_row rfl 34 (.tmp 18) rfl _ rfl 34 #[.bool d.echoed, .bool d.readied, .bool d.done, .slice B1 d.echoes.length d1, .slice B2 d.readies.length d2] (0, 0) _ HN9.out Tryd.underlying34 rfl (by kernel_rfl) ?_)
                    | (refine gate_ (.store 34 (.tmp 15) (.tmp 101)) rfl ?_; refine wpList_store_row rfl 34 (.tmp 15) (.tmp 101) rfl wo.heap.size #[.bool d.echoed, .bool d.readied, .bool d.done, .slice B1 d.echoes.length d1, .slice B2 d.readies.length d2] rfl rfl 34 #[.bool c.echoed, .bool c.readied, .bool c.done, .slice A1 c.echoes.length c1, .slice A2 c.readies.length c2] HCc9.out (by kernel_rfl) rfl (by simp [Value.oneCell']) ?_)
                    | fail)
                  have HT9 := Touch.row w9 wo.heap.size #[.bool d.echoed, .bool d.readied, .bool d.done, .slice B1 d.echoes.length d1, .slice B2 d.readies.length d2]
                  go_roundw
                  case rel => exact ⟨j + 1, by go_num, by omega, ⟨by rw [HD.out]; exact CaseB.stored HCc9.out H19.out H29.out⟩, ⟨HT9.ru HL9.out HCc9.out (by decide)⟩, ⟨HT9.blk HR9.out (by omega)⟩, ⟨HT9.blk HS9.out (by omega)⟩, ⟨HT9.below HB9.out (by omega) HB9.out.size⟩⟩
                  case measure => simp [intOf]; omega
                · obtain ⟨w9, hw9⟩ : ∃ w9, ((((w6.setCell ⟨wr.heap.size, 0, none⟩ (.bool d.echoed)).setCell ⟨wr.heap.size, 1, none⟩ (.bool d.readied)).setCell ⟨wr.heap.size, 2, none⟩ (.bool d.done)).setCell ⟨wr.heap.size, 3, none⟩ (.slice B1 d.echoes.length d1)).setCell ⟨wr.heap.size, 4, none⟩ (.slice B2 d.readies.length d2) = w9 := ⟨_, rfl⟩
                  rw [hw9]
                  have HZ : Aside0 (w6.heap[wr.heap.size]? = some (.cells #[.bool false, .bool false, .bool false, .slice none 0 0, .slice none 0 0] 34 (0, 0))) := ⟨HZF.out _ (by first | exact blk_newg rfl | exact blk_drew (blk_newg rfl) | exact blk_newg (by simp) | exact blk_drew (blk_newg (by simp)))⟩
                  have hT5 := ((((Touch.set w6 wr.heap.size 0 (.bool d.echoed)).trans (Touch.set _ wr.heap.size 1 (.bool d.readied))).trans (Touch.set _ wr.heap.size 2 (.bool d.done))).trans (Touch.set _ wr.heap.size 3 (.slice B1 d.echoes.length d1))).trans (Touch.set _ wr.heap.size 4 (.slice B2 d.readies.length d2))
                  have hN5 := blk_set (blk_set (blk_set (blk_set (blk_set HZ.out 0 (.bool d.echoed)) 1 (.bool d.readied)) 2 (.bool d.done)) 3 (.slice B1 d.echoes.length d1)) 4 (.slice B2 d.readies.length d2)
                  rw [hw9] at hT5 hN5
                  have HCc9 : Aside0 (w9.heap[wo.heap.size]? = some (.cells #[.bool c.echoed, .bool c.readied, .bool c.done, .slice A1 c.echoes.length c1, .slice A2 c.readies.length c2] 34 (0, 0))) := ⟨hT5.blk HCc.out (by omega)⟩
                  have H19 : Aside0 (RB w9 (.slice B1 d.echoes.length d1) d.echoes) := ⟨hT5.rb H1.out HZ.out (by decide)⟩
                  have H29 : Aside0 (RB w9 (.slice B2 d.readies.length d2) d.readies) := ⟨hT5.rb H2.out HZ.out (by decide)⟩
                  have HL9 : Aside0 (RU w9 (.slice (some ad) (lstI fi).length c5) (lstI fi)) := ⟨hT5.ru HL5.out HZ.out (by decide)⟩
                  have HR9 : Aside0 (w9.heap[w1.heap.size]? = some (.cells #[.bool (decide (0 < 0) && e0), .bool (decide (1 < 0) && e1)] 30 (0, 0))) := ⟨hT5.blk HR.out (by omega)⟩
                  have HS9 : Aside0 (w9.heap[w.heap.size + 1]? = some (.cells #[.string b0, .string b1] 25 (0, 0))) := ⟨hT5.blk HS2.out (by omega)⟩
                  have HB9 : Aside0 (Below w.heap.size w w9) := ⟨hT5.below HB.out (by omega) HB.out.size⟩
                  have HN9 : Aside0 (w9.heap[wr.heap.size]? = some (.cells #[.bool d.echoed, .bool d.readied, .bool d.done, .slice B1 d.echoes.length d1, .slice B2 d.readies.length d2] 34 (0, 0))) := ⟨hN5⟩
                  clear hw9 hT5 hN5 HZ HZF HCc H1 H2 HL5 HR HS2 HB gq0 gq1
                  go_wp2_with (first
                    | (refine gate_ (.load 34 (.tmp 18)) rfl ?_; refine wpList_load_row rfl 34 (.tmp 18) rfl _ rfl 34 #[.bool d.echoed, .bool d.readied, .bool d.done, .slice B1 d.echoes.length d1, .slice B2 d.readies.length d2] (0, 0) _ HN9.out Tryd.underlying34 rfl (by kernel_rfl) ?_)
                    | (refine gate_ (.store 34 (.tmp 15) (.tmp 101)) rfl ?_; refine wpList_store_row rfl 34 (.tmp 15) (.tmp 101) rfl wo.heap.size #[.bool d.echoed, .bool d.readied, .bool d.done, .slice B1 d.echoes.length d1, .slice B2 d.readies.length d2] rfl rfl 34 #[.bool c.echoed, .bool c.readied, .bool c.done, .slice A1 c.echoes.length c1, .slice A2 c.readies.length c2] HCc9.out (by kernel_rfl) rfl (by simp [Value.oneCell']) ?_)
                    | fail)
                  have HT9 := Touch.row w9 wo.heap.size #[.bool d.echoed, .bool d.readied, .bool d.done, .slice B1 d.echoes.length d1, .slice B2 d.readies.length d2]
                  go_roundw
                  case rel => exact ⟨j + 1, by go_num, by omega, ⟨by rw [HD.out]; exact CaseB.stored HCc9.out H19.out H29.out⟩, ⟨HT9.ru HL9.out HCc9.out (by decide)⟩, ⟨HT9.blk HR9.out (by omega)⟩, ⟨HT9.blk HS9.out (by omega)⟩, ⟨HT9.below HB9.out (by omega) HB9.out.size⟩⟩
                  case measure => simp [intOf]; omega
              · have hjn : j = (lstI fi).length := by omega
                obtain ⟨A1, c1, A2, c2, hC, hr1, hr2⟩ := HC.out
                have hfull : (lst fi).take j = lst fi := List.take_of_length_le (by have := HLl.out; omega)
                rw [hfull] at hC
                have hez : (caseQ (k + 1) b0 (lst fi)).readied = e0 := by
                  rw [← HE0.out]
                  show decide _ = decide _
                  rw [lst_length]
                have a1 : wr.cell? ⟨wo.heap.size, 1, none⟩ = some (.bool e0) := by rw [← hez]; exact blk_cell hC 1
                clear hC hr1 hr2 hez hfull hjn HC HL5
                go_wp2_with (first
                  | (refine gate_ (.store 4 (.tmp 106) (.tmp 105)) rfl ?_; refine set_event rfl rfl 4 (.tmp 106) (.tmp 105) rfl w1.heap.size 0 #[.bool (decide (0 < 0) && e0), .bool (decide (1 < 0) && e1)] 30 (.bool e0) rfl rfl rfl (by kernel_rfl) HR.out (by simp) rfl ?_; intro w7 hD hT; have HRx : Aside0 (w7.heap[w1.heap.size]? = some (.cells #[.bool (decide (0 < 1) && e0), .bool (decide (1 < 1) && e1)] 30 (0, 0))) := ⟨hD⟩; have HSx : Aside0 (w7.heap[w.heap.size + 1]? = some (.cells #[.string b0, .string b1] 25 (0, 0))) := ⟨hT.blk HS2.out (by omega)⟩; have HBx : Aside0 (Below w.heap.size w w7) := ⟨hT.below HB.out (by omega) HB.out.size⟩; clear hD hT HR HS2 HB; have HR := HRx; have HS2 := HSx; have HB := HBx; clear HRx HSx HBx)
                  | fail)
                go_roundw
                case rel => exact ⟨1, (by first | rfl | go_num), by omega, HR, HS2, HB⟩
                case measure => simp [intOf]
          · have hidx : ∀ W : World, (Instr.index 31 (.agg #[.int .u16 (fi : Int), .int .u16 (se : Int)]) (.int .i64 1)).run Tryd.prog W = .ok (.int .u16 (se : Int)) W := fun _ => rfl
            go_wp2_with (first
              | (go_at_call 7; refine (list_calls se _ lse (HT.out.below (by repeat (first | (with_reducible exact HB.out) | (with_reducible refine below_alloc ?_ _) | (with_reducible refine pw_below_drewN ?_ _) | (with_reducible refine below_drew ?_))))).mono ?_; rintro e w5 ⟨v, rfl, ho, hb⟩; obtain ⟨A5, c5, ev, hle5, hL5⟩ := Kd.R_reads ho; subst ev; have HL5 : Aside0 (RU w5 (.slice A5 (lstI se).length c5) (lstI se)) := ⟨Kd.R_lower ho (Nat.zero_le _)⟩; have HC : Aside0 (CaseB w5 wo.heap.size ⟨false, false, false, [], []⟩) := ⟨CaseB.below ⟨none, 0, none, 0, blk_new wo _, Kd.R_nil _ _ _ _ _, Kd.R_nil _ _ _ _ _⟩ hb⟩; have HRx : Aside0 (w5.heap[w1.heap.size]? = some (.cells #[.bool (decide (0 < 1) && e0), .bool (decide (1 < 1) && e1)] 30 (0, 0))) := ⟨blk_below (by repeat (first | (with_reducible exact HR.out) | (with_reducible refine blk_drew ?_) | (with_reducible refine blk_drewN ?_ _) | (with_reducible refine blk_newg ?_; (simp; done)) | (with_reducible refine blk_alloc ?_ _))) hb⟩; have HS2x : Aside0 (w5.heap[w.heap.size + 1]? = some (.cells #[.string b0, .string b1] 25 (0, 0))) := ⟨blk_below (by repeat (first | (with_reducible exact HS2.out) | (with_reducible refine blk_drew ?_) | (with_reducible refine blk_drewN ?_ _) | (with_reducible refine blk_newg ?_; (simp; done)) | (with_reducible refine blk_alloc ?_ _))) hb⟩; have HBx : Aside0 (Below w.heap.size w w5) := ⟨below_back hb (by repeat (first | (with_reducible exact HB.out) | (with_reducible refine below_alloc ?_ _) | (with_reducible refine pw_below_drewN ?_ _) | (with_reducible refine below_drew ?_)))⟩; clear HR HS2 HB; have HR := HRx; clear HRx; have HS2 := HS2x; clear HS2x; have HB := HBx; clear HBx; clear hb ho hL5)
              | fail)
            have hLl : (lstI se).length = (lst se).length := by simp [lstI]
            have HLl := Aside0.mk hLl
            have hL16 := lst_le se
            have hL17 : (lstI se).length ≤ 16 := by omega
            clear hLl hL16
            have ltC0 : wo.heap.size < w5.heap.size := by obtain ⟨_, _, _, _, h, _⟩ := HC.out; exact blk_lt h
            go_loopw [82] (fun v82 w' => ∃ (j : Nat), v82 = .int .i64 (j : Int) ∧ j ≤ (lstI se).length ∧ Aside0 (CaseB w' wo.heap.size (caseQ (k + 1) b1 ((lst se).take j))) ∧ Aside0 (RU w' (.slice A5 (lstI se).length c5) (lstI se)) ∧ Aside0 (w'.heap[w1.heap.size]? = some (.cells #[.bool (decide (0 < 1) && e0), .bool (decide (1 < 1) && e1)] 30 (0, 0))) ∧ Aside0 (w'.heap[w.heap.size + 1]? = some (.cells #[.string b0, .string b1] 25 (0, 0))) ∧ Aside0 (Below w.heap.size w w')) (fun v82 _ => (lstI se).length - (intOf v82).toNat)
            case atStart => exact ⟨0, rfl, by omega, ⟨by rw [List.take_zero, caseQ_nil]; exact HC.out⟩, HL5, HR, HS2, HB⟩
            case round =>
              clear HC HL5 HR HS2 HB
              obtain ⟨j, rfl, hj, HC, HL5, HR, HS2, HB⟩ := hrel
              by_cases hjl : j < (lstI se).length
              · have hjl2 : j < (lst se).length := by have := HLl.out; omega
                obtain ⟨ad, ea, hcell⟩ := Kd.at_int (Kd.R_reads' HL5.out).2.2 (j : Int) (by omega) (by omega)
                cases ea
                have hid : rd (lstI se) (j : Int) = (((lst se)[j] : Nat) : Int) := by simp [rd, lstI, hjl2]
                rw [hid] at hcell
                simp only [Int.toNat_natCast] at hcell
                have htk : (lst se).take (j + 1) = (lst se).take j ++ [(lst se)[j]] := by rw [List.take_append_getElem hjl2]
                have hmm := lst_mem (List.getElem_mem hjl2)
                have hnd : ((lst se).take (j + 1)).Nodup := (lst_nodup se).sublist (List.take_sublist _ _)
                have h16 : ∀ q ∈ (lst se).take (j + 1), q < 16 ∧ al.testBit q = true := fun q hq => by have := lst_mem (List.mem_of_mem_take hq); exact ⟨this.1, HSub1.out q this.2⟩
                obtain ⟨id, hidn⟩ : ∃ id, (lst se)[j] = id := ⟨_, rfl⟩
                rw [hidn] at hcell htk hmm
                have hst := h16
                rw [htk] at hnd h16
                obtain ⟨o, ha⟩ := caseQ_step (body := b1) HSz.out H00.out (by omega) hnd h16
                rw [← htk] at ha
                obtain ⟨ok1, ok2, ok3, ok4⟩ := caseQ_ok (k + 1) b1 ((lst se).take j) (fun q hq => (h16 q (by simp [hq])).1)
                obtain ⟨A1, c1, A2, c2, hC, hr1, hr2⟩ := HC.out
                obtain ⟨c, hc⟩ : ∃ c, caseQ (k + 1) b1 ((lst se).take j) = c := ⟨_, rfl⟩
                obtain ⟨d, hd⟩ : ∃ d, caseQ (k + 1) b1 ((lst se).take (j + 1)) = d := ⟨_, rfl⟩
                rw [hc, hd] at ha
                rw [hc] at hC hr1 hr2 ok1 ok2 ok3 ok4
                have HA := Aside0.mk ha
                have HD := Aside0.mk hd
                have HWE := Aside0.mk ok1
                have HWR := Aside0.mk ok2
                have HLE : Aside0 (c.echoes.length ≤ 900000) := ⟨by omega⟩
                have HLR : Aside0 (c.readies.length ≤ 900000) := ⟨by omega⟩
                have HL1 := Aside0.mk (RB_le hr1)
                have HL2 := Aside0.mk (RB_le hr2)
                have HCc := Aside0.mk hC
                have H1 := Aside0.mk hr1
                have H2 := Aside0.mk hr2
                have hid15 : id < 16 := hmm.1
                have HKV : Aside0 (∀ W : World, W.heap[wo.heap.size]? = some (.cells #[.bool c.echoed, .bool c.readied, .bool c.done, .slice A1 c.echoes.length c1, .slice A2 c.readies.length c2] 34 (0, 0)) → W.heap[w.heap.size + 1]? = some (.cells #[.string b0, .string b1] 25 (0, 0)) → (W.cell? ⟨wo.heap.size, 0, none⟩ = some (.bool c.echoed) ∧ W.cell? ⟨wo.heap.size, 1, none⟩ = some (.bool c.readied) ∧ W.cell? ⟨wo.heap.size, 2, none⟩ = some (.bool c.done) ∧ W.cell? ⟨wo.heap.size, 3, none⟩ = some (.slice A1 c.echoes.length c1) ∧ W.cell? ⟨wo.heap.size, 4, none⟩ = some (.slice A2 c.readies.length c2) ∧ W.cell? ⟨w.heap.size + 1, 1, none⟩ = some (.string b1))) := ⟨fun W h1 h2 => ⟨blk_cell h1 0, blk_cell h1 1, blk_cell h1 2, blk_cell h1 3, blk_cell h1 4, blk_cell h2 1⟩⟩
                have ltC := blk_lt hC
                have ltS := blk_lt HS2.out
                have ltR := blk_lt HR.out
                have ltwo : w.heap.size ≤ wo.heap.size := HBwo.out.size
                have ltwr : w.heap.size ≤ wr.heap.size := HB.out.size
                clear ha hd hc hC hr1 hr2 ok1 ok2 ok3 ok4 hnd h16 hst htk hid hidn hmm HC
                go_wp2_with fail
                go_region_held3 (fun w' => (w'.cell? ⟨wo.heap.size, 0, none⟩ = some (.bool c.echoed) ∧ w'.cell? ⟨wo.heap.size, 1, none⟩ = some (.bool c.readied) ∧ w'.cell? ⟨wo.heap.size, 2, none⟩ = some (.bool c.done) ∧ w'.cell? ⟨wo.heap.size, 3, none⟩ = some (.slice A1 c.echoes.length c1) ∧ w'.cell? ⟨wo.heap.size, 4, none⟩ = some (.slice A2 c.readies.length c2) ∧ w'.cell? ⟨w.heap.size + 1, 1, none⟩ = some (.string b1)))
                  ((refine HKV.out _ ?_ ?_ <;> (repeat (first | (with_reducible exact HCc.out) | (with_reducible exact HS2.out) | (with_reducible refine blk_drewN ?_ _) | (with_reducible refine blk_drew ?_) | (with_reducible refine blk_alloc ?_ _) | (with_reducible refine blk_far ?_ (by dsimp only; omega) _)))))
                  (first
                    | (go_at_call 8; refine (take_calls c A1 c1 A2 c2 al 0 2 (id : Int) b1 _ (RB_C (by repeat (first | (with_reducible exact H1.out) | (with_reducible refine Kd.R_alloc ?_ _) | (with_reducible refine Kd.R_drewN ?_ _) | (with_reducible refine Kd.R_drew ?_)))) (RB_C (by repeat (first | (with_reducible exact H2.out) | (with_reducible refine Kd.R_alloc ?_ _) | (with_reducible refine Kd.R_drewN ?_ _) | (with_reducible refine Kd.R_drew ?_)))) HL1.out HL2.out HLE.out HLR.out hall (by omega) (by omega) (by omega) (by omega) (by omega) (by omega) (by assumption) HWE.out HWR.out).mono ?_; rw [HA.out]; rintro e w6 ⟨v, A3, n3, rfl, ⟨B1, d1, B2, d2, rfl, hr1, hr2⟩, hO, hb⟩; have HCcx : Aside0 (w6.heap[wo.heap.size]? = some (.cells #[.bool c.echoed, .bool c.readied, .bool c.done, .slice A1 c.echoes.length c1, .slice A2 c.readies.length c2] 34 (0, 0))) := ⟨blk_below (by repeat (first | (with_reducible exact HCc.out) | (with_reducible refine blk_drew ?_) | (with_reducible refine blk_drewN ?_ _) | (with_reducible refine blk_newg ?_; (simp; done)) | (with_reducible refine blk_alloc ?_ _))) hb⟩; have HL5x : Aside0 (RU w6 (.slice (some ad) (lstI se).length c5) (lstI se)) := ⟨Kd.R_below (by repeat (first | (with_reducible exact HL5.out) | (with_reducible refine Kd.R_alloc ?_ _) | (with_reducible refine Kd.R_drewN ?_ _) | (with_reducible refine Kd.R_drew ?_))) hb⟩; have HRx : Aside0 (w6.heap[w1.heap.size]? = some (.cells #[.bool (decide (0 < 1) && e0), .bool (decide (1 < 1) && e1)] 30 (0, 0))) := ⟨blk_below (by repeat (first | (with_reducible exact HR.out) | (with_reducible refine blk_drew ?_) | (with_reducible refine blk_drewN ?_ _) | (with_reducible refine blk_newg ?_; (simp; done)) | (with_reducible refine blk_alloc ?_ _))) hb⟩; have HS2x : Aside0 (w6.heap[w.heap.size + 1]? = some (.cells #[.string b0, .string b1] 25 (0, 0))) := ⟨blk_below (by repeat (first | (with_reducible exact HS2.out) | (with_reducible refine blk_drew ?_) | (with_reducible refine blk_drewN ?_ _) | (with_reducible refine blk_newg ?_; (simp; done)) | (with_reducible refine blk_alloc ?_ _))) hb⟩; have HBx : Aside0 (Below w.heap.size w w6) := ⟨below_back hb (by repeat (first | (with_reducible exact HB.out) | (with_reducible refine below_alloc ?_ _) | (with_reducible refine pw_below_drewN ?_ _) | (with_reducible refine below_drew ?_)))⟩; clear HCc HL5 HR HS2 HB; have HCc := HCcx; clear HCcx; have HL5 := HL5x; clear HL5x; have HR := HRx; clear HRx; have HS2 := HS2x; clear HS2x; have HB := HBx; clear HBx; obtain ⟨gq0, gq1⟩ := below_cells hb; have hsz6 := hb.size; have HZF := Aside0.mk (fun (o : Obj) (h : _) => blk_below (g := wr.heap.size) (o := o) h hb); clear hb H1 H2 hO; have H1 := Aside0.mk hr1; have H2 := Aside0.mk hr2; clear hr1 hr2)
                    | fail)
                · obtain ⟨w9, hw9⟩ : ∃ w9, (w6.alloc (.cells #[.bool d.echoed, .bool d.readied, .bool d.done, .slice B1 d.echoes.length d1, .slice B2 d.readies.length d2] 34)) = w9 := ⟨_, rfl⟩
                  rw [hw9]
                  have HCc9 : Aside0 (w9.heap[wo.heap.size]? = some (.cells #[.bool c.echoed, .bool c.readied, .bool c.done, .slice A1 c.echoes.length c1, .slice A2 c.readies.length c2] 34 (0, 0))) := ⟨by rw [← hw9]; exact blk_alloc HCc.out _⟩
                  have H19 : Aside0 (RB w9 (.slice B1 d.echoes.length d1) d.echoes) := ⟨by rw [← hw9]; exact Kd.R_alloc H1.out _⟩
                  have H29 : Aside0 (RB w9 (.slice B2 d.readies.length d2) d.readies) := ⟨by rw [← hw9]; exact Kd.R_alloc H2.out _⟩
                  have HL9 : Aside0 (RU w9 (.slice (some ad) (lstI se).length c5) (lstI se)) := ⟨by rw [← hw9]; exact Kd.R_alloc HL5.out _⟩
                  have HR9 : Aside0 (w9.heap[w1.heap.size]? = some (.cells #[.bool (decide (0 < 1) && e0), .bool (decide (1 < 1) && e1)] 30 (0, 0))) := ⟨by rw [← hw9]; exact blk_alloc HR.out _⟩
                  have HS9 : Aside0 (w9.heap[w.heap.size + 1]? = some (.cells #[.string b0, .string b1] 25 (0, 0))) := ⟨by rw [← hw9]; exact blk_alloc HS2.out _⟩
                  have HB9 : Aside0 (Below w.heap.size w w9) := ⟨by rw [← hw9]; exact below_alloc HB.out _⟩
                  have HN9 : Aside0 (w9.heap[w6.heap.size]? = some (.cells #[.bool d.echoed, .bool d.readied, .bool d.done, .slice B1 d.echoes.length d1, .slice B2 d.readies.length d2] 34 (0, 0))) := ⟨by rw [← hw9]; exact blk_new _ _⟩
                  clear hw9 HZF HCc H1 H2 HL5 HR HS2 HB gq0 gq1
                  go_wp2_with (first
                    | (refine gate_ (.load 34 (.tmp 18)) rfl ?_; refine wpList_load_row rfl 34 (.tmp 18) rfl _ rfl 34 #[.bool d.echoed, .bool d.readied, .bool d.done, .slice B1 d.echoes.length d1, .slice B2 d.readies.length d2] (0, 0) _ HN9.out Tryd.underlying34 rfl (by kernel_rfl) ?_)
                    | (refine gate_ (.store 34 (.tmp 15) (.tmp 101)) rfl ?_; refine wpList_store_row rfl 34 (.tmp 15) (.tmp 101) rfl wo.heap.size #[.bool d.echoed, .bool d.readied, .bool d.done, .slice B1 d.echoes.length d1, .slice B2 d.readies.length d2] rfl rfl 34 #[.bool c.echoed, .bool c.readied, .bool c.done, .slice A1 c.echoes.length c1, .slice A2 c.readies.length c2] HCc9.out (by kernel_rfl) rfl (by simp [Value.oneCell']) ?_)
                    | fail)
                  have HT9 := Touch.row w9 wo.heap.size #[.bool d.echoed, .bool d.readied, .bool d.done, .slice B1 d.echoes.length d1, .slice B2 d.readies.length d2]
                  go_roundw
                  case rel => exact ⟨j + 1, by go_num, by omega, ⟨by rw [HD.out]; exact CaseB.stored HCc9.out H19.out H29.out⟩, ⟨HT9.ru HL9.out HCc9.out (by decide)⟩, ⟨HT9.blk HR9.out (by omega)⟩, ⟨HT9.blk HS9.out (by omega)⟩, ⟨HT9.below HB9.out (by omega) HB9.out.size⟩⟩
                  case measure => simp [intOf]; omega
                · obtain ⟨w9, hw9⟩ : ∃ w9, ((((w6.setCell ⟨wr.heap.size, 0, none⟩ (.bool d.echoed)).setCell ⟨wr.heap.size, 1, none⟩ (.bool d.readied)).setCell ⟨wr.heap.size, 2, none⟩ (.bool d.done)).setCell ⟨wr.heap.size, 3, none⟩ (.slice B1 d.echoes.length d1)).setCell ⟨wr.heap.size, 4, none⟩ (.slice B2 d.readies.length d2) = w9 := ⟨_, rfl⟩
                  rw [hw9]
                  have HZ : Aside0 (w6.heap[wr.heap.size]? = some (.cells #[.bool false, .bool false, .bool false, .slice none 0 0, .slice none 0 0] 34 (0, 0))) := ⟨HZF.out _ (by first | exact blk_newg rfl | exact blk_drew (blk_newg rfl) | exact blk_newg (by simp) | exact blk_drew (blk_newg (by simp)))⟩
                  have hT5 := ((((Touch.set w6 wr.heap.size 0 (.bool d.echoed)).trans (Touch.set _ wr.heap.size 1 (.bool d.readied))).trans (Touch.set _ wr.heap.size 2 (.bool d.done))).trans (Touch.set _ wr.heap.size 3 (.slice B1 d.echoes.length d1))).trans (Touch.set _ wr.heap.size 4 (.slice B2 d.readies.length d2))
                  have hN5 := blk_set (blk_set (blk_set (blk_set (blk_set HZ.out 0 (.bool d.echoed)) 1 (.bool d.readied)) 2 (.bool d.done)) 3 (.slice B1 d.echoes.length d1)) 4 (.slice B2 d.readies.length d2)
                  rw [hw9] at hT5 hN5
                  have HCc9 : Aside0 (w9.heap[wo.heap.size]? = some (.cells #[.bool c.echoed, .bool c.readied, .bool c.done, .slice A1 c.echoes.length c1, .slice A2 c.readies.length c2] 34 (0, 0))) := ⟨hT5.blk HCc.out (by omega)⟩
                  have H19 : Aside0 (RB w9 (.slice B1 d.echoes.length d1) d.echoes) := ⟨hT5.rb H1.out HZ.out (by decide)⟩
                  have H29 : Aside0 (RB w9 (.slice B2 d.readies.length d2) d.readies) := ⟨hT5.rb H2.out HZ.out (by decide)⟩
                  have HL9 : Aside0 (RU w9 (.slice (some ad) (lstI se).length c5) (lstI se)) := ⟨hT5.ru HL5.out HZ.out (by decide)⟩
                  have HR9 : Aside0 (w9.heap[w1.heap.size]? = some (.cells #[.bool (decide (0 < 1) && e0), .bool (decide (1 < 1) && e1)] 30 (0, 0))) := ⟨hT5.blk HR.out (by omega)⟩
                  have HS9 : Aside0 (w9.heap[w.heap.size + 1]? = some (.cells #[.string b0, .string b1] 25 (0, 0))) := ⟨hT5.blk HS2.out (by omega)⟩
                  have HB9 : Aside0 (Below w.heap.size w w9) := ⟨hT5.below HB.out (by omega) HB.out.size⟩
                  have HN9 : Aside0 (w9.heap[wr.heap.size]? = some (.cells #[.bool d.echoed, .bool d.readied, .bool d.done, .slice B1 d.echoes.length d1, .slice B2 d.readies.length d2] 34 (0, 0))) := ⟨hN5⟩
                  clear hw9 hT5 hN5 HZ HZF HCc H1 H2 HL5 HR HS2 HB gq0 gq1
                  go_wp2_with (first
                    | (refine gate_ (.load 34 (.tmp 18)) rfl ?_; refine wpList_load_row rfl 34 (.tmp 18) rfl _ rfl 34 #[.bool d.echoed, .bool d.readied, .bool d.done, .slice B1 d.echoes.length d1, .slice B2 d.readies.length d2] (0, 0) _ HN9.out Tryd.underlying34 rfl (by kernel_rfl) ?_)
                    | (refine gate_ (.store 34 (.tmp 15) (.tmp 101)) rfl ?_; refine wpList_store_row rfl 34 (.tmp 15) (.tmp 101) rfl wo.heap.size #[.bool d.echoed, .bool d.readied, .bool d.done, .slice B1 d.echoes.length d1, .slice B2 d.readies.length d2] rfl rfl 34 #[.bool c.echoed, .bool c.readied, .bool c.done, .slice A1 c.echoes.length c1, .slice A2 c.readies.length c2] HCc9.out (by kernel_rfl) rfl (by simp [Value.oneCell']) ?_)
                    | fail)
                  have HT9 := Touch.row w9 wo.heap.size #[.bool d.echoed, .bool d.readied, .bool d.done, .slice B1 d.echoes.length d1, .slice B2 d.readies.length d2]
                  go_roundw
                  case rel => exact ⟨j + 1, by go_num, by omega, ⟨by rw [HD.out]; exact CaseB.stored HCc9.out H19.out H29.out⟩, ⟨HT9.ru HL9.out HCc9.out (by decide)⟩, ⟨HT9.blk HR9.out (by omega)⟩, ⟨HT9.blk HS9.out (by omega)⟩, ⟨HT9.below HB9.out (by omega) HB9.out.size⟩⟩
                  case measure => simp [intOf]; omega
              · have hjn : j = (lstI se).length := by omega
                obtain ⟨A1, c1, A2, c2, hC, hr1, hr2⟩ := HC.out
                have hfull : (lst se).take j = lst se := List.take_of_length_le (by have := HLl.out; omega)
                rw [hfull] at hC
                have hez : (caseQ (k + 1) b1 (lst se)).readied = e1 := by
                  rw [← HE1.out]
                  show decide _ = decide _
                  rw [lst_length]
                have a1 : wr.cell? ⟨wo.heap.size, 1, none⟩ = some (.bool e1) := by rw [← hez]; exact blk_cell hC 1
                clear hC hr1 hr2 hez hfull hjn HC HL5
                go_wp2_with (first
                  | (refine gate_ (.store 4 (.tmp 106) (.tmp 105)) rfl ?_; refine set_event rfl rfl 4 (.tmp 106) (.tmp 105) rfl w1.heap.size 1 #[.bool (decide (0 < 1) && e0), .bool (decide (1 < 1) && e1)] 30 (.bool e1) rfl rfl rfl (by kernel_rfl) HR.out (by simp) rfl ?_; intro w7 hD hT; have HRx : Aside0 (w7.heap[w1.heap.size]? = some (.cells #[.bool (decide (0 < 2) && e0), .bool (decide (1 < 2) && e1)] 30 (0, 0))) := ⟨hD⟩; have HSx : Aside0 (w7.heap[w.heap.size + 1]? = some (.cells #[.string b0, .string b1] 25 (0, 0))) := ⟨hT.blk HS2.out (by omega)⟩; have HBx : Aside0 (Below w.heap.size w w7) := ⟨hT.below HB.out (by omega) HB.out.size⟩; clear hD hT HR HS2 HB; have HR := HRx; have HS2 := HSx; have HB := HBx; clear HRx HSx HBx)
                  | fail)
                go_roundw
                case rel => exact ⟨2, (by first | rfl | go_num), by omega, HR, HS2, HB⟩
                case measure => simp [intOf]
        · have hi2 : i = 2 := by omega
          subst hi2
          have r0 : wo.cell? ⟨w1.heap.size, 0, none⟩ = some (.bool e0) := blk_cell HR.out 0
          have r1 : wo.cell? ⟨w1.heap.size, 1, none⟩ = some (.bool e1) := blk_cell HR.out 1
          cases h8 : e0 with
          | false =>
            subst h8
            go_wp2_with fail
            go_ret
            exact ⟨rfl, HB.out⟩
          | true =>
            have h9 : e1 = false := by
              cases h7 : e1 with
              | false => rfl
              | true => exact absurd ⟨h8, h7⟩ HQ.out
            subst h8
            subst h9
            go_wp2_with fail
            go_ret
            exact ⟨rfl, HB.out⟩
end Go.Proofs.YtbaknecnkipooaaDoor.Vot
