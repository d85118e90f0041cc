/- The walk of alive: answers that the document fixes. -/
import Derived.Test.YthkofjlbnekgkaaTrcAgree
import Derived.Test.YthkofjlbnekgkaaArrEq
namespace Go.Proofs.Ythkofjlbnekgkaa.Trc
open Go Go.RowKit Go.Maps Go.Proofs.YthkofjlbnekgkaaW.PrintWords Go.Proofs.Ythkofjlbnekgkaa.PTraceAgrees Go.Proofs.Ythkofjlbnekgkaa.Mp
set_option linter.unusedVariables false
set_option linter.unusedSimpArgs false
attribute [local go_sem high] eqA50 eqA52 eqA54

theorem c1_50 {w : World} {b : Nat} {cs : Array Value} (x : S50) (h0 : w.heap[b]? = some (.cells cs 50 (0, 0))) (hcs : cs = #[.int .i64 x.f0.f0, .int .u8 x.f0.f1, .int .i64 x.f0.f2, .string x.f1]) : Kd.C k50 w (some ⟨b, 0, none⟩) 1 [x] := by
  subst hcs
  have h := h0
  refine ⟨rfl, by omega, fun _ => ⟨_, rfl, fun j p hj => ?_⟩⟩
  match j, hj with
  | 0, hj =>
    simp at hj
    subst hj
    refine ⟨_, rfl, k50_mk _ _, fun i u hu => ?_⟩
    rw [add_plain, show 0 * k50.sz + i = i from by simp, blk_cell h]
    simpa using hu
theorem c2_50 {w : World} {b : Nat} {cs : Array Value} (x y : S50) (h0 : w.heap[b]? = some (.cells cs 50 (0, 0))) (hcs : cs = #[.int .i64 x.f0.f0, .int .u8 x.f0.f1, .int .i64 x.f0.f2, .string x.f1, .int .i64 y.f0.f0, .int .u8 y.f0.f1, .int .i64 y.f0.f2, .string y.f1]) : Kd.C k50 w (some ⟨b, 0, none⟩) 2 [x, y] := by
  subst hcs
  have h := h0
  refine ⟨rfl, by omega, fun _ => ⟨_, rfl, fun j p hj => ?_⟩⟩
  match j, hj with
  | 0, hj =>
    simp at hj
    subst hj
    refine ⟨_, rfl, k50_mk _ _, fun i u hu => ?_⟩
    rw [add_plain, show 0 * k50.sz + i = i from by simp, blk_cell h]
    have hi : i < 4 := (List.getElem?_eq_some_iff.1 hu).1
    match i, hi with
    | 0, _ => exact hu
    | 1, _ => exact hu
    | 2, _ => exact hu
    | 3, _ => exact hu
  | 1, hj =>
    simp at hj
    subst hj
    refine ⟨_, rfl, k50_mk _ _, fun i u hu => ?_⟩
    rw [add_plain, show 1 * k50.sz + i = 4 + i from by show 1 * 4 + i = _; omega, blk_cell h]
    have hi : i < 4 := (List.getElem?_eq_some_iff.1 hu).1
    match i, hi with
    | 0, _ => exact hu
    | 1, _ => exact hu
    | 2, _ => exact hu
    | 3, _ => exact hu
theorem cL2 {w : World} {b : Nat} {xs ys : List S50} {A1 A2 : Option Addr} {c1 c2 n1 n2 : Nat} (h : w.heap[b]? = some (.cells #[.slice A1 n1 c1, .slice A2 n2 c2] 26 (0, 0))) (e1 : n1 = xs.length) (e2 : n2 = ys.length)
    (h1 : Kd.C k50 w A1 xs.length xs) (h2 : Kd.C k50 w A2 ys.length ys) (l1 : xs.length ≤ c1) (l2 : ys.length ≤ c2) : Kd.C (Kd.slice 50 k50) w (some ⟨b, 0, none⟩) 2 [xs, ys] := by
  subst e1
  subst e2
  refine ⟨rfl, by omega, fun _ => ⟨_, rfl, fun j p hj => ?_⟩⟩
  match j, hj with
  | 0, hj =>
    simp at hj
    subst hj
    refine ⟨_, rfl, ⟨A1, c1, rfl, l1, h1⟩, fun i u hu => ?_⟩
    have hi : i < 1 := (List.getElem?_eq_some_iff.1 hu).1
    obtain rfl : i = 0 := by omega
    rw [add_plain, blk_cell h]
    exact hu
  | 1, hj =>
    simp at hj
    subst hj
    refine ⟨_, rfl, ⟨A2, c2, rfl, l2, h2⟩, fun i u hu => ?_⟩
    have hi : i < 1 := (List.getElem?_eq_some_iff.1 hu).1
    obtain rfl : i = 0 := by omega
    rw [add_plain, blk_cell h]
    exact hu

def eA : S50 := ⟨⟨0, 0, 0⟩, ⟨#[97]⟩⟩
def eB : S50 := ⟨⟨0, 0, 1⟩, ⟨#[98]⟩⟩
theorem okA : okE eA := ⟨⟨show (Lit.int .i64 0).wf = true by decide, show (Lit.int .u8 0).wf = true by decide, show (Lit.int .i64 0).wf = true by decide⟩, by decide⟩
theorem okB : okE eB := ⟨⟨show (Lit.int .i64 0).wf = true by decide, show (Lit.int .u8 0).wf = true by decide, show (Lit.int .i64 1).wf = true by decide⟩, by decide⟩
theorem ok2 : ∀ x ∈ [eA, eB], okE x := by intro x hx; simp at hx; rcases hx with rfl | rfl; exact okA; exact okB
theorem ok1 : ∀ x ∈ [eA], okE x := by intro x hx; simp at hx; subst hx; exact okA
theorem ok1' : ∀ x ∈ [eB], okE x := by intro x hx; simp at hx; subst hx; exact okB
theorem eAB : eA ≠ eB := by intro h; have := congrArg (fun x : S50 => x.f0.f2) h; simp [eA, eB] at this
theorem of_A (s : Int × Int) : isOf s.1 s.2 eA = isOf s.1 s.2 eB := rfl
theorem agree_yes : agL [[eA, eB], [eA]] = true := by
  rw [agL_iff]
  have h1 : ∀ s : Int × Int, (ofL [eA, eB] s.1 s.2 = [eA, eB] ∧ ofL [eA] s.1 s.2 = [eA]) ∨ (ofL [eA, eB] s.1 s.2 = [] ∧ ofL [eA] s.1 s.2 = []) := by
    intro s
    unfold ofL
    cases h : isOf s.1 s.2 eB
    · right; simp [of_A, h]
    · left; simp [of_A, h]
  intro a ha b hb s
  have key : ∀ a ∈ [[eA, eB], [eA]], ofL a s.1 s.2 <+: [eA, eB] := by
    intro a ha
    simp at ha
    rcases ha with rfl | rfl
    · rcases h1 s with ⟨h, _⟩ | ⟨h, _⟩
      · rw [h]; exact List.prefix_rfl
      · rw [h]; exact List.nil_prefix
    · rcases h1 s with ⟨_, h⟩ | ⟨_, h⟩
      · rw [h]; exact ⟨[eB], rfl⟩
      · rw [h]; exact List.nil_prefix
  exact prefix_pre (key a ha) (key b hb)
theorem agree_no : agL [[eA, eB], [eB]] = false := by
  refine agL_no fun h => ?_
  have h1 := h [eA, eB] (by simp) [eB] (by simp) (0, 0)
  have e1 : ofL [eA, eB] 0 0 = [eA, eB] := rfl
  have e2 : ofL [eB] 0 0 = [eB] := rfl
  rw [show ((0, 0) : Int × Int).1 = 0 from rfl, show ((0, 0) : Int × Int).2 = 0 from rfl, e1, e2] at h1
  have := (pre_iff _ _).1 h1 0 (by simp) (by simp)
  exact eAB this
theorem counts_two : cntL [eA, eB] 0 = [2, 0, 0, 0, 0, 0, 0, 0, 0, 0, 0, 0, 0, 0, 0, 0] := by decide +kernel
theorem first_is : IsFirst [eA, eB] [eA] 1 := .inr ⟨1, by simp, rfl, by simpa using Ne.symm eAB, fun j hj => by
  obtain rfl : j = 0 := by omega
  simp⟩
theorem first_one {r : Int} (h : IsFirst [eA, eB] [eA] r) : r = 1 := h.uniq first_is
theorem first_no {r : Int} (h : IsFirst [eA] [eA] r) : r = -1 := h.uniq (.inl ⟨rfl, fun x hx => hx⟩)
theorem of_two : (ofL [eA, eB] 0 0).length = 2 := rfl
theorem below_refl_of {w : World} : Below w.heap.size w w := Below.refl _ _

theorem vec_two : vecV [2, 0, 0, 0, 0, 0, 0, 0, 0, 0, 0, 0, 0, 0, 0, 0] = .agg #[.int .u16 2, .int .u16 0, .int .u16 0, .int .u16 0, .int .u16 0, .int .u16 0, .int .u16 0, .int .u16 0, .int .u16 0, .int .u16 0, .int .u16 0, .int .u16 0, .int .u16 0, .int .u16 0, .int .u16 0, .int .u16 0] := rfl
theorem kt35 : Try.prog.keyTypeAt 9 35 = true := by kernel_rfl
theorem cells35 : Try.prog.cellsOf 35 = 16 := by kernel_rfl
theorem cells33 : Try.prog.cellsOf 33 = 1 := by kernel_rfl
theorem wf_cntL (l : List S50) (v : Int) : ∀ x ∈ cntL l v, (Lit.int .u16 x).wf = true := fun x hx => by have := cntL_range l v x hx; exact WalkArith.wf_u16 (by omega)
/-- '==' of two counts -/
theorem eq_vec (xs ys : List Int) (hl : xs.length = 16) (hl' : ys.length = 16) (hw : ∀ x ∈ xs, (Lit.int .u16 x).wf = true) (hw' : ∀ x ∈ ys, (Lit.int .u16 x).wf = true) (w : World) :
    (Op.equalIn 10000 35 (vecV xs) (vecV ys)).run Try.prog w = .ok (decide (xs = ys)) w :=
  eq_arr Try.underlying35 Try.underlying33 cells35 cells33 kt35 xs ys hl hl' hw hw' w
theorem eq_two (w : World) : (Op.equalIn 10000 35 (.agg #[.int .u16 2, .int .u16 0, .int .u16 0, .int .u16 0, .int .u16 0, .int .u16 0, .int .u16 0, .int .u16 0, .int .u16 0, .int .u16 0, .int .u16 0, .int .u16 0, .int .u16 0, .int .u16 0, .int .u16 0, .int .u16 0]) (.agg #[.int .u16 2, .int .u16 0, .int .u16 0, .int .u16 0, .int .u16 0, .int .u16 0, .int .u16 0, .int .u16 0, .int .u16 0, .int .u16 0, .int .u16 0, .int .u16 0, .int .u16 0, .int .u16 0, .int .u16 0, .int .u16 0])).run Try.prog w = .ok true w := by
  have := eq_vec [2, 0, 0, 0, 0, 0, 0, 0, 0, 0, 0, 0, 0, 0, 0, 0] [2, 0, 0, 0, 0, 0, 0, 0, 0, 0, 0, 0, 0, 0, 0, 0] rfl rfl (by decide) (by decide) w
  rw [vec_two] at this
  simpa using this
theorem lens_yes : ∀ x ∈ [[eA, eB], [eA]], x.length ≤ 30 := by intro x hx; simp at hx; rcases hx with rfl | rfl <;> simp
theorem lens_no : ∀ x ∈ [[eA, eB], [eB]], x.length ≤ 30 := by intro x hx; simp at hx; rcases hx with rfl | rfl <;> simp
theorem oks_yes : ∀ x ∈ [[eA, eB], [eA]], ∀ y ∈ x, okE y := by intro x hx; simp at hx; rcases hx with rfl | rfl; exact ok2; exact ok1
theorem oks_no : ∀ x ∈ [[eA, eB], [eB]], ∀ y ∈ x, okE y := by intro x hx; simp at hx; rcases hx with rfl | rfl; exact ok2; exact ok1'
theorem src2 : ∀ x ∈ [eA, eB], 0 ≤ x.f0.f1 := by intro x hx; simp at hx; rcases hx with rfl | rfl <;> decide
theorem c0_50 (w : World) : Kd.C k50 w none 0 [] := ⟨rfl, by omega, fun h => absurd h (by omega)⟩
theorem pre_A : pre ([] : List S50) [eA] = true := pre_nil _

set_option maxHeartbeats 4000000 in
set_option maxRecDepth 100000 in
theorem alive_calls (w : World) : Calls Try.prog 9 #[] w (Kept (.bool true) w) := by
  have hqq := eq_two
  have tokA : True := trivial
  have tokF : True := trivial
  have HB := Aside0.mk (Below.refl w.heap.size w)
  have HA : Aside0 (((w.alloc (.cells #[(.int .i64 0), (.int .u8 0), (.int .i64 0), (.string ⟨#[97]⟩)] 50)).alloc (.cells #[(.int .i64 0), (.int .u8 0), (.int .i64 1), (.string ⟨#[98]⟩)] 50)).heap[w.heap.size]? = some (.cells #[(.int .i64 0), (.int .u8 0), (.int .i64 0), (.string ⟨#[97]⟩)] 50 (0, 0))) := ⟨blk_alloc (blk_new _ _) _⟩
  have HBk : Aside0 (((w.alloc (.cells #[(.int .i64 0), (.int .u8 0), (.int .i64 0), (.string ⟨#[97]⟩)] 50)).alloc (.cells #[(.int .i64 0), (.int .u8 0), (.int .i64 1), (.string ⟨#[98]⟩)] 50)).heap[w.heap.size + 1]? = some (.cells #[(.int .i64 0), (.int .u8 0), (.int .i64 1), (.string ⟨#[98]⟩)] 50 (0, 0))) := ⟨blk_new' (by simp)⟩
  go_enter Try.func9, Try.ntmps9
  go_wp2_with (first
    | (go_at_call 22; have _t := tokA; clear _t tokA; refine (agree_calls _ _ [[eA, eB], [eA]] _ (cL2 (xs := [eA, eB]) (ys := [eA]) (by repeat (first | (with_reducible refine blk_drew ?_) | (with_reducible refine blk_drewN ?_ _) | (with_reducible refine blk_new' ?_; (simp; done)) | (with_reducible refine blk_alloc ?_ _))) (by rfl) (by rfl) (c2_50 eA eB (by repeat (first | (with_reducible refine blk_drew ?_) | (with_reducible refine blk_drewN ?_ _) | (with_reducible refine blk_new' ?_; (simp; done)) | (with_reducible refine blk_alloc ?_ _))) (by rfl)) (c1_50 eA (by repeat (first | (with_reducible refine blk_drew ?_) | (with_reducible refine blk_drewN ?_ _) | (with_reducible refine blk_new' ?_; (simp; done)) | (with_reducible refine blk_alloc ?_ _))) (by rfl)) (by simp) (by simp)) (by simp) lens_yes oks_yes).mono ?_; rw [agree_yes]; rintro e w1 ⟨rfl, hb⟩; (try clear a0 a1 a2 a3 b0 b1 b2 b3 ltA ltB); have HBx : Aside0 (Below w.heap.size w w1) := ⟨below_back hb (by repeat (first | exact HB.out | (with_reducible refine below_alloc ?_ _) | (with_reducible refine pw_below_drewN ?_ _)))⟩; have hA : w1.heap[w.heap.size]? = some (.cells #[(.int .i64 0), (.int .u8 0), (.int .i64 0), (.string ⟨#[97]⟩)] 50 (0, 0)) := blk_below (by repeat (first | exact HA.out | (with_reducible refine blk_drewN ?_ _) | (with_reducible refine blk_alloc ?_ _))) hb; have hB : w1.heap[w.heap.size + 1]? = some (.cells #[(.int .i64 0), (.int .u8 0), (.int .i64 1), (.string ⟨#[98]⟩)] 50 (0, 0)) := blk_below (by repeat (first | exact HBk.out | (with_reducible refine blk_drewN ?_ _) | (with_reducible refine blk_alloc ?_ _))) hb; have a0 : w1.cell? ⟨w.heap.size, 0, none⟩ = some (.int .i64 0) := blk_cell hA 0; have a1 : w1.cell? ⟨w.heap.size, 1, none⟩ = some (.int .u8 0) := blk_cell hA 1; have a2 : w1.cell? ⟨w.heap.size, 2, none⟩ = some (.int .i64 0) := blk_cell hA 2; have a3 : w1.cell? ⟨w.heap.size, 3, none⟩ = some (.string ⟨#[97]⟩) := blk_cell hA 3; have b0 : w1.cell? ⟨w.heap.size + 1, 0, none⟩ = some (.int .i64 0) := blk_cell hB 0; have b1 : w1.cell? ⟨w.heap.size + 1, 1, none⟩ = some (.int .u8 0) := blk_cell hB 1; have b2 : w1.cell? ⟨w.heap.size + 1, 2, none⟩ = some (.int .i64 1) := blk_cell hB 2; have b3 : w1.cell? ⟨w.heap.size + 1, 3, none⟩ = some (.string ⟨#[98]⟩) := blk_cell hB 3; have ltA := blk_lt hA; have ltB := blk_lt hB; clear HA HBk HB hb; have HA := Aside0.mk hA; have HBk := Aside0.mk hB; have HB := HBx; clear HBx hA hB)
    | (go_at_call 22; refine (agree_calls _ _ [[eA, eB], [eB]] _ (cL2 (xs := [eA, eB]) (ys := [eB]) (by repeat (first | (with_reducible refine blk_drew ?_) | (with_reducible refine blk_drewN ?_ _) | (with_reducible refine blk_new' ?_; (simp; done)) | (with_reducible refine blk_alloc ?_ _))) (by rfl) (by rfl) (c2_50 eA eB (by repeat (first | (with_reducible refine blk_drew ?_) | (with_reducible refine blk_drewN ?_ _) | (with_reducible refine blk_new' ?_; (simp; done)) | (with_reducible refine blk_alloc ?_ _))) (by rfl)) (c1_50 eB (by repeat (first | (with_reducible refine blk_drew ?_) | (with_reducible refine blk_drewN ?_ _) | (with_reducible refine blk_new' ?_; (simp; done)) | (with_reducible refine blk_alloc ?_ _))) (by rfl)) (by simp) (by simp)) (by simp) lens_no oks_no).mono ?_; rw [agree_no]; rintro e w1 ⟨rfl, hb⟩; (try clear a0 a1 a2 a3 b0 b1 b2 b3 ltA ltB); have HBx : Aside0 (Below w.heap.size w w1) := ⟨below_back hb (by repeat (first | exact HB.out | (with_reducible refine below_alloc ?_ _) | (with_reducible refine pw_below_drewN ?_ _)))⟩; have hA : w1.heap[w.heap.size]? = some (.cells #[(.int .i64 0), (.int .u8 0), (.int .i64 0), (.string ⟨#[97]⟩)] 50 (0, 0)) := blk_below (by repeat (first | exact HA.out | (with_reducible refine blk_drewN ?_ _) | (with_reducible refine blk_alloc ?_ _))) hb; have hB : w1.heap[w.heap.size + 1]? = some (.cells #[(.int .i64 0), (.int .u8 0), (.int .i64 1), (.string ⟨#[98]⟩)] 50 (0, 0)) := blk_below (by repeat (first | exact HBk.out | (with_reducible refine blk_drewN ?_ _) | (with_reducible refine blk_alloc ?_ _))) hb; have a0 : w1.cell? ⟨w.heap.size, 0, none⟩ = some (.int .i64 0) := blk_cell hA 0; have a1 : w1.cell? ⟨w.heap.size, 1, none⟩ = some (.int .u8 0) := blk_cell hA 1; have a2 : w1.cell? ⟨w.heap.size, 2, none⟩ = some (.int .i64 0) := blk_cell hA 2; have a3 : w1.cell? ⟨w.heap.size, 3, none⟩ = some (.string ⟨#[97]⟩) := blk_cell hA 3; have b0 : w1.cell? ⟨w.heap.size + 1, 0, none⟩ = some (.int .i64 0) := blk_cell hB 0; have b1 : w1.cell? ⟨w.heap.size + 1, 1, none⟩ = some (.int .u8 0) := blk_cell hB 1; have b2 : w1.cell? ⟨w.heap.size + 1, 2, none⟩ = some (.int .i64 1) := blk_cell hB 2; have b3 : w1.cell? ⟨w.heap.size + 1, 3, none⟩ = some (.string ⟨#[98]⟩) := blk_cell hB 3; have ltA := blk_lt hA; have ltB := blk_lt hB; clear HA HBk HB hb; have HA := Aside0.mk hA; have HBk := Aside0.mk hB; have HB := HBx; clear HBx hA hB)
    | (go_at_call 17; refine (counts_calls _ _ [eA, eB] 0 _ (c2_50 eA eB (by repeat (first | (with_reducible refine blk_drew ?_) | (with_reducible refine blk_drewN ?_ _) | (with_reducible refine blk_new' ?_; (simp; done)) | (with_reducible refine blk_alloc ?_ _))) (by rfl)) (by simp) src2).mono ?_; rw [counts_two, vec_two]; rintro e w1 ⟨rfl, hb⟩; (try clear a0 a1 a2 a3 b0 b1 b2 b3 ltA ltB); have HBx : Aside0 (Below w.heap.size w w1) := ⟨below_back hb (by repeat (first | exact HB.out | (with_reducible refine below_alloc ?_ _) | (with_reducible refine pw_below_drewN ?_ _)))⟩; have hA : w1.heap[w.heap.size]? = some (.cells #[(.int .i64 0), (.int .u8 0), (.int .i64 0), (.string ⟨#[97]⟩)] 50 (0, 0)) := blk_below (by repeat (first | exact HA.out | (with_reducible refine blk_drewN ?_ _) | (with_reducible refine blk_alloc ?_ _))) hb; have hB : w1.heap[w.heap.size + 1]? = some (.cells #[(.int .i64 0), (.int .u8 0), (.int .i64 1), (.string ⟨#[98]⟩)] 50 (0, 0)) := blk_below (by repeat (first | exact HBk.out | (with_reducible refine blk_drewN ?_ _) | (with_reducible refine blk_alloc ?_ _))) hb; have a0 : w1.cell? ⟨w.heap.size, 0, none⟩ = some (.int .i64 0) := blk_cell hA 0; have a1 : w1.cell? ⟨w.heap.size, 1, none⟩ = some (.int .u8 0) := blk_cell hA 1; have a2 : w1.cell? ⟨w.heap.size, 2, none⟩ = some (.int .i64 0) := blk_cell hA 2; have a3 : w1.cell? ⟨w.heap.size, 3, none⟩ = some (.string ⟨#[97]⟩) := blk_cell hA 3; have b0 : w1.cell? ⟨w.heap.size + 1, 0, none⟩ = some (.int .i64 0) := blk_cell hB 0; have b1 : w1.cell? ⟨w.heap.size + 1, 1, none⟩ = some (.int .u8 0) := blk_cell hB 1; have b2 : w1.cell? ⟨w.heap.size + 1, 2, none⟩ = some (.int .i64 1) := blk_cell hB 2; have b3 : w1.cell? ⟨w.heap.size + 1, 3, none⟩ = some (.string ⟨#[98]⟩) := blk_cell hB 3; have ltA := blk_lt hA; have ltB := blk_lt hB; clear HA HBk HB hb; have HA := Aside0.mk hA; have HBk := Aside0.mk hB; have HB := HBx; clear HBx hA hB)
    | (go_at_call 19; have _t := tokF; clear _t tokF; refine (first_calls _ _ _ _ [eA, eB] [eA] _ (c2_50 eA eB (by repeat (first | (with_reducible refine blk_drew ?_) | (with_reducible refine blk_drewN ?_ _) | (with_reducible refine blk_new' ?_; (simp; done)) | (with_reducible refine blk_alloc ?_ _))) (by rfl)) (c1_50 eA (by repeat (first | (with_reducible refine blk_drew ?_) | (with_reducible refine blk_drewN ?_ _) | (with_reducible refine blk_new' ?_; (simp; done)) | (with_reducible refine blk_alloc ?_ _))) (by rfl)) (by simp) (by simp) ok2 ok1).mono ?_; rintro e w1 ⟨r, rfl, hF, hb⟩; obtain rfl := first_one hF; (try clear a0 a1 a2 a3 b0 b1 b2 b3 ltA ltB); have HBx : Aside0 (Below w.heap.size w w1) := ⟨below_back hb (by repeat (first | exact HB.out | (with_reducible refine below_alloc ?_ _) | (with_reducible refine pw_below_drewN ?_ _)))⟩; have hA : w1.heap[w.heap.size]? = some (.cells #[(.int .i64 0), (.int .u8 0), (.int .i64 0), (.string ⟨#[97]⟩)] 50 (0, 0)) := blk_below (by repeat (first | exact HA.out | (with_reducible refine blk_drewN ?_ _) | (with_reducible refine blk_alloc ?_ _))) hb; have hB : w1.heap[w.heap.size + 1]? = some (.cells #[(.int .i64 0), (.int .u8 0), (.int .i64 1), (.string ⟨#[98]⟩)] 50 (0, 0)) := blk_below (by repeat (first | exact HBk.out | (with_reducible refine blk_drewN ?_ _) | (with_reducible refine blk_alloc ?_ _))) hb; have a0 : w1.cell? ⟨w.heap.size, 0, none⟩ = some (.int .i64 0) := blk_cell hA 0; have a1 : w1.cell? ⟨w.heap.size, 1, none⟩ = some (.int .u8 0) := blk_cell hA 1; have a2 : w1.cell? ⟨w.heap.size, 2, none⟩ = some (.int .i64 0) := blk_cell hA 2; have a3 : w1.cell? ⟨w.heap.size, 3, none⟩ = some (.string ⟨#[97]⟩) := blk_cell hA 3; have b0 : w1.cell? ⟨w.heap.size + 1, 0, none⟩ = some (.int .i64 0) := blk_cell hB 0; have b1 : w1.cell? ⟨w.heap.size + 1, 1, none⟩ = some (.int .u8 0) := blk_cell hB 1; have b2 : w1.cell? ⟨w.heap.size + 1, 2, none⟩ = some (.int .i64 1) := blk_cell hB 2; have b3 : w1.cell? ⟨w.heap.size + 1, 3, none⟩ = some (.string ⟨#[98]⟩) := blk_cell hB 3; have ltA := blk_lt hA; have ltB := blk_lt hB; clear HA HBk HB hb; have HA := Aside0.mk hA; have HBk := Aside0.mk hB; have HB := HBx; clear HBx hA hB)
    | (go_at_call 19; refine (first_calls _ _ _ _ [eA] [eA] _ (c1_50 eA (by repeat (first | (with_reducible refine blk_drew ?_) | (with_reducible refine blk_drewN ?_ _) | (with_reducible refine blk_new' ?_; (simp; done)) | (with_reducible refine blk_alloc ?_ _))) (by rfl)) (c1_50 eA (by repeat (first | (with_reducible refine blk_drew ?_) | (with_reducible refine blk_drewN ?_ _) | (with_reducible refine blk_new' ?_; (simp; done)) | (with_reducible refine blk_alloc ?_ _))) (by rfl)) (by simp) (by simp) ok1 ok1).mono ?_; rintro e w1 ⟨r, rfl, hF, hb⟩; obtain rfl := first_no hF; (try clear a0 a1 a2 a3 b0 b1 b2 b3 ltA ltB); have HBx : Aside0 (Below w.heap.size w w1) := ⟨below_back hb (by repeat (first | exact HB.out | (with_reducible refine below_alloc ?_ _) | (with_reducible refine pw_below_drewN ?_ _)))⟩; have hA : w1.heap[w.heap.size]? = some (.cells #[(.int .i64 0), (.int .u8 0), (.int .i64 0), (.string ⟨#[97]⟩)] 50 (0, 0)) := blk_below (by repeat (first | exact HA.out | (with_reducible refine blk_drewN ?_ _) | (with_reducible refine blk_alloc ?_ _))) hb; have hB : w1.heap[w.heap.size + 1]? = some (.cells #[(.int .i64 0), (.int .u8 0), (.int .i64 1), (.string ⟨#[98]⟩)] 50 (0, 0)) := blk_below (by repeat (first | exact HBk.out | (with_reducible refine blk_drewN ?_ _) | (with_reducible refine blk_alloc ?_ _))) hb; have a0 : w1.cell? ⟨w.heap.size, 0, none⟩ = some (.int .i64 0) := blk_cell hA 0; have a1 : w1.cell? ⟨w.heap.size, 1, none⟩ = some (.int .u8 0) := blk_cell hA 1; have a2 : w1.cell? ⟨w.heap.size, 2, none⟩ = some (.int .i64 0) := blk_cell hA 2; have a3 : w1.cell? ⟨w.heap.size, 3, none⟩ = some (.string ⟨#[97]⟩) := blk_cell hA 3; have b0 : w1.cell? ⟨w.heap.size + 1, 0, none⟩ = some (.int .i64 0) := blk_cell hB 0; have b1 : w1.cell? ⟨w.heap.size + 1, 1, none⟩ = some (.int .u8 0) := blk_cell hB 1; have b2 : w1.cell? ⟨w.heap.size + 1, 2, none⟩ = some (.int .i64 1) := blk_cell hB 2; have b3 : w1.cell? ⟨w.heap.size + 1, 3, none⟩ = some (.string ⟨#[98]⟩) := blk_cell hB 3; have ltA := blk_lt hA; have ltB := blk_lt hB; clear HA HBk HB hb; have HA := Aside0.mk hA; have HBk := Aside0.mk hB; have HB := HBx; clear HBx hA hB)
    | (go_at_call 13; refine (of_calls _ _ [eA, eB] 0 0 _ (c2_50 eA eB (by repeat (first | (with_reducible refine blk_drew ?_) | (with_reducible refine blk_drewN ?_ _) | (with_reducible refine blk_new' ?_; (simp; done)) | (with_reducible refine blk_alloc ?_ _))) (by rfl)) (by simp)).mono ?_; rintro e w1 ⟨v, rfl, ho, hb⟩; obtain ⟨A1, c1, ev⟩ := Kd.R_slice ho; rw [of_two] at ev; subst ev; clear ho; (try clear a0 a1 a2 a3 b0 b1 b2 b3 ltA ltB); have HBx : Aside0 (Below w.heap.size w w1) := ⟨below_back hb (by repeat (first | exact HB.out | (with_reducible refine below_alloc ?_ _) | (with_reducible refine pw_below_drewN ?_ _)))⟩; have hA : w1.heap[w.heap.size]? = some (.cells #[(.int .i64 0), (.int .u8 0), (.int .i64 0), (.string ⟨#[97]⟩)] 50 (0, 0)) := blk_below (by repeat (first | exact HA.out | (with_reducible refine blk_drewN ?_ _) | (with_reducible refine blk_alloc ?_ _))) hb; have hB : w1.heap[w.heap.size + 1]? = some (.cells #[(.int .i64 0), (.int .u8 0), (.int .i64 1), (.string ⟨#[98]⟩)] 50 (0, 0)) := blk_below (by repeat (first | exact HBk.out | (with_reducible refine blk_drewN ?_ _) | (with_reducible refine blk_alloc ?_ _))) hb; have a0 : w1.cell? ⟨w.heap.size, 0, none⟩ = some (.int .i64 0) := blk_cell hA 0; have a1 : w1.cell? ⟨w.heap.size, 1, none⟩ = some (.int .u8 0) := blk_cell hA 1; have a2 : w1.cell? ⟨w.heap.size, 2, none⟩ = some (.int .i64 0) := blk_cell hA 2; have a3 : w1.cell? ⟨w.heap.size, 3, none⟩ = some (.string ⟨#[97]⟩) := blk_cell hA 3; have b0 : w1.cell? ⟨w.heap.size + 1, 0, none⟩ = some (.int .i64 0) := blk_cell hB 0; have b1 : w1.cell? ⟨w.heap.size + 1, 1, none⟩ = some (.int .u8 0) := blk_cell hB 1; have b2 : w1.cell? ⟨w.heap.size + 1, 2, none⟩ = some (.int .i64 1) := blk_cell hB 2; have b3 : w1.cell? ⟨w.heap.size + 1, 3, none⟩ = some (.string ⟨#[98]⟩) := blk_cell hB 3; have ltA := blk_lt hA; have ltB := blk_lt hB; clear HA HBk HB hb; have HA := Aside0.mk hA; have HBk := Aside0.mk hB; have HB := HBx; clear HBx hA hB)
    | (go_at_call 15; refine (prefix_calls none _ 0 1 [] [eA] _ (c0_50 _) (c1_50 eA (by repeat (first | (with_reducible refine blk_drew ?_) | (with_reducible refine blk_drewN ?_ _) | (with_reducible refine blk_new' ?_; (simp; done)) | (with_reducible refine blk_alloc ?_ _))) (by rfl)) (by simp) (by simp) (by simp) (by simp)).mono ?_; rw [pre_A]; rintro e w1 ⟨rfl, m, rfl⟩)
    | fail)
  go_ret
  exact ⟨rfl, (by repeat (first | exact HB.out | (with_reducible refine below_alloc ?_ _) | (with_reducible refine pw_below_drewN ?_ _)))⟩
end Go.Proofs.Ythkofjlbnekgkaa.Trc
