/- HoldFull as plain data. -/
import Derived.Test.YtkifekjcpnoclaaHldLaw
import Derived.Test.YtkifekjcpnoclaaHldFew
namespace Go.Proofs.Ytkifekjcpnoclaa.Hld
open Go Go.RowKit Go.Proofs.YtkifekjcpnoclaaW.PrintWords Go.Proofs.Ytkifekjcpnoclaa.Sep Go.Proofs.Ytkifekjcpnoclaa.Obj
set_option linter.unusedVariables false
set_option linter.unusedSimpArgs false

/-- the i-th that waits; the first that is ready -/
def mkI (p : Int) (i : Nat) : It := ⟨p, (i : Int) + 1, 1, z16.set p.toNat ((i : Int) + 1), ⟨#[]⟩⟩
def firstI (p : Int) : It := ⟨p, 0, 1, z16, ⟨#[]⟩⟩
def fullW (p : Int) (n : Nat) : List It := (List.range n).map (mkI p)
theorem fullW_len (p : Int) (n : Nat) : (fullW p n).length = n := by simp [fullW]
theorem fullW_succ (p : Int) (n : Nat) : fullW p (n + 1) = fullW p n ++ [mkI p n] := by simp [fullW, List.range_succ]
theorem z16_at (j : Nat) : z16.getD j 0 = 0 := by
  rcases Nat.lt_or_ge j 16 with h | h
  · rcases lt16 h with rfl | rfl | rfl | rfl | rfl | rfl | rfl | rfl | rfl | rfl | rfl | rfl | rfl | rfl | rfl | rfl <;> rfl
  · simp [List.getD_eq_getElem?_getD, List.getElem?_eq_none (show z16.length ≤ j from h)]
theorem set_z16 (p : Nat) (n : Int) (j : Nat) (hp : p < 16) : (z16.set p n).getD j 0 = if j = p then n else 0 := by
  rw [getD_set _ _ _ _ (show p < z16.length from hp), z16_at]
theorem ok_set {p : Nat} {n : Int} (h0 : 0 ≤ n) (h1 : n ≤ 65535) : okV (z16.set p n) := okV_set ok_z p n h0 h1
theorem okI_mk {p : Int} (h0 : 0 ≤ p) (h1 : p < 16) {i : Nat} (hi : i ≤ 1000) : okI (mkI p i) := ⟨ok_set (by omega) (by omega), ⟨h0, by show p ≤ 255; omega⟩, by show (⟨#[]⟩ : ByteArray).size ≤ 9223372036854775807; decide⟩
theorem okI_first {p : Int} (h0 : 0 ≤ p) (h1 : p < 16) : okI (firstI p) := ⟨ok_z, ⟨h0, by show p ≤ 255; omega⟩, by show (⟨#[]⟩ : ByteArray).size ≤ 9223372036854775807; decide⟩
theorem all_set {p : Nat} {n : Int} (h1 : n ≤ 1000) : (z16.set p n).all (fun x => decide (x ≤ 1000)) = true := by
  rw [List.all_eq_true]
  intro x hx
  rcases List.mem_or_eq_of_mem_set hx with h | h
  · simp [z16] at h; subst h; rfl
  · subst h; exact decide_eq_true h1
theorem rightI_mk {p : Int} (h0 : 0 ≤ p) (h1 : p < 16) {i : Nat} (hi : i < 1000) : rightI (mkI p i) = true := by
  have h2 := all_set (p := p.toNat) (n := (i : Int) + 1) (by omega)
  have h3 := set_z16 p.toNat ((i : Int) + 1) p.toNat (by omega)
  rw [if_pos rfl] at h3
  simp only [rightI, rightB, mayB, mkI, h2, h3, h1, decide_true]
  rfl
theorem rightI_first {p : Int} (h0 : 0 ≤ p) (h1 : p < 16) : rightI (firstI p) = true := by
  have h3 := z16_at p.toNat
  simp only [rightI, rightB, mayB, firstI, h3, h1, decide_true]
  rfl
theorem bel_refl (a : List Int) : belL a a = true := belL_true (fun i _ => Int.le_refl _)
theorem waits_mk {p : Int} (h0 : 0 ≤ p) (h1 : p < 16) {i : Nat} (hi : i < 1000) : Waits z16 (mkI p i) := by
  refine ⟨rightI_mk h0 h1 hi, ?_, ?_⟩
  · unfold ofT
    rw [z16_at]
    show (0 : Int) ≤ (i : Int) + 1
    omega
  · unfold readyB
    rw [z16_at]
    have : decide ((0 : Int) = (mkI p i).seq) = false := decide_eq_false (by show ¬ (0 : Int) = (i : Int) + 1; omega)
    rw [this]
    simp
theorem same_mk {p : Int} {i j : Nat} (h : i ≠ j) : same (mkI p i) (mkI p j) = false := by
  have : decide ((mkI p i).seq = (mkI p j).seq) = false := decide_eq_false (by show ¬ (i : Int) + 1 = (j : Int) + 1; omega)
  unfold same
  rw [this]
  simp
theorem right_full {p : Int} (h0 : 0 ≤ p) (h1 : p < 16) {n : Nat} (hn : n ≤ 64) : rightH z16 (fullW p n) = true := by
  refine (right_iff _ _).2 ⟨by decide, by rw [fullW_len]; exact hn, fun x hx => ?_, ?_⟩
  · simp only [fullW, List.mem_map, List.mem_range] at hx
    obtain ⟨i, hi, rfl⟩ := hx
    exact waits_mk h0 h1 (by omega)
  · unfold Apart fullW
    rw [List.pairwise_map]
    exact List.Pairwise.imp (fun {a b} (h : a ≠ b) => same_mk h) List.nodup_range
theorem isIn_full {p : Int} {n i : Nat} (h : n ≤ i) : isIn (fullW p n) (mkI p i) = false := by
  rw [isIn_no]
  intro y hy
  simp only [fullW, List.mem_map, List.mem_range] at hy
  obtain ⟨j, hj, rfl⟩ := hy
  exact same_mk (by omega)
theorem put_full {p : Int} (h0 : 0 ≤ p) (h1 : p < 16) (i : Nat) (hi : i < 1000) : putH z16 (fullW p (min i 64)) (mkI p i) = ((z16, fullW p (min (i + 1) 64), []), if i < 64 then 0 else 7) := by
  have hw := waits_mk h0 h1 hi
  by_cases h : i < 64
  · rw [if_pos h, show min i 64 = i by omega, show min (i + 1) 64 = i + 1 by omega, fullW_succ]
    exact putH_new (right_full h0 h1 (by omega)) hw.1 hw.2.1 (isIn_full (Nat.le_refl _)) hw.2.2 (by rw [fullW_len]; exact h)
  · rw [if_neg h, show min i 64 = 64 by omega, show min (i + 1) 64 = 64 by omega]
    exact putH_full (right_full h0 h1 (by omega)) hw.1 hw.2.1 (isIn_full (by omega)) hw.2.2 (by rw [fullW_len]; omega)
theorem ready_mk {p : Int} (h0 : 0 ≤ p) (h1 : p < 16) {i : Nat} (hi : i < 1000) : readyB (z16.set p.toNat ((i : Int) + 1)) (mkI p i) = true := by
  have h3 := set_z16 p.toNat ((i : Int) + 1) p.toNat (by omega)
  rw [if_pos rfl] at h3
  unfold readyB
  rw [rightI_mk h0 h1 hi]
  simp only [mkI, h3, bel_refl, decide_true, Bool.and_self]
theorem inc_mk {p : Int} (h0 : 0 ≤ p) (h1 : p < 16) (i : Nat) : inc (z16.set p.toNat ((i : Int) + 1)) (mkI p i) = z16.set p.toNat (((i + 1 : Nat) : Int) + 1) := by
  have h3 := set_z16 p.toNat ((i : Int) + 1) p.toNat (by omega)
  rw [if_pos rfl] at h3
  unfold inc ofT
  simp only [mkI, h3, List.set_set]
  congr 1
theorem drain_full {p : Int} (h0 : 0 ≤ p) (h1 : p < 16) : ∀ (m k n : Nat) (out : List It), m ≤ n → k + m < 1000 → drain n (z16.set p.toNat ((k : Int) + 1)) ((List.range' k m).map (mkI p)) out = (z16.set p.toNat (((k + m : Nat) : Int) + 1), [], out ++ (List.range' k m).map (mkI p))
  | 0, k, n, out, hn, hk => by
    simp only [List.range'_zero, List.map_nil, List.append_nil, Nat.add_zero]
    exact drain_no (fun j hj => by cases hj) n
  | m + 1, k, n, out, hn, hk => by
    obtain ⟨n, rfl⟩ : ∃ q, n = q + 1 := ⟨n - 1, by omega⟩
    rw [List.range'_succ, List.map_cons]
    rw [drain_yes (i := 0) (by simp) (by simpa using ready_mk h0 h1 (by omega)) (fun j _ hj => by omega)]
    simp only [List.getElem_cons_zero, List.eraseIdx_cons_zero]
    rw [inc_mk h0 h1, drain_full h0 h1 m (k + 1) n _ (by omega) (by omega)]
    rw [show k + 1 + m = k + (m + 1) by omega, List.append_assoc]
    rfl
theorem put_first {p : Int} (h0 : 0 ≤ p) (h1 : p < 16) (n : Nat) (hn : n ≤ 64) : putH z16 (fullW p n) (firstI p) = ((z16.set p.toNat ((n : Int) + 1), [], firstI p :: fullW p n), 0) := by
  have hr : readyB z16 (firstI p) = true := by
    unfold readyB
    rw [rightI_first h0 h1, z16_at]
    simp only [firstI, bel_refl, decide_true, Bool.and_self]
  have hi : isIn (fullW p n) (firstI p) = false := by
    rw [isIn_no]
    intro y hy
    simp only [fullW, List.mem_map, List.mem_range] at hy
    obtain ⟨j, hj, rfl⟩ := hy
    have : decide ((mkI p j).seq = (firstI p).seq) = false := decide_eq_false (by show ¬ (j : Int) + 1 = 0; omega)
    unfold same
    rw [this]
    simp
  rw [putH_ready (right_full h0 h1 hn) (rightI_first h0 h1) (by unfold ofT; rw [z16_at]; exact Int.le_refl _) hi hr, fullW_len]
  have hz : inc z16 (firstI p) = z16.set p.toNat (((0 : Nat) : Int) + 1) := by
    unfold inc ofT
    simp only [firstI, z16_at]
    rfl
  have := drain_full h0 h1 n 0 n [firstI p] (Nat.le_refl _) (by omega)
  rw [hz]
  rw [← List.range_eq_range'] at this
  rw [show fullW p n = (List.range n).map (mkI p) from rfl, this, Nat.zero_add]
  rfl
theorem wi_mk {p : Int} {n : Nat} (hn : n ≤ 1000) : ∀ y ∈ fullW p n, WI .i64 y.seq := by
  intro y hy
  simp only [fullW, List.mem_map, List.mem_range] at hy
  obtain ⟨j, hj, rfl⟩ := hy
  have : ((j : Int) + 1) ≤ 9223372036854775807 := by omega
  have h2 : (-9223372036854775808 : Int) ≤ ((j : Int) + 1) := by omega
  simpa [WI, Lit.wf, IntKind.min, IntKind.max, IntKind.signed, IntKind.bits, mkI] using And.intro h2 this
theorem itC_put (x : It) (i : Nat) (y : Int) (hv : x.past.length = 16) (h : i < 16) : (putL (itC x).toList (3 + i) [.int .u16 y]).toArray = itC { x with past := x.past.set i y } := by
  obtain ⟨f, s, k, v, t⟩ := x
  obtain ⟨a0, a1, a2, a3, a4, a5, a6, a7, a8, a9, a10, a11, a12, a13, a14, a15, rfl⟩ := list16 v hv
  rcases lt16 h with rfl | rfl | rfl | rfl | rfl | rfl | rfl | rfl | rfl | rfl | rfl | rfl | rfl | rfl | rfl | rfl <;> rfl
theorem build_f (p : Int) (w : World) : (Instr.build 43 #[(0, .int .u8 p), (2, .agg (bodC 1 z16 ⟨#[]⟩))]).run Try.prog w = .ok (.agg (itC (firstI p))) w := by kernel_rfl
end Go.Proofs.Ytkifekjcpnoclaa.Hld
