/- '==' of arrays of whole numbers as one Bool. -/
import Derived.Test.YtkifekjcpnoclaaMap
namespace Go.Proofs.Ytkifekjcpnoclaa.Mp
open Go Go.RowKit Go.Maps Go.Proofs.YtkifekjcpnoclaaW.PrintWords
set_option linter.unusedVariables false

theorem mapM_all {α β : Type} (f : α → Option β) (g : α → β) : ∀ l : List α, (∀ x ∈ l, f x = some (g x)) → l.mapM f = some (l.map g)
  | [], _ => rfl
  | x :: r, h => by
    rw [List.mapM_cons, h x (by simp), mapM_all f g r (fun y hy => h y (by simp [hy]))]
    rfl
theorem flatten_one (xs : List Lit) : ((List.range xs.length).map fun i => (xs.drop i).take 1).flatten = xs := by
  have : ∀ (n : Nat) (ys : List Lit), ys.length = n → ((List.range n).map fun i => (ys.drop i).take 1).flatten = ys := by
    intro n
    induction n with
    | zero => intro ys h; rw [List.eq_nil_of_length_eq_zero h]; rfl
    | succ n ih =>
      intro ys h
      match ys, h with
      | y :: r, h =>
        rw [List.range_succ_eq_map, List.map_cons, List.flatten_cons, List.map_map]
        have := ih r (by simpa using h)
        simpa [Function.comp_def] using this
  exact this _ xs rfl
/-- what an array of whole numbers reads as -/
theorem lits_arr {P : Program} {t e : TypeId} {q : IntKind} {n : Nat} (hu : P.underlying t = some (.array n e)) (he : P.underlying e = some (.int q)) (hc : P.cellsOf t = n) (hce : P.cellsOf e = 1) (M : Nat) (xs : List Int) (hl : xs.length = n) (hw : ∀ x ∈ xs, (Lit.int q x).wf = true) :
    P.keyLits (M + 2) t (nums q xs) = some (xs.map (Lit.int q)) := by
  unfold Program.keyLits
  simp only [hu]
  rw [if_pos (by rw [hc, nums_length, hl]), hce]
  rw [mapM_all _ (fun i => ((xs.map (Lit.int q)).drop i).take 1)]
  · have := flatten_one (xs.map (Lit.int q))
    rw [List.length_map, hl] at this
    simp only [Option.map_some, this]
  · intro i hi
    have hi' : i < xs.length := by rw [hl]; simpa using hi
    rw [(lits_int he M _ _).2 ⟨xs[i], ?_, hw _ (List.getElem_mem _), rfl⟩]
    · rw [List.drop_eq_getElem_cons (by simpa using hi')]
      simp
    · unfold nums
      rw [Nat.mul_one, List.drop_eq_getElem_cons (by simpa using hi')]
      simp
theorem eq_arr {P : Program} {t e : TypeId} {q : IntKind} {n : Nat} (hu : P.underlying t = some (.array n e)) (he : P.underlying e = some (.int q)) (hc : P.cellsOf t = n) (hce : P.cellsOf e = 1) (hk : P.keyTypeAt 9 t = true) (xs ys : List Int) (hl : xs.length = n) (hl' : ys.length = n)
    (hw : ∀ x ∈ xs, (Lit.int q x).wf = true) (hw' : ∀ x ∈ ys, (Lit.int q x).wf = true) (w : World) :
    (Op.equalIn 10000 t (.agg (nums q xs).toArray) (.agg (nums q ys).toArray)).run P w = .ok (decide (xs = ys)) w := by
  have hf : ∀ zs : List Int, zs.length = n → (Value.agg (nums q zs).toArray).formed P t = true := fun zs hz => by simp [Value.formed, hu, hc, nums, hz]
  obtain ⟨r, hr, hiff⟩ := run_equalIn_deep (10000 - 9) 9 t hk w 2 2 (.agg (nums q xs).toArray) (.agg (nums q ys).toArray) (xs.map (Lit.int q)) (ys.map (Lit.int q)) (hf xs hl) (hf ys hl')
    (by simpa [Value.cells] using lits_arr hu he hc hce 0 xs hl hw) (by simpa [Value.cells] using lits_arr hu he hc hce 0 ys hl' hw')
  rw [show (10000 : Nat) = 10000 - 9 + 9 from rfl, hr]
  congr 1
  rw [Bool.eq_iff_iff, hiff, decide_eq_true_iff]
  constructor
  · intro h
    have h' := congrArg (List.map fun (l : Lit) => match l with | .int _ x => x | _ => 0) h
    simpa [Function.comp_def] using h'
  · rintro rfl; rfl
end Go.Proofs.Ytkifekjcpnoclaa.Mp
