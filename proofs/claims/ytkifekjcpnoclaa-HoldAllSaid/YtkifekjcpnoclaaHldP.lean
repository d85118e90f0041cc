/- Holds as plain data: what Right and Put do. -/
import Derived.Test.YtkifekjcpnoclaaHldMap
namespace Go.Proofs.Ytkifekjcpnoclaa.Hld
open Go Go.RowKit Go.Proofs.YtkifekjcpnoclaaW.PrintWords Go.Proofs.Ytkifekjcpnoclaa.Sep Go.Proofs.Ytkifekjcpnoclaa.Obj
set_option linter.unusedVariables false
set_option linter.unusedSimpArgs false
open Go.Maps Go.Proofs.Ytkifekjcpnoclaa.Mp
/-- how many of a sender's were told -/
def ofT (told : List Int) (x : It) : Int := told.getD x.frm.toNat 0
def oneOk (told : List Int) (seen : List It) (x : It) : Bool := !isIn seen x && rightI x && !decide (x.seq < ofT told x) && !readyB told x
def allOk (told : List Int) : List It → List It → Bool
  | _, [] => true
  | seen, x :: r => oneOk told seen x && allOk told (seen ++ [x]) r
def rightH (told : List Int) (wait : List It) : Bool := told.all (fun n => decide (n ≤ 1000)) && decide (wait.length ≤ 64) && allOk told [] wait
theorem allOk_at (told : List Int) (l : List It) : ∀ (i : Nat) (h : i < l.length), allOk told (l.take i) (l.drop i) = (oneOk told (l.take i) l[i] && allOk told (l.take (i + 1)) (l.drop (i + 1))) := by
  intro i h
  rw [List.drop_eq_getElem_cons h]
  simp only [allOk]
  rw [List.take_append_getElem h]
theorem allOk_end (told : List Int) (l : List It) : allOk told (l.take l.length) (l.drop l.length) = true := by simp [allOk]
theorem allOk_start (told : List Int) (l : List It) : allOk told [] l = allOk told (l.take 0) (l.drop 0) := by simp
def inc (told : List Int) (x : It) : List Int := told.set x.frm.toNat (ofT told x + 1)
/-- what is told after the first: as long as one that waits is ready -/
def drain : Nat → List Int → List It → List It → List Int × List It × List It
  | 0, told, wait, out => (told, wait, out)
  | n + 1, told, wait, out =>
    match wait.findIdx? (readyB told) with
    | none => (told, wait, out)
    | some i => match wait[i]? with
      | none => (told, wait, out)
      | some y => drain n (inc told y) (wait.eraseIdx i) (out ++ [y])
/-- what Put does: told, wait, what is told, the error -/
def putH (told : List Int) (wait : List It) (x : It) : (List Int × List It × List It) × Int :=
  if rightH told wait = false ∨ rightI x = false then ((told, wait, []), 2)
  else if x.seq < ofT told x ∨ isIn wait x = true then ((told, wait, []), 6)
  else if readyB told x = true then (drain wait.length (inc told x) wait [x], 0)
  else if 64 ≤ wait.length then ((told, wait, []), 7)
  else ((told, wait ++ [x], []), 0)
theorem upd_in {l : List It} {i : Nat} (h : i < l.length) {x : It} (hx : l[i] = x) {G : Int × Int → Option Value} (hG : ∀ s, (G s).isSome = (l.take i).any (fun y => decide ((y.frm, y.seq) = s))) (s : Int × Int) : (upd G (x.frm, x.seq) (.agg #[]) s).isSome = (l.take (i + 1)).any (fun y => decide ((y.frm, y.seq) = s)) := by
  rw [← List.take_append_getElem h, List.any_append, hx, ← hG s]
  by_cases e : s = (x.frm, x.seq)
  · subst e; rw [upd_same]; simp
  · rw [upd_other _ _ e]
    have : decide ((x.frm, x.seq) = s) = false := decide_eq_false (fun h => e h.symm)
    simp only [List.any_cons, List.any_nil, this, Bool.or_false]
theorem upd_agg {G : Int × Int → Option Value} (hU : ∀ s, (G s).getD (.agg #[]) = .agg #[]) (k s : Int × Int) : (upd G k (.agg #[]) s).getD (.agg #[]) = .agg #[] := by
  by_cases e : s = k
  · subst e; rw [upd_same]; rfl
  · rw [upd_other _ _ e]; exact hU s
theorem wi_u8 {n : Int} (h0 : 0 ≤ n) (h1 : n ≤ 255) : WI .u8 n := by
  simpa [WI, Lit.wf, IntKind.min, IntKind.max, IntKind.signed, IntKind.bits] using And.intro h0 h1
end Go.Proofs.Ytkifekjcpnoclaa.Hld
