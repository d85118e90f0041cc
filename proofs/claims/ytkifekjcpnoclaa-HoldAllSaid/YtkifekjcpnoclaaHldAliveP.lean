/- The Puts of alive, as plain data. -/
import Derived.Test.YtkifekjcpnoclaaHldPutAll
namespace Go.Proofs.Ytkifekjcpnoclaa.Hld
open Go Go.RowKit Go.Proofs.YtkifekjcpnoclaaW.PrintWords Go.Proofs.Ytkifekjcpnoclaa.Sep Go.Proofs.Ytkifekjcpnoclaa.Obj
def z16 : List Int := [0, 0, 0, 0, 0, 0, 0, 0, 0, 0, 0, 0, 0, 0, 0, 0]
def aI : It := ⟨0, 0, 1, z16, ⟨#[]⟩⟩
def bI : It := ⟨0, 1, 1, [1, 0, 0, 0, 0, 0, 0, 0, 0, 0, 0, 0, 0, 0, 0, 0], ⟨#[]⟩⟩
def t2 : List Int := [2, 0, 0, 0, 0, 0, 0, 0, 0, 0, 0, 0, 0, 0, 0, 0]
theorem put_b : putH z16 [] bI = ((z16, [bI], []), 0) := by kernel_rfl
theorem put_a : putH z16 [bI] aI = ((t2, [], [aI, bI]), 0) := by kernel_rfl
theorem put_a2 : putH t2 [] aI = ((t2, [], []), 6) := by kernel_rfl
theorem ready_a : readyB z16 aI = true := by kernel_rfl
theorem right_b : rightH z16 [bI] = true := by kernel_rfl
theorem ok_z : okV z16 := ⟨rfl, by decide⟩
theorem ok_t2 : okV t2 := ⟨rfl, by decide⟩
theorem ok_a : okI aI := ⟨⟨rfl, by decide⟩, by decide, by decide⟩
theorem ok_b : okI bI := ⟨⟨rfl, by decide⟩, by decide, by decide⟩
end Go.Proofs.Ytkifekjcpnoclaa.Hld
