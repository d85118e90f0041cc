/- What the laws of layer 5 lean on: the answers that the document fixes ('alive'), and sameness of lists. -/
import Derived.Test.YtnfmnhbcjapmpaaDoorCntRef
namespace Go.Proofs.YtnfmnhbcjapmpaaDoor.Cnt
open Go.RowKit Go.Proofs.YtnfmnhbcjapmpaaDoorW.PrintWords

/-- a literal's row reads as it was written -/
theorem lit_C (W : World) (k : IntKind) (e : TypeId) (xs : List Int) (hm : xs.length ≤ 9223372036854775807) :
    Kd.C (Kd.int k) (W.alloc (.cells (nums k xs).toArray e)) (some ⟨W.heap.size, 0, none⟩) xs.length xs := by
  have h := own_lit W 0 e k xs (Nat.zero_le _) hm
  obtain ⟨A, c, hv, hr⟩ := own_reads h
  injection hv with h1 h2 h3
  subst h1
  exact Kd.C_of_reads (readsInt_of.1 hr)

theorem below_back {w w1 w2 : World} (k : Below w1.heap.size w1 w2) (h : Below w.heap.size w w1) : Below w.heap.size w w2 := below_then h h.size k

set_option maxRecDepth 100000 in
theorem alive_calls (w : World) (hT : Tab w) : Calls Tryd.prog 10 #[] w fun e w' => e = .returned (.bool true) ∧ Below w.heap.size w w' := by
  have HT := Aside0.mk hT
  clear hT
  have HB := Aside0.mk (Below.refl w.heap.size w)
  go_enter Tryd.func10, Tryd.ntmps10
  go_wp2_with (first
    | (go_at_call 22; refine (of_calls _ _ [1, 3] _ (lit_C _ .u8 _ [1, 3] (by decide)) (by decide) (by decide)).mono ?_; rintro e w1 ⟨rfl, m, rfl⟩; rw [of_some [1, 3] 10 (by decide)])
    | (go_at_call 11; refine (faulty_calls 4 _).mono ?_; rintro e w1 ⟨rfl, m, rfl⟩; rw [show faulty 4 = 1 from by decide])
    | (go_at_call 13; refine (echoes_calls 4 _).mono ?_; rintro e w1 ⟨rfl, m, rfl⟩; rw [show echoes 4 = 3 from by decide])
    | (go_at_call 15; refine (readies_calls 4 _).mono ?_; rintro e w1 ⟨rfl, m, rfl⟩; rw [show faulty 4 + 1 = 2 from by decide])
    | (go_at_call 17; refine (enough_calls 7 _).mono ?_; rintro e w1 ⟨rfl, m, rfl⟩; rw [show 2 * faulty 7 + 1 = 5 from by decide])
    | (go_at_call 19; refine (size_calls 10 _ (by decide)).mono ?_; rintro e w1 ⟨rfl, m, rfl⟩; rw [show sz 10 = 2 from by decide])
    | (go_at_call 21; refine (has_calls 10 3 _ (by decide) (by decide)).mono ?_; rintro e w1 ⟨rfl, m, rfl⟩; rw [show hasB 10 3 = true from by decide])
    | (go_at_call 20; refine (list_calls 10 _ (by decide) ?hT).mono ?_; (case hT => exact Tab.below HT.out (by repeat (first | exact HB.out | apply below_alloc | apply pw_below_drewN | apply below_drew))); rintro e w1 ⟨v, rfl, ho, hb⟩; obtain ⟨A, c, ev⟩ := Kd.R_slice ho; subst ev; have HB1 := Aside0.mk hb; clear ho hb; rw [show (lstI 10).length = 2 from by decide]))
  go_ret
  exact ⟨rfl, below_back HB1.out (by repeat (first | exact HB.out | apply below_alloc | apply pw_below_drewN | apply below_drew))⟩

/-- What a law says: true, and what was there is as it was. -/
def Holds (w : World) (e : Ending) (w' : World) : Prop := e = .returned (.bool true) ∧ Below w.heap.size w w'

theorem numbers_calls (n : Int) (w : World) (hT : Tab w) : Calls Tryd.prog 3 #[.int .i64 n] w (Holds w) := by
  have HT := Aside0.mk hT
  clear hT
  go_enter Tryd.func3, Tryd.ntmps3
  go_wp2_with (first
    | (go_at_call 10; refine (alive_calls _ HT.out).mono ?_; rintro e w1 ⟨rfl, hb⟩; have HB := Aside0.mk hb; clear hb)
    | (go_at_call 11; refine (faulty_calls _ _).mono ?_; rintro e w1 ⟨rfl, m, rfl⟩)
    | (go_at_call 12; refine (rfaulty_calls _ _).mono ?_; rintro e w1 ⟨rfl, m, rfl⟩)
    | (go_at_call 13; refine (echoes_calls _ _).mono ?_; rintro e w1 ⟨rfl, m, rfl⟩)
    | (go_at_call 14; refine (rechoes_calls _ _).mono ?_; rintro e w1 ⟨rfl, m, rfl⟩)
    | (go_at_call 15; refine (readies_calls _ _).mono ?_; rintro e w1 ⟨rfl, m, rfl⟩)
    | (go_at_call 16; refine (rreadies_calls _ _).mono ?_; rintro e w1 ⟨rfl, m, rfl⟩)
    | (go_at_call 17; refine (enough_calls _ _).mono ?_; rintro e w1 ⟨rfl, m, rfl⟩)
    | (go_at_call 18; refine (renough_calls _ _).mono ?_; rintro e w1 ⟨rfl, m, rfl⟩))
  go_ret
  exact ⟨rfl, by repeat (first | exact HB.out | apply below_alloc | apply pw_below_drewN | apply below_drew)⟩

end Go.Proofs.YtnfmnhbcjapmpaaDoor.Cnt
