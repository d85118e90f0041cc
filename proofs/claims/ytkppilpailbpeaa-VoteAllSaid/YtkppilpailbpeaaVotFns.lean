/- Votes: ballots as plain data; the walks of at, For, Clone. -/
import Derived.Test.YtkppilpailbpeaaCntBase
import Derived.Test.YtkppilpailbpeaaOpen
import Derived.WalkSpells
import Derived.Laws.Rows
import Derived.Laws.Tables
namespace Go.Proofs.Ytkppilpailbpeaa.Vot
open Go Go.RowKit Go.Proofs.YtkppilpailbpeaaW.PrintWords Go.Proofs.Ytkppilpailbpeaa.Cnt Go.Proofs.Ytkppilpailbpeaa.Opn
set_option linter.unusedVariables false
set_option linter.unusedSimpArgs false

/-- Hands back v; what was there is as it was. -/
def Kept (v : Value) (w : World) (e : Ending) (w' : World) : Prop := e = .returned v ∧ Below w.heap.size w w'
theorem below_back {w w1 w2 : World} (k : Below w1.heap.size w1 w2) (h : Below w.heap.size w w1) : Below w.heap.size w w2 := below_then h h.size k
theorem ret_bool {a b : Bool} (h : a = b) : Ending.returned (.bool a) = .returned (.bool b) := by rw [h]
theorem ret_int {k : IntKind} {a b : Int} (h : a = b) : Ending.returned (.int k a) = .returned (.int k b) := by rw [h]
theorem below_cells {W w1 : World} (hb : Below W.heap.size W w1) : (∀ b o, b < W.heap.size → w1.cell? ⟨b, o, none⟩ = W.cell? ⟨b, o, none⟩) ∧ (∀ b o, b < W.heap.size → w1.frozen? ⟨b, o, none⟩ = W.frozen? ⟨b, o, none⟩) :=
  ⟨fun b o h => hb.cell (p := ⟨b, o, none⟩) h, fun b o h => hb.frozen (p := ⟨b, o, none⟩) h⟩
theorem bytes_eq (a b : ByteArray) : (a.toList == b.toList) = true ↔ a = b := by
  rw [beq_iff_eq, ByteArray.toList_eq, ByteArray.toList_eq]
  exact ⟨fun h => ByteArray.ext (Array.toList_inj.mp h), fun h => by rw [h]⟩
theorem bytes_ne (a b : ByteArray) : (a.toList == b.toList) = false ↔ a ≠ b := by
  rw [← Bool.not_eq_true, bytes_eq]

structure Bal where
  body : ByteArray
  who : Nat
structure Out where
  kind : Int
  body : ByteArray
structure Cas where
  echoed : Bool
  readied : Bool
  done : Bool
  echoes : List Bal
  readies : List Bal
def kB : Kd Bal := Kd.iso (Kd.pair Kd.string (Kd.int .u16)) (fun x : Bal => (x.body, (x.who : Int)))
def kO : Kd Out := Kd.iso (Kd.pair (Kd.int .i64) Kd.string) (fun x : Out => (x.kind, x.body))
theorem kB_open {w : World} {x : Bal} {cs : List Value} (h : kB.K w x cs) : cs = [.string x.body, .int .u16 (x.who : Int)] := by
  obtain ⟨_, _, rfl, rfl, rfl⟩ := h
  exact rfl
theorem kB_mk (w : World) (x : Bal) : kB.K w x [.string x.body, .int .u16 (x.who : Int)] := ⟨[.string x.body], [.int .u16 (x.who : Int)], rfl, rfl, rfl⟩
theorem kB_mkM (w : World) (base : Nat) (ok : Nat → Prop) (x : Bal) : kB.M w base ok x [.string x.body, .int .u16 (x.who : Int)] := ⟨[.string x.body], [.int .u16 (x.who : Int)], rfl, rfl, rfl⟩
theorem kO_open {w : World} {x : Out} {cs : List Value} (h : kO.K w x cs) : cs = [.int .i64 x.kind, .string x.body] := by
  obtain ⟨_, _, rfl, rfl, rfl⟩ := h
  exact rfl
theorem kO_mk (w : World) (x : Out) : kO.K w x [.int .i64 x.kind, .string x.body] := ⟨[.int .i64 x.kind], [.string x.body], rfl, rfl, rfl⟩
theorem kO_mkM (w : World) (base : Nat) (ok : Nat → Prop) (x : Out) : kO.M w base ok x [.int .i64 x.kind, .string x.body] := ⟨[.int .i64 x.kind], [.string x.body], rfl, rfl, rfl⟩
theorem at_B {w : World} {A : Option Addr} {n : Nat} {xs : List Bal} (h : Kd.C kB w A n xs) (i : Nat) (h1 : i < xs.length) : ∃ ad, A = some ad ∧ w.cell? (ad.add (i * 2)) = some (.string xs[i].body) ∧ w.cell? ⟨(ad.add (i * 2)).block, (ad.add (i * 2)).off + 1, none⟩ = some (.int .u16 (xs[i].who : Int)) := by
  have hn := Kd.C_len h
  obtain ⟨ad, c, e, _, hK, hc0⟩ := Kd.C_get h ⟨ByteArray.empty, 0⟩ (i : Int) (by omega) (by omega)
  have hx : xs.getD (i : Int).toNat ⟨ByteArray.empty, 0⟩ = xs[i] := by simp [h1]
  rw [hx] at hK
  have hc : ∀ j u, c[j]? = some u → w.cell? (ad.add (i * 2 + j)) = some u := hc0
  obtain rfl := kB_open hK
  exact ⟨ad, e, hc 0 _ rfl, by rw [← add_field _ _ 1 (by omega)]; exact hc 1 _ rfl⟩
theorem at_O {w : World} {A : Option Addr} {n : Nat} {xs : List Out} (h : Kd.C kO w A n xs) (i : Nat) (h1 : i < xs.length) : ∃ ad, A = some ad ∧ w.cell? (ad.add (i * 2)) = some (.int .i64 xs[i].kind) ∧ w.cell? ⟨(ad.add (i * 2)).block, (ad.add (i * 2)).off + 1, none⟩ = some (.string xs[i].body) := by
  have hn := Kd.C_len h
  obtain ⟨ad, c, e, _, hK, hc0⟩ := Kd.C_get h ⟨0, ByteArray.empty⟩ (i : Int) (by omega) (by omega)
  have hx : xs.getD (i : Int).toNat ⟨0, ByteArray.empty⟩ = xs[i] := by simp [h1]
  rw [hx] at hK
  have hc : ∀ j u, c[j]? = some u → w.cell? (ad.add (i * 2 + j)) = some u := hc0
  obtain rfl := kO_open hK
  exact ⟨ad, e, hc 0 _ rfl, by rw [← add_field _ _ 1 (by omega)]; exact hc 1 _ rfl⟩
theorem infoB : (Try.prog.info? 77).map (fun i => (i.zero, i.size, i.bytes)) = some (some (.agg #[(.string ⟨#[]⟩), (.int .u16 0)]), 2, 24) := by kernel_rfl
theorem infoO : (Try.prog.info? 72).map (fun i => (i.zero, i.size, i.bytes)) = some (some (.agg #[(.int .i64 0), (.string ⟨#[]⟩)]), 2, 24) := by kernel_rfl

/-- is a ballot for a body? -/
def hit (body : ByteArray) (x : Bal) : Bool := x.body.toList == body.toList
def posN (l : List Bal) (body : ByteArray) : Nat := l.findIdx (hit body)
def posL (l : List Bal) (body : ByteArray) : Int := if posN l body < l.length then (posN l body : Int) else -1
theorem posL_yes {l : List Bal} {body : ByteArray} {i : Nat} (hi : i < l.length) (h : hit body l[i] = true) (hb : ∀ j (hj : j < l.length), j < i → hit body l[j] = false) : posL l body = (i : Int) := by
  have : posN l body = i := (List.findIdx_eq hi).2 ⟨h, fun j hj => hb j (by omega) hj⟩
  unfold posL
  rw [this, if_pos hi]
theorem posL_no {l : List Bal} {body : ByteArray} (hb : ∀ j (hj : j < l.length), hit body l[j] = false) : posL l body = -1 := by
  have : posN l body = l.length := List.findIdx_eq_length.2 (fun x hx => by obtain ⟨j, hj, rfl⟩ := List.mem_iff_getElem.1 hx; exact hb j hj)
  unfold posL
  rw [this, if_neg (Nat.lt_irrefl _)]
/-- which members voted for a body -/
def forL : List Bal → ByteArray → Nat
  | [], _ => 0
  | x :: r, body => if hit body x = true then x.who else forL r body
theorem forL_at : ∀ (l : List Bal) (body : ByteArray), forL l body = if h : posN l body < l.length then l[posN l body].who else 0
  | [], _ => rfl
  | x :: r, body => by
    have ih := forL_at r body
    unfold forL posN
    by_cases hx : hit body x = true
    · simp [List.findIdx_cons, hx]
    · simp only [hx, Bool.false_eq_true, if_false]
      rw [ih]
      unfold posN
      simp [List.findIdx_cons, hx]

/-- The closure of at: is a ballot for the body? -/
theorem atc_calls (x : Bal) (g : Nat) (body : ByteArray) (w : World) (hc : w.cell? ⟨g, 0, none⟩ = some (.string body)) :
    Calls Try.prog 61 #[.agg #[.string x.body, .int .u16 (x.who : Int)], .pointer (some ⟨g, 0, none⟩)] w (Kept (.bool (hit body x)) w) := by
  have HB := Aside0.mk (Below.refl w.heap.size w)
  have hlt := World.block_lt_of_cell? w _ hc
  go_enter Try.func61, Try.ntmps61
  go_wp2_with fail
  go_ret
  exact ⟨rfl, (by repeat (first | (with_reducible exact HB.out) | (with_reducible refine below_alloc ?_ _) | (with_reducible refine pw_below_drewN ?_ _) | (with_reducible refine below_drew ?_)))⟩

set_option maxHeartbeats 1000000 in
theorem index_calls (A : Option Addr) (c : Nat) (l : List Bal) (w : World) (hr : Kd.C kB w A l.length l) (hl : l.length ≤ 1000000) (g : Nat) (body : ByteArray) (hc : w.cell? ⟨g, 0, none⟩ = some (.string body)) :
    Calls Try.prog 60 #[.slice A l.length c, .func (.func 61) #[] #[.pointer (some ⟨g, 0, none⟩)]] w (Kept (.int .i64 (posL l body)) w) := by
  have HR := Aside0.mk hr
  have HC := Aside0.mk hc
  clear hr hc
  have HB := Aside0.mk (Below.refl w.heap.size w)
  go_enter Try.func60, Try.ntmps60
  go_wp2_with fail
  go_loopw [8] (fun v8 w' => ∃ (i : Nat), v8 = .int .i64 (i : Int) ∧ i ≤ l.length ∧ Aside0 (∀ j (h : j < l.length), j < i → hit body l[j] = false) ∧ Aside0 (Below w.heap.size w w')) (fun v8 _ => l.length - (intOf v8).toNat)
  case atStart => exact ⟨0, rfl, by omega, ⟨fun j h hj => by omega⟩, HB⟩
  case round =>
    clear HB
    obtain ⟨i, rfl, hi, HD, HB⟩ := hrel
    by_cases hlt : i < l.length
    · obtain ⟨ad, ea, h0, h1⟩ := at_B (Kd.C_below HR.out HB.out) i hlt
      cases ea
      obtain ⟨x, hx⟩ : ∃ x, l[i] = x := ⟨_, rfl⟩
      rw [hx] at h0 h1
      have HX := Aside0.mk hx
      clear hx
      cases hh : hit body x with
      | true =>
        have HH := Aside0.mk hh
        clear hh
        go_wp2_with (go_at_call 61; refine (atc_calls x g body _ ((HB.out.cell (World.block_lt_of_cell? w _ HC.out)).trans HC.out)).mono ?_; rw [HH.out]; rintro e w1 ⟨rfl, hb⟩; have HBx := Aside0.mk (below_back hb HB.out); clear HB hb; have HB := HBx; clear HBx)
        go_ret
        exact ⟨ret_int (posL_yes hlt (by rw [HX.out]; exact HH.out) HD.out).symm, HB.out⟩
      | false =>
        have HH := Aside0.mk hh
        clear hh
        go_wp2_with (go_at_call 61; refine (atc_calls x g body _ ((HB.out.cell (World.block_lt_of_cell? w _ HC.out)).trans HC.out)).mono ?_; rw [HH.out]; rintro e w1 ⟨rfl, hb⟩; have HBx := Aside0.mk (below_back hb HB.out); clear HB hb; have HB := HBx; clear HBx)
        go_roundw
        case rel => exact ⟨i + 1, by go_num, by omega, ⟨fun j h hj => by
            rcases Nat.lt_or_eq_of_le (Nat.le_of_lt_succ hj) with h1 | h1
            · exact HD.out j h h1
            · subst h1; rw [HX.out]; exact HH.out⟩, HB⟩
        case measure => simp [intOf]; omega
    · go_wp2_with fail
      go_ret
      exact ⟨ret_int (posL_no fun j hj => HD.out j hj (by omega)).symm, HB.out⟩

theorem at_calls (A : Option Addr) (c : Nat) (l : List Bal) (body : ByteArray) (w : World) (hr : Kd.C kB w A l.length l) (hl : l.length ≤ 1000000) :
    Calls Try.prog 43 #[.slice A l.length c, .string body] w (Kept (.int .i64 (posL l body)) w) := by
  have HR := Aside0.mk hr
  clear hr
  have HB := Aside0.mk (Below.refl w.heap.size w)
  go_enter Try.func43, Try.ntmps43
  go_wp2_with (go_at_call 60; refine (index_calls _ _ l _ ?hC hl _ body ?hc).mono ?_; (case hC => exact Kd.C_below HR.out (by repeat (first | (with_reducible exact HB.out) | (with_reducible refine below_alloc ?_ _) | (with_reducible refine pw_below_drewN ?_ _) | (with_reducible refine below_drew ?_)))); (case hc => exact (blk_cell (blk_new _ _) 0).trans rfl); rintro e w1 ⟨rfl, hb⟩; have HBx : Aside0 (Below w.heap.size w w1) := ⟨below_back hb (by repeat (first | (with_reducible exact HB.out) | (with_reducible refine below_alloc ?_ _) | (with_reducible refine pw_below_drewN ?_ _) | (with_reducible refine below_drew ?_)))⟩; clear HB hb; have HB := HBx; clear HBx)
  go_ret
  exact ⟨rfl, HB.out⟩

theorem for_calls (A : Option Addr) (c : Nat) (l : List Bal) (body : ByteArray) (w : World) (hr : Kd.C kB w A l.length l) (hl : l.length ≤ 1000000) :
    Calls Try.prog 20 #[.slice A l.length c, .string body] w (Kept (.int .u16 (forL l body : Nat)) w) := by
  have HR := Aside0.mk hr
  clear hr
  have HB := Aside0.mk (Below.refl w.heap.size w)
  by_cases hp : posN l body < l.length
  · have HP : Aside0 (posL l body = (posN l body : Int)) := ⟨by unfold posL; rw [if_pos hp]⟩
    have HF : Aside0 (forL l body = l[posN l body].who) := ⟨by rw [forL_at, dif_pos hp]⟩
    generalize posN l body = p at *
    obtain ⟨ad, ea, h0, h1⟩ := at_B HR.out p hp
    cases ea
    have hlt := World.block_lt_of_cell? w _ h1
    go_enter Try.func20, Try.ntmps20
    go_wp2_with (go_at_call 43; refine (at_calls _ _ l body _ HR.out hl).mono ?_; rw [HP.out]; rintro e w1 ⟨rfl, hb⟩; have h1x := pw_cell_below hb h1; clear h1 h0; have HBx := Aside0.mk (below_back hb HB.out); clear HB hb; have HB := HBx; clear HBx)
    go_ret
    exact ⟨ret_int (by rw [HF.out]), HB.out⟩
  · have HP : Aside0 (posL l body = -1) := ⟨by unfold posL; rw [if_neg hp]⟩
    have HF : Aside0 (forL l body = 0) := ⟨by rw [forL_at, dif_neg hp]⟩
    clear hp
    go_enter Try.func20, Try.ntmps20
    go_wp2_with (go_at_call 43; refine (at_calls _ _ l body _ HR.out hl).mono ?_; rw [HP.out]; rintro e w1 ⟨rfl, hb⟩; have HBx := Aside0.mk (below_back hb HB.out); clear HB hb; have HB := HBx; clear HBx)
    go_ret
    exact ⟨ret_int (by rw [HF.out]; rfl), HB.out⟩

theorem R_empty {α : Type} (d : Kd α) (e : TypeId) (W : World) (base : Nat) (hb : base ≤ W.heap.size) : d.R e (W.alloc (.cells #[] e)) base (fun _ => True) (.slice (some ⟨W.heap.size, 0, none⟩) 0 0) [] :=
  ⟨fun _ _ => trivial, [], by simpa using World.ownsRow_lit (base := base) (e := e) (size := d.sz) W #[] 0 hb (by simp [maxLen]) (by simp), Reps.none _ _⟩

/-- Hands back a row that reads as xs; what was there is as it was. -/
def Read (xs : List Bal) (w : World) (en : Ending) (w' : World) : Prop := ∃ A c, en = .returned (.slice A xs.length c) ∧ xs.length ≤ c ∧ kB.C w' A xs.length xs ∧ Below w.heap.size w w'
/-- the like, and the row is its own -/
def MadeB (xs : List Bal) (w : World) (en : Ending) (w' : World) : Prop := ∃ v, en = .returned v ∧ kB.R 77 w' w.heap.size (fun _ => True) v xs ∧ Below w.heap.size w w'

set_option maxRecDepth 100000 in
theorem clone_calls (A : Option Addr) (c : Nat) (l : List Bal) (w : World) (hr : Kd.C kB w A l.length l) (hl : l.length ≤ 1000000) :
    Calls Try.prog 49 #[.slice A l.length c] w (MadeB l w) := by
  have HR := Aside0.mk hr
  clear hr
  have HB := Aside0.mk (Below.refl w.heap.size w)
  cases A with
  | none =>
    have h0 : l = [] := by
      have := HR.out
      cases l with
      | nil => rfl
      | cons x r =>
        obtain ⟨ad, h, _⟩ := this.2.2 (by simp)
        cases h
    subst h0
    have hq : ∀ W, (binOp .eql 33 (.slice none 0 c) (.slice none 0 0)).run Try.prog W = .ok (.bool true) W := fun (W : World) => Lib.run_eql_slice_nil (P := Try.prog) W 33 77 none 0 c 0 0 Try.underlying33
    go_enter Try.func49, Try.ntmps49
    go_wp2_with fail
    go_ret
    exact ⟨_, rfl, Kd.R_nil _ _ _ _ _, HB.out⟩
  | some ad =>
    have hq : ∀ W, (binOp .eql 33 (.slice (some ad) l.length c) (.slice none 0 0)).run Try.prog W = .ok (.bool false) W := fun (W : World) => Lib.run_eql_slice_nil (P := Try.prog) W 33 77 (some ad) l.length c 0 0 Try.underlying33
    go_enter Try.func49, Try.ntmps49
    go_wp2_with (first
      | (at_builtin; refine Kd.R_append_rows kB (Rr := kB.K w) (w0 := w) w.heap.size rfl (.tmp 5) (.tmp 6) 33 77 (.agg #[(.string ⟨#[]⟩), (.int .u16 0)]) 24 rfl Try.underlying33 infoB rfl (by decide) (by omega) _ [] l (some ad) l.length c (fun _ => True) (fun _ => False) rfl rfl ?aO ?aR ?aM (fun _ hk => hk.elim) (fun _ _ => trivial) ?aB ?aS ?aL ?_; (case aO => exact R_empty kB 77 w w.heap.size (Nat.le_refl _)); (case aR => exact (ReadsRow.imp_ (Kd.C_alloc HR.out _) (Below.refl _ _) (fun p c hp => hp))); (case aM => intro x cs hx; rw [kB_open hx]; exact kB_mkM _ _ _ x); (case aB => exact (by repeat (first | (with_reducible exact HB.out) | (with_reducible refine below_alloc ?_ _) | (with_reducible refine pw_below_drewN ?_ _) | (with_reducible refine below_drew ?_)))); (case aS => simp); (case aL => simp; omega); intro v1 w1 ho hb hg hat; have HO1 := Aside0.mk ho; have HB1 := Aside0.mk hb; clear ho hb hg hat)
      | fail)
    go_ret
    exact ⟨_, rfl, by simpa using HO1.out, HB1.out⟩
end Go.Proofs.Ytkppilpailbpeaa.Vot
