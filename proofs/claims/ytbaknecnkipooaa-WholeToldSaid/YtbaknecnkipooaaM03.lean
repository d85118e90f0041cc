/- Votes: ballots as plain data; the walks of at, For, Clone. Votes: the walks of own, of Take's closure, of ready. -/
import Derived.Test.YtbaknecnkipooaaM01
import Derived.Test.YtbaknecnkipooaaM02
import Derived.WalkSpells
import Derived.Laws.Rows
import Derived.Laws.Tables
import Derived.Deep.RegionWith
import Derived.Laws.CopyOwn
namespace Go.Proofs.Ytbaknecnkipooaa.Vot
open Go Go.RowKit Go.Proofs.YtbaknecnkipooaaW.PrintWords Go.Proofs.Ytbaknecnkipooaa.Cnt Go.Proofs.Ytbaknecnkipooaa.Opn
set_option linter.unusedVariables false
set_option linter.unusedSimpArgs false
def Kept (v : Value) (w : World) (e : Ending) (w' : World) : Prop := e = .returned v ∧ Below w.heap.size w w'
theorem below_back {w w1 w2 : World} (k : Below w1.heap.size w1 w2) (h : Below w.heap.size w w1) : Below w.heap.size w w2 := below_then h h.size k
theorem ret_int {k : IntKind} {a b : Int} (h : a = b) : Ending.returned (.int k a) = .returned (.int k b) := by rw [h]
theorem bytes_eq (a b : ByteArray) : (a.toList == b.toList) = true ↔ a = b := by
  rw [beq_iff_eq, ByteArray.toList_eq, ByteArray.toList_eq]
  exact ⟨fun h => ByteArray.ext (Array.toList_inj.mp h), fun h => by rw [h]⟩
structure Bal where
  body : ByteArray
  who : Nat
structure Out where
  kind : Int
  body : ByteArray
structure Cas where
  echoed : Bool
  readied : Bool
  done : Bool
  echoes : List Bal
  readies : List Bal
def kB : Kd Bal := Kd.iso (Kd.pair Kd.string (Kd.int .u16)) (fun x : Bal => (x.body, (x.who : Int)))
def kO : Kd Out := Kd.iso (Kd.pair (Kd.int .i64) Kd.string) (fun x : Out => (x.kind, x.body))
theorem kB_open {w : World} {x : Bal} {cs : List Value} (h : kB.K w x cs) : cs = [.string x.body, .int .u16 (x.who : Int)] := by
  obtain ⟨_, _, rfl, rfl, rfl⟩ := h
  exact rfl
theorem kB_mkM (w : World) (base : Nat) (ok : Nat → Prop) (x : Bal) : kB.M w base ok x [.string x.body, .int .u16 (x.who : Int)] := ⟨[.string x.body], [.int .u16 (x.who : Int)], rfl, rfl, rfl⟩
theorem kO_mkM (w : World) (base : Nat) (ok : Nat → Prop) (x : Out) : kO.M w base ok x [.int .i64 x.kind, .string x.body] := ⟨[.int .i64 x.kind], [.string x.body], rfl, rfl, rfl⟩
theorem at_B {w : World} {A : Option Addr} {n : Nat} {xs : List Bal} (h : Kd.C kB w A n xs) (i : Nat) (h1 : i < xs.length) : ∃ ad, A = some ad ∧ w.cell? (ad.add (i * 2)) = some (.string xs[i].body) ∧ w.cell? ⟨(ad.add (i * 2)).block, (ad.add (i * 2)).off + 1, none⟩ = some (.int .u16 (xs[i].who : Int)) := by
  have hn := Kd.C_len h
  obtain ⟨ad, c, e, _, hK, hc0⟩ := Kd.C_get h ⟨ByteArray.empty, 0⟩ (i : Int) (by omega) (by omega)
  have hx : xs.getD (i : Int).toNat ⟨ByteArray.empty, 0⟩ = xs[i] := by simp [h1]
  rw [hx] at hK
  have hc : ∀ j u, c[j]? = some u → w.cell? (ad.add (i * 2 + j)) = some u := hc0
  obtain rfl := kB_open hK
  exact ⟨ad, e, hc 0 _ rfl, by rw [← add_field _ _ 1 (by omega)]; exact hc 1 _ rfl⟩
theorem infoB : (Try.prog.info? 113).map (fun i => (i.zero, i.size, i.bytes)) = some (some (.agg #[(.string ⟨#[]⟩), (.int .u16 0)]), 2, 24) := by kernel_rfl
def hit (body : ByteArray) (x : Bal) : Bool := x.body.toList == body.toList
def posN (l : List Bal) (body : ByteArray) : Nat := l.findIdx (hit body)
def posL (l : List Bal) (body : ByteArray) : Int := if posN l body < l.length then (posN l body : Int) else -1
theorem posL_yes {l : List Bal} {body : ByteArray} {i : Nat} (hi : i < l.length) (h : hit body l[i] = true) (hb : ∀ j (hj : j < l.length), j < i → hit body l[j] = false) : posL l body = (i : Int) := by
  have : posN l body = i := (List.findIdx_eq hi).2 ⟨h, fun j hj => hb j (by omega) hj⟩
  unfold posL
  rw [this, if_pos hi]
theorem posL_no {l : List Bal} {body : ByteArray} (hb : ∀ j (hj : j < l.length), hit body l[j] = false) : posL l body = -1 := by
  have : posN l body = l.length := List.findIdx_eq_length.2 (fun x hx => by obtain ⟨j, hj, rfl⟩ := List.mem_iff_getElem.1 hx; exact hb j hj)
  unfold posL
  rw [this, if_neg (Nat.lt_irrefl _)]
def forL : List Bal → ByteArray → Nat
  | [], _ => 0
  | x :: r, body => if hit body x = true then x.who else forL r body
theorem forL_at : ∀ (l : List Bal) (body : ByteArray), forL l body = if h : posN l body < l.length then l[posN l body].who else 0
  | [], _ => rfl
  | x :: r, body => by
    have ih := forL_at r body
    unfold forL posN
    by_cases hx : hit body x = true
    · simp [List.findIdx_cons, hx]
    · simp only [hx, Bool.false_eq_true, if_false]
      rw [ih]
      unfold posN
      simp [List.findIdx_cons, hx]
theorem atc_calls (x : Bal) (g : Nat) (body : ByteArray) (w : World) (hc : w.cell? ⟨g, 0, none⟩ = some (.string body)) :
    Calls Try.prog 78 #[.agg #[.string x.body, .int .u16 (x.who : Int)], .pointer (some ⟨g, 0, none⟩)] w (Kept (.bool (hit body x)) w) := by
  have HB := Aside0.mk (Below.refl w.heap.size w)
  have hlt := World.block_lt_of_cell? w _ hc
  go_enter Try.func78, Try.ntmps78
  go_wp2_with fail
  go_ret
  exact ⟨rfl, (by repeat (first | (with_reducible exact HB.out) | (with_reducible refine below_alloc ?_ _) | (with_reducible refine pw_below_drewN ?_ _) | (with_reducible refine below_drew ?_)))⟩
set_option maxHeartbeats 1000000 in
theorem index_calls (A : Option Addr) (c : Nat) (l : List Bal) (w : World) (hr : Kd.C kB w A l.length l) (hl : l.length ≤ 1000000) (g : Nat) (body : ByteArray) (hc : w.cell? ⟨g, 0, none⟩ = some (.string body)) :
    Calls Try.prog 77 #[.slice A l.length c, .func (.func 78) #[] #[.pointer (some ⟨g, 0, none⟩)]] w (Kept (.int .i64 (posL l body)) w) := by
  have HR := Aside0.mk hr
  have HC := Aside0.mk hc
  clear hr hc
  have HB := Aside0.mk (Below.refl w.heap.size w)
  go_enter Try.func77, Try.ntmps77
  go_wp2_with fail
  go_loopw [8] (fun v8 w' => ∃ (i : Nat), v8 = .int .i64 (i : Int) ∧ i ≤ l.length ∧ Aside0 (∀ j (h : j < l.length), j < i → hit body l[j] = false) ∧ Aside0 (Below w.heap.size w w')) (fun v8 _ => l.length - (intOf v8).toNat)
  case atStart => exact ⟨0, rfl, by omega, ⟨fun j h hj => by omega⟩, HB⟩
  case round =>
    clear HB
    obtain ⟨i, rfl, hi, HD, HB⟩ := hrel
    by_cases hlt : i < l.length
    · obtain ⟨ad, ea, h0, h1⟩ := at_B (Kd.C_below HR.out HB.out) i hlt
      cases ea
      obtain ⟨x, hx⟩ : ∃ x, l[i] = x := ⟨_, rfl⟩
      rw [hx] at h0 h1
      have HX := Aside0.mk hx
      clear hx
      cases hh : hit body x with
      | true =>
        have HH := Aside0.mk hh
        clear hh
        go_wp2_with (go_at_call 78; refine (atc_calls x g body _ ((HB.out.cell (World.block_lt_of_cell? w _ HC.out)).trans HC.out)).mono ?_; rw [HH.out]; rintro e w1 ⟨rfl, hb⟩; have HBx := Aside0.mk (below_back hb HB.out); clear HB hb; have HB := HBx; clear HBx)
        go_ret
        exact ⟨ret_int (posL_yes hlt (by rw [HX.out]; exact HH.out) HD.out).symm, HB.out⟩
      | false =>
        have HH := Aside0.mk hh
        clear hh
        go_wp2_with (go_at_call 78; refine (atc_calls x g body _ ((HB.out.cell (World.block_lt_of_cell? w _ HC.out)).trans HC.out)).mono ?_; rw [HH.out]; rintro e w1 ⟨rfl, hb⟩; have HBx := Aside0.mk (below_back hb HB.out); clear HB hb; have HB := HBx; clear HBx)
        go_roundw
        case rel => exact ⟨i + 1, by go_num, by omega, ⟨fun j h hj => by
            rcases Nat.lt_or_eq_of_le (Nat.le_of_lt_succ hj) with h1 | h1
            · exact HD.out j h h1
            · subst h1; rw [HX.out]; exact HH.out⟩, HB⟩
        case measure => simp [intOf]; omega
    · go_wp2_with fail
      go_ret
      exact ⟨ret_int (posL_no fun j hj => HD.out j hj (by omega)).symm, HB.out⟩
theorem at_calls (A : Option Addr) (c : Nat) (l : List Bal) (body : ByteArray) (w : World) (hr : Kd.C kB w A l.length l) (hl : l.length ≤ 1000000) :
    Calls Try.prog 65 #[.slice A l.length c, .string body] w (Kept (.int .i64 (posL l body)) w) := by
  have HR := Aside0.mk hr
  clear hr
  have HB := Aside0.mk (Below.refl w.heap.size w)
  go_enter Try.func65, Try.ntmps65
  go_wp2_with (go_at_call 77; refine (index_calls _ _ l _ ?hC hl _ body ?hc).mono ?_; (case hC => exact Kd.C_below HR.out (by repeat (first | (with_reducible exact HB.out) | (with_reducible refine below_alloc ?_ _) | (with_reducible refine pw_below_drewN ?_ _) | (with_reducible refine below_drew ?_)))); (case hc => exact (blk_cell (blk_new _ _) 0).trans rfl); rintro e w1 ⟨rfl, hb⟩; have HBx : Aside0 (Below w.heap.size w w1) := ⟨below_back hb (by repeat (first | (with_reducible exact HB.out) | (with_reducible refine below_alloc ?_ _) | (with_reducible refine pw_below_drewN ?_ _) | (with_reducible refine below_drew ?_)))⟩; clear HB hb; have HB := HBx; clear HBx)
  go_ret
  exact ⟨rfl, HB.out⟩
theorem R_empty {α : Type} (d : Kd α) (e : TypeId) (W : World) (base : Nat) (hb : base ≤ W.heap.size) : d.R e (W.alloc (.cells #[] e)) base (fun _ => True) (.slice (some ⟨W.heap.size, 0, none⟩) 0 0) [] :=
  ⟨fun _ _ => trivial, [], by simpa using World.ownsRow_lit (base := base) (e := e) (size := d.sz) W #[] 0 hb (by simp [maxLen]) (by simp), Reps.none _ _⟩
def MadeB (xs : List Bal) (w : World) (en : Ending) (w' : World) : Prop := ∃ v, en = .returned v ∧ kB.R 113 w' w.heap.size (fun _ => True) v xs ∧ Below w.heap.size w w'
set_option maxRecDepth 100000 in
theorem clone_calls (A : Option Addr) (c : Nat) (l : List Bal) (w : World) (hr : Kd.C kB w A l.length l) (hl : l.length ≤ 1000000) :
    Calls Try.prog 51 #[.slice A l.length c] w (MadeB l w) := by
  have HR := Aside0.mk hr
  clear hr
  have HB := Aside0.mk (Below.refl w.heap.size w)
  cases A with
  | none =>
    have h0 : l = [] := by
      have := HR.out
      cases l with
      | nil => rfl
      | cons x r =>
        obtain ⟨ad, h, _⟩ := this.2.2 (by simp)
        cases h
    subst h0
    have hq : ∀ W, (binOp .eql 59 (.slice none 0 c) (.slice none 0 0)).run Try.prog W = .ok (.bool true) W := fun (W : World) => Lib.run_eql_slice_nil (P := Try.prog) W 59 113 none 0 c 0 0 Try.underlying59
    go_enter Try.func51, Try.ntmps51
    go_wp2_with fail
    go_ret
    exact ⟨_, rfl, Kd.R_nil _ _ _ _ _, HB.out⟩
  | some ad =>
    have hq : ∀ W, (binOp .eql 59 (.slice (some ad) l.length c) (.slice none 0 0)).run Try.prog W = .ok (.bool false) W := fun (W : World) => Lib.run_eql_slice_nil (P := Try.prog) W 59 113 (some ad) l.length c 0 0 Try.underlying59
    go_enter Try.func51, Try.ntmps51
    go_wp2_with (first
      | (at_builtin; refine Kd.R_append_rows kB (Rr := kB.K w) (w0 := w) w.heap.size rfl (.tmp 5) (.tmp 6) 59 113 (.agg #[(.string ⟨#[]⟩), (.int .u16 0)]) 24 rfl Try.underlying59 infoB rfl (by decide) (by omega) _ [] l (some ad) l.length c (fun _ => True) (fun _ => False) rfl rfl ?aO ?aR ?aM (fun _ hk => hk.elim) (fun _ _ => trivial) ?aB ?aS ?aL ?_; (case aO => exact R_empty kB 113 w w.heap.size (Nat.le_refl _)); (case aR => exact (ReadsRow.imp_ (Kd.C_alloc HR.out _) (Below.refl _ _) (fun p c hp => hp))); (case aM => intro x cs hx; rw [kB_open hx]; exact kB_mkM _ _ _ x); (case aB => exact (by repeat (first | (with_reducible exact HB.out) | (with_reducible refine below_alloc ?_ _) | (with_reducible refine pw_below_drewN ?_ _) | (with_reducible refine below_drew ?_)))); (case aS => simp); (case aL => simp; omega); intro v1 w1 ho hb hg hat; have HO1 := Aside0.mk ho; have HB1 := Aside0.mk hb; clear ho hb hg hat)
      | fail)
    go_ret
    exact ⟨_, rfl, by simpa using HO1.out, HB1.out⟩
end Go.Proofs.Ytbaknecnkipooaa.Vot
namespace Go.Proofs.Ytbaknecnkipooaa.Vot
open Go Go.RowKit Go.Proofs.YtbaknecnkipooaaW.PrintWords Go.Proofs.Ytbaknecnkipooaa.Cnt Go.Proofs.Ytbaknecnkipooaa.Opn
set_option linter.unusedVariables false
set_option linter.unusedSimpArgs false
theorem blk_newg {w : World} {o : Obj} {g : Nat} (h : g = w.heap.size) : (w.alloc o).heap[g]? = some o := by
  subst h
  exact blk_new w o
theorem R_row {α : Type} {d : Kd α} {e : Nat} {w : World} {base : Nat} {ok : Nat → Prop} {v : Value} {xs : List α} (h : d.R e w base ok v xs) {g t : Nat} {cells : Array Value} (hb : w.heap[g]? = some (.cells cells t (0, 0))) (ht : ∀ q, q ∈ e :: d.E → q ≠ t) (cs : Array Value) : d.R e (w.setRow g cs) base (fun k => ok k ∧ k ≠ g) v xs :=
  Kd.R_step (Kd.R_types h hb ht) (fun k hk _ => setRow_other w g k cs hk.2)
theorem tyB' : ∀ q, q ∈ 113 :: kB.E → q = 113 := by
  intro q hq
  simpa [kB, Kd.iso, Kd.pair, Kd.string, Kd.int, Kd.scalar] using hq
theorem tyB : ∀ q, q ∈ 113 :: kB.E → q ≠ 61 := by
  intro q hq
  have : q = 113 := by simpa [kB, Kd.iso, Kd.pair, Kd.string, Kd.int, Kd.scalar] using hq
  subst this
  decide
abbrev RB (w : World) (v : Value) (l : List Bal) : Prop := kB.R 113 w 0 (fun _ => True) v l
theorem RB_row {w : World} {v : Value} {l : List Bal} (h : RB w v l) {g t : Nat} {cells : Array Value} (hb : w.heap[g]? = some (.cells cells t (0, 0))) (ht : 113 ≠ t) (cs : Array Value) : RB (w.setRow g cs) v l :=
  Kd.R_mono (R_row h hb (fun q hq => by rw [tyB' q hq]; exact ht) cs) (fun _ _ => trivial)
def CaseM (w : World) (v : Value) (c : Cas) : Prop := ∃ A1 c1 A2 c2, v = .agg #[.bool c.echoed, .bool c.readied, .bool c.done, .slice A1 c.echoes.length c1, .slice A2 c.readies.length c2] ∧ RB w (.slice A1 c.echoes.length c1) c.echoes ∧ RB w (.slice A2 c.readies.length c2) c.readies
def CaseR (c : Cas) (w : World) (en : Ending) (w' : World) : Prop := ∃ v, en = .returned v ∧ CaseM w' v c ∧ Below w.heap.size w w'
set_option maxHeartbeats 1000000 in
set_option maxRecDepth 100000 in
theorem own_calls (c : Cas) (AE : Option Addr) (cE : Nat) (AR : Option Addr) (cR : Nat) (w : World) (hE : kB.C w AE c.echoes.length c.echoes) (hR : kB.C w AR c.readies.length c.readies) (hlE : c.echoes.length ≤ 1000000) (hlR : c.readies.length ≤ 1000000) :
    Calls Try.prog 37 #[.agg #[.bool c.echoed, .bool c.readied, .bool c.done, .slice AE c.echoes.length cE, .slice AR c.readies.length cR]] w (CaseR c w) := by
  have HE := Aside0.mk hE
  have HR := Aside0.mk hR
  clear hE hR
  have HB := Aside0.mk (Below.refl w.heap.size w)
  go_enter Try.func37, Try.ntmps37
  go_wp2_with fail
  go_region_with (first
    | (go_at_call 51; (with_reducible refine (clone_calls AE cE c.echoes _ (Kd.C_below HE.out (by repeat (first | (with_reducible exact HB.out) | (with_reducible refine below_alloc ?_ _) | (with_reducible refine pw_below_drewN ?_ _) | (with_reducible refine below_drew ?_)))) hlE).mono ?_); rintro e wE ⟨vE, rfl, ho, hb⟩; obtain ⟨A1E, c1E, ev⟩ := Kd.R_slice ho; subst ev; have HOE := Aside0.mk (Kd.R_lower ho (Nat.zero_le _)); clear ho; (try (have HOx : Aside0 (kB.R 113 wE 0 (fun _ => True) (.slice A1R c.readies.length c1R) c.readies) := ⟨Kd.R_below (by repeat (first | (with_reducible exact HOR.out) | (with_reducible refine Kd.R_alloc ?_ _) | (with_reducible refine Kd.R_drewN ?_ _) | (with_reducible refine Kd.R_drew ?_))) hb⟩; clear HOR; have HOR := HOx; clear HOx)); have HBx : Aside0 (Below w.heap.size w wE) := ⟨below_back hb (by repeat (first | (with_reducible exact HB.out) | (with_reducible refine below_alloc ?_ _) | (with_reducible refine pw_below_drewN ?_ _) | (with_reducible refine below_drew ?_)))⟩; have HSx : Aside0 (wE.heap[w.heap.size]? = some (.cells #[.bool c.echoed, .bool c.readied, .bool c.done, .slice AE c.echoes.length cE, .slice AR c.readies.length cR] 61 (0, 0))) := ⟨blk_below (by repeat (first | (with_reducible exact HS.out) | (with_reducible refine blk_drew ?_) | (with_reducible refine blk_drewN ?_ _) | (with_reducible refine blk_newg ?_; (simp; done)) | (with_reducible refine blk_alloc ?_ _))) hb⟩; have HTx : Aside0 (wE.heap[w.heap.size + 1]? = some (.cells #[.bool false, .bool false, .bool false, .slice none 0 0, .slice none 0 0] 61 (0, 0))) := ⟨blk_below (by repeat (first | (with_reducible exact HT.out) | (with_reducible refine blk_drew ?_) | (with_reducible refine blk_drewN ?_ _) | (with_reducible refine blk_newg ?_; (simp; done)) | (with_reducible refine blk_alloc ?_ _))) hb⟩; (try clear a3 a4 f3 f4 lt); have a3 : wE.cell? ⟨w.heap.size, 3, none⟩ = some (.slice AE c.echoes.length cE) := blk_cell HSx.out 3; have a4 : wE.cell? ⟨w.heap.size, 4, none⟩ = some (.slice AR c.readies.length cR) := blk_cell HSx.out 4; have f3 := blk_frozen HSx.out 3; have f4 := blk_frozen HSx.out 4; have lt := blk_lt HTx.out; clear HB hb; (try clear HS HT); have HB := HBx; have HS := HSx; have HT := HTx; clear HBx HSx HTx)
    | (go_at_call 51; (with_reducible refine (clone_calls AR cR c.readies _ (Kd.C_below HR.out (by repeat (first | (with_reducible exact HB.out) | (with_reducible refine below_alloc ?_ _) | (with_reducible refine pw_below_drewN ?_ _) | (with_reducible refine below_drew ?_)))) hlR).mono ?_); rintro e wR ⟨vR, rfl, ho, hb⟩; obtain ⟨A1R, c1R, ev⟩ := Kd.R_slice ho; subst ev; have HOR := Aside0.mk (Kd.R_lower ho (Nat.zero_le _)); clear ho; (try (have HOx : Aside0 (kB.R 113 wR 0 (fun _ => True) (.slice A1E c.echoes.length c1E) c.echoes) := ⟨Kd.R_below (by repeat (first | (with_reducible exact HOE.out) | (with_reducible refine Kd.R_alloc ?_ _) | (with_reducible refine Kd.R_drewN ?_ _) | (with_reducible refine Kd.R_drew ?_))) hb⟩; clear HOE; have HOE := HOx; clear HOx)); have HBx : Aside0 (Below w.heap.size w wR) := ⟨below_back hb (by repeat (first | (with_reducible exact HB.out) | (with_reducible refine below_alloc ?_ _) | (with_reducible refine pw_below_drewN ?_ _) | (with_reducible refine below_drew ?_)))⟩; have HSx : Aside0 (wR.heap[w.heap.size]? = some (.cells #[.bool c.echoed, .bool c.readied, .bool c.done, .slice AE c.echoes.length cE, .slice AR c.readies.length cR] 61 (0, 0))) := ⟨blk_below (by repeat (first | (with_reducible exact HS.out) | (with_reducible refine blk_drew ?_) | (with_reducible refine blk_drewN ?_ _) | (with_reducible refine blk_newg ?_; (simp; done)) | (with_reducible refine blk_alloc ?_ _))) hb⟩; have HTx : Aside0 (wR.heap[w.heap.size + 1]? = some (.cells #[.bool false, .bool false, .bool false, .slice none 0 0, .slice none 0 0] 61 (0, 0))) := ⟨blk_below (by repeat (first | (with_reducible exact HT.out) | (with_reducible refine blk_drew ?_) | (with_reducible refine blk_drewN ?_ _) | (with_reducible refine blk_newg ?_; (simp; done)) | (with_reducible refine blk_alloc ?_ _))) hb⟩; (try clear a3 a4 f3 f4 lt); have a3 : wR.cell? ⟨w.heap.size, 3, none⟩ = some (.slice AE c.echoes.length cE) := blk_cell HSx.out 3; have a4 : wR.cell? ⟨w.heap.size, 4, none⟩ = some (.slice AR c.readies.length cR) := blk_cell HSx.out 4; have f3 := blk_frozen HSx.out 3; have f4 := blk_frozen HSx.out 4; have lt := blk_lt HTx.out; clear HB hb; (try clear HS HT); have HB := HBx; have HS := HSx; have HT := HTx; clear HBx HSx HTx))
  all_goals
    have HS1 := blk_set HS.out 3 (.slice A1E c.echoes.length c1E)
    have HS2 := blk_set HS1 4 (.slice A1R c.readies.length c1R)
    have HT1 := blk_far HT.out (p := ⟨w.heap.size, 3, none⟩) (by show w.heap.size + 1 ≠ w.heap.size; omega) (.slice A1E c.echoes.length c1E)
    have HT2 := blk_far HT1 (p := ⟨w.heap.size, 4, none⟩) (by show w.heap.size + 1 ≠ w.heap.size; omega) (.slice A1R c.readies.length c1R)
    have hB2 := (HB.out.setCell (p := ⟨w.heap.size, 3, none⟩) (Nat.le_refl _) (.slice A1E c.echoes.length c1E)).setCell (p := ⟨w.heap.size, 4, none⟩) (Nat.le_refl _) (.slice A1R c.readies.length c1R)
    have hE2 := Kd.R_set (Kd.R_set HOE.out HS.out tyB 3 (.slice A1E c.echoes.length c1E)) HS1 tyB 4 (.slice A1R c.readies.length c1R)
    have hR2 := Kd.R_set (Kd.R_set HOR.out HS.out tyB 3 (.slice A1E c.echoes.length c1E)) HS1 tyB 4 (.slice A1R c.readies.length c1R)
    generalize (wR.setCell ⟨w.heap.size, 3, none⟩ (.slice A1E c.echoes.length c1E)).setCell ⟨w.heap.size, 4, none⟩ (.slice A1R c.readies.length c1R) = w9 at *
    have HSa : Aside0 (w9.heap[w.heap.size]? = some (.cells #[.bool c.echoed, .bool c.readied, .bool c.done, .slice A1E c.echoes.length c1E, .slice A1R c.readies.length c1R] 61 (0, 0))) := ⟨HS2⟩
    have HTa := Aside0.mk HT2
    have HBa := Aside0.mk hB2
    have HEa := Aside0.mk hE2
    have HRa := Aside0.mk hR2
    clear HS HT HB HOE HOR HS1 HS2 HT1 HT2 hB2 hE2 hR2 a3 a4 f3 f4 lt
    go_wp2_with (first
      | (refine wpList_load_row rfl 61 (.tmp 1) rfl w.heap.size rfl 61 #[.bool c.echoed, .bool c.readied, .bool c.done, .slice A1E c.echoes.length c1E, .slice A1R c.readies.length c1R] (0, 0) _ HSa.out Try.underlying61 rfl (by kernel_rfl) ?_)
      | (refine wpList_store_row rfl 61 (.tmp 2) (.tmp 11) rfl (w.heap.size + 1) #[.bool c.echoed, .bool c.readied, .bool c.done, .slice A1E c.echoes.length c1E, .slice A1R c.readies.length c1R] rfl rfl 61 _ HTa.out (by kernel_rfl) rfl (by simp [Value.oneCell']) ?_)
      | fail)
    refine bodyPost_ret (v := .agg #[.bool c.echoed, .bool c.readied, .bool c.done, .slice A1E c.echoes.length c1E, .slice A1R c.readies.length c1R]) (results_cell_row rfl _ _ (w.heap.size + 1) 61 #[.bool c.echoed, .bool c.readied, .bool c.done, .slice A1E c.echoes.length c1E, .slice A1R c.readies.length c1R] (0, 0) _ rfl (setRow_heap _ _ _ _ _ _ HTa.out) Try.underlying61 rfl (by kernel_rfl)) rfl ⟨_, rfl, ?_, below_setRow HBa.out (by omega) _⟩
    exact ⟨_, _, _, _, rfl, Kd.R_mono (R_row HEa.out HTa.out tyB #[.bool c.echoed, .bool c.readied, .bool c.done, .slice A1E c.echoes.length c1E, .slice A1R c.readies.length c1R]) (fun _ _ => trivial), Kd.R_mono (R_row HRa.out HTa.out tyB #[.bool c.echoed, .bool c.readied, .bool c.done, .slice A1E c.echoes.length c1E, .slice A1R c.readies.length c1R]) (fun _ _ => trivial)⟩
end Go.Proofs.Ytbaknecnkipooaa.Vot
