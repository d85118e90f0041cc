/- Letters on their way: letters as plain data, kinds; the walks of good, New, Clone, own, Len. -/
import Derived.Test.YtnlpfigdinnboaaObjRow
import Derived.Test.YtnlpfigdinnboaaOpen
import Derived.Test.YtnlpfigdinnboaaProg
import Derived.WalkKit
import Derived.WalkLawsBesides
import Derived.Deep.LoopGhost
import Derived.Deep.QuietTactic
import Derived.BigQuiet
import Derived.Laws.Rows
import Derived.Laws.Tables
import Derived.WalkSpells
namespace Go.Proofs.Ytnlpfigdinnboaa.Net
open Go Go.RowKit Go.Proofs.YtnlpfigdinnboaaW.PrintWords Go.Proofs.Ytnlpfigdinnboaa.Sep Go.Proofs.Ytnlpfigdinnboaa.Obj
set_option linter.unusedVariables false
set_option linter.unusedSimpArgs false

/-- Hands back v; what was there is as it was. -/
def Kept (v : Value) (w : World) (e : Ending) (w' : World) : Prop := e = .returned v ∧ Below w.heap.size w w'
/-- a letter -/
structure Lt where
  frm : Int
  dst : Int
  seq : Int
  body : List Int
  tag : ByteArray
def zL : Lt := ⟨0, 0, 0, [], ⟨#[]⟩⟩
def kU : Kd Int := Kd.int .u8
def kLt : Kd Lt := Kd.iso (Kd.pair (Kd.int .u8) (Kd.pair (Kd.int .u8) (Kd.pair (Kd.int .u32) (Kd.pair (Kd.slice 5 kU) Kd.string)))) (fun x => (x.frm, x.dst, x.seq, x.body, x.tag))
def cL (x : Lt) (v : Value) : List Value := [.int .u8 x.frm, .int .u8 x.dst, .int .u32 x.seq, v, .string x.tag]
theorem kLt_open {w : World} {x : Lt} {cs : List Value} (h : kLt.K w x cs) : ∃ A c, cs = cL x (.slice A x.body.length c) ∧ x.body.length ≤ c ∧ kU.C w A x.body.length x.body := by
  obtain ⟨_, _, rfl, rfl, _, _, rfl, rfl, _, _, rfl, rfl, _, _, rfl, ⟨A, c, rfl, h1, h2⟩, rfl⟩ := h
  exact ⟨A, c, rfl, h1, h2⟩
theorem kLt_mk {w : World} {x : Lt} {A : Option Addr} {c : Nat} (h1 : x.body.length ≤ c) (h : kU.C w A x.body.length x.body) : kLt.K w x (cL x (.slice A x.body.length c)) :=
  ⟨[_], _, rfl, rfl, [_], _, rfl, rfl, [_], _, rfl, rfl, [_], _, rfl, ⟨A, c, rfl, h1, h⟩, rfl⟩
theorem kLt_openM {w : World} {base : Nat} {ok : Nat → Prop} {x : Lt} {cs : List Value} (h : kLt.M w base ok x cs) : ∃ v, cs = cL x v ∧ kU.R 5 w base ok v x.body := by
  obtain ⟨_, _, rfl, rfl, _, _, rfl, rfl, _, _, rfl, rfl, _, _, rfl, ⟨v, rfl, h2⟩, rfl⟩ := h
  exact ⟨v, rfl, h2⟩
theorem kLt_mkM {w : World} {base : Nat} {ok : Nat → Prop} {x : Lt} {v : Value} (h : kU.R 5 w base ok v x.body) : kLt.M w base ok x (cL x v) :=
  ⟨[_], _, rfl, rfl, [_], _, rfl, rfl, [_], _, rfl, rfl, [_], _, rfl, ⟨v, rfl, h⟩, rfl⟩
theorem kLt_sz : kLt.sz = 5 := rfl
/-- letters whose bodies lie in a world b: they are not one's own -/
def kLc (b : World) : Kd Lt where
  sz := 5
  E := []
  K := fun _ x cs => kLt.K b x cs
  M := fun _ _ _ x cs => kLt.K b x cs
  K_len := fun h => kLt.K_len h
  K_one := fun h => kLt.K_one h
  K_below := fun _ h => h
  K_of_M := fun h => h
  M_mono := fun _ h => h
  M_bound := fun h => h
  M_move := fun _ h => h
  M_lower := fun _ h => h
theorem kLc_C {b w : World} {A : Option Addr} {n : Nat} {xs : List Lt} (hb : Below b.heap.size b w) (h : (kLc b).C w A n xs) : kLt.C w A n xs := ReadsRow.imp_ h (Below.refl _ _) (fun _ _ hp => kLt.K_below hb hp)

/-- a net: its letters, its room -/
def netA (g : Nat) (l : List Lt) (room : Int) : Asr := exA fun x : Option Addr × Nat => star (Sep.blk g #[.slice x.1 l.length x.2, .int .i64 room] 54) (Sep.row kLt 36 (.slice x.1 l.length x.2) l)
theorem netA_blk {g : Nat} {l : List Lt} {room : Int} {w : World} {S : Nat → Prop} (h : (netA g l room).P w S) : ∃ A c, w.heap[g]? = some (.cells #[.slice A l.length c, .int .i64 room] 54 (0, 0)) ∧ kLt.C w A l.length l := by
  obtain ⟨⟨A, c⟩, T, ⟨h1, _⟩, h2⟩ := h
  exact ⟨A, c, h1, (Kd.R_reads' h2).2.2⟩

set_option maxRecDepth 100000 in
theorem good_nil (w : World) : Calls Try.prog 22 #[.pointer none] w (Kept (.bool false) w) := by
  go_enter Try.func22, Try.ntmps22
  go_wp2_with fail
  go_ret
  exact ⟨rfl, Below.refl _ _⟩
set_option maxRecDepth 100000 in
theorem good_calls (w : World) (g : Nat) (v : Value) (room : Int) (hg : w.heap[g]? = some (.cells #[v, .int .i64 room] 54 (0, 0))) :
    Calls Try.prog 22 #[.pointer (some ⟨g, 0, none⟩)] w (Kept (.bool (decide (0 < room))) w) := by
  have hc1 : w.cell? ⟨g, 1, none⟩ = some (.int .i64 room) := (blk_cell hg 1).trans rfl
  clear hg
  by_cases h : 0 < room
  · have hd : decide (0 < room) = true := by simpa using h
    rw [hd]
    go_enter Try.func22, Try.ntmps22
    go_wp2_with fail
    go_ret
    exact ⟨by simp [h], Below.refl _ _⟩
  · have hd : decide (0 < room) = false := by simpa using h
    rw [hd]
    go_enter Try.func22, Try.ntmps22
    go_wp2_with fail
    go_ret
    exact ⟨by simp [h], Below.refl _ _⟩

set_option maxRecDepth 100000 in
theorem new_no (w : World) (room : Int) (h : ¬ (1 ≤ room ∧ room ≤ 5000)) : Calls Try.prog 9 #[.int .i64 room] w (Kept (.pointer none) w) := by
  go_enter Try.func9, Try.ntmps9
  go_wp2_with fail
  all_goals first | (go_ret; exact ⟨rfl, Below.refl _ _⟩) | (exfalso; omega)
theorem netA_new {S : Nat → Prop} {g : Nat} {room : Int} {w w' : World} (h : OwnS S [Sep.blk g #[.slice none 0 0, .int .i64 room] 54] w w') : OwnS S [netA g [] room] w w' :=
  h.weak 0 rfl (fun T hp => ⟨(none, 0), T, ⟨hp.1, hp.2, hp.2⟩, Kd.R_nil _ _ _ _ _⟩)
theorem row_made {α : Type} {d : Kd α} {e : Nat} {v : Value} {xs : List α} {w w' : World} (hb : Below w.heap.size w w') (h : d.R e w' w.heap.size (fun _ => True) v xs) : Own [Sep.row d e v xs] w w' :=
  (Own.start w).add hb (Kd.R_mono (Kd.R_bound (Kd.R_lower (Kd.R_bound h) (Nat.zero_le _))) (fun k hk => ⟨hk.1.2.1, hk.1.2.2.1⟩))
set_option maxRecDepth 100000 in
theorem new_calls (w : World) (room : Int) (h : 1 ≤ room ∧ room ≤ 5000) : Calls Try.prog 9 #[.int .i64 room] w (fun e w' => ∃ g, e = .returned (.pointer (some ⟨g, 0, none⟩)) ∧ OwnS (fun _ => False) [netA g [] room] w w') := by
  have HH : Aside0 (OwnS (fun _ => False) [] w w) := ⟨OwnS.of_own (Own.start w)⟩
  go_enter Try.func9, Try.ntmps9
  go_wp2_with (first
    | ((with_reducible refine gate_dst (N := 11) rfl ?_); refine evS_box (S := fun _ => False) (w0 := w) (As := []) ?_ rfl (cs := #[.slice none 0 0, .int .i64 room]) (T := 54) ?_ ?_; (focus ((repeat (first | (with_reducible refine OwnS.alloc ?_ _) | (with_reducible refine OwnS.drewN ?_ _) | (with_reducible refine OwnS.drew ?_))); (with_reducible exact HH.out))); (focus first | (go_simp; done) | (go_simp; rfl)); intro g w1 he hh; clear he; have HHx : Aside0 (OwnS (fun _ => False) [Sep.blk g #[.slice none 0 0, .int .i64 room] 54] w w1) := ⟨hh⟩; clear HH; have HH := HHx; clear HHx; clear hh)
    | fail
    | fail)
  all_goals first | (exfalso; omega) | skip
  go_ret
  exact ⟨g, rfl, netA_new HH.out⟩

theorem infoU : (Try.prog.info? 5).map (fun i => (i.zero, i.size, i.bytes)) = some (some (.int .u8 0), 1, 1) := by kernel_rfl
theorem R_empty {α : Type} (d : Kd α) (e : TypeId) (W : World) (base : Nat) (hb : base ≤ W.heap.size) : d.R e (W.alloc (.cells #[] e)) base (fun _ => True) (.slice (some ⟨W.heap.size, 0, none⟩) 0 0) [] :=
  ⟨fun _ _ => trivial, [], by simpa using World.ownsRow_lit (base := base) (e := e) (size := d.sz) W #[] 0 hb (by simp [maxLen]) (by simp), Reps.none _ _⟩
set_option maxRecDepth 100000 in
theorem clone_calls (A : Option Addr) (c : Nat) (l : List Int) (w : World) (hr : kU.C w A l.length l) (hl : l.length ≤ 1000000) :
    Calls Try.prog 24 #[.slice A l.length c] w (fun e w' => ∃ A' c', e = .returned (.slice A' l.length c') ∧ Own [Sep.row kU 5 (.slice A' l.length c') l] w w') := by
  have HR := Aside0.mk hr
  clear hr
  have HB := Aside0.mk (Below.refl w.heap.size w)
  cases A with
  | none =>
    have h0 : l = [] := by
      have := HR.out
      cases l with
      | nil => rfl
      | cons x r =>
        obtain ⟨ad, h, _⟩ := this.2.2 (by simp)
        cases h
    subst h0
    have hq : ∀ W, (binOp .eql 33 (.slice none 0 c) (.slice none 0 0)).run Try.prog W = .ok (.bool true) W := fun (W : World) => Lib.run_eql_slice_nil (P := Try.prog) W 33 5 none 0 c 0 0 Try.underlying33
    go_enter Try.func24, Try.ntmps24
    go_wp2_with fail
    go_ret
    exact ⟨_, _, rfl, Own.nil (Own.start w)⟩
  | some ad =>
    have hq : ∀ W, (binOp .eql 33 (.slice (some ad) l.length c) (.slice none 0 0)).run Try.prog W = .ok (.bool false) W := fun (W : World) => Lib.run_eql_slice_nil (P := Try.prog) W 33 5 (some ad) l.length c 0 0 Try.underlying33
    go_enter Try.func24, Try.ntmps24
    go_wp2_with (first
      | (at_builtin; refine Kd.R_append_rows kU (Rr := kU.K w) (w0 := w) w.heap.size rfl (.tmp 5) (.tmp 6) 33 5 (.int .u8 0) 1 rfl Try.underlying33 infoU rfl (by decide) (by omega) _ [] l (some ad) l.length c (fun _ => True) (fun _ => False) rfl rfl ?aO ?aR ?aM (fun _ hk => hk.elim) (fun _ _ => trivial) ?aB ?aS ?aL ?_; (case aO => exact R_empty kU 5 w w.heap.size (Nat.le_refl _)); (case aR => exact (ReadsRow.imp_ (Kd.C_alloc HR.out _) (Below.refl _ _) (fun p c hp => hp))); (case aM => intro x cs hx; exact hx); (case aB => exact (by repeat (first | (with_reducible exact HB.out) | (with_reducible refine below_alloc ?_ _) | (with_reducible refine pw_below_drewN ?_ _) | (with_reducible refine below_drew ?_)))); (case aS => simp); (case aL => simp; omega); intro v1 w1 ho hb hg hat; have HO1 := Aside0.mk ho; have HB1 := Aside0.mk hb; clear ho hb hg hat)
      | fail)
    go_ret
    have h1 := row_made HB1.out (by simpa using HO1.out)
    obtain ⟨A', c', e⟩ := h1.slice 0 rfl
    subst e
    exact ⟨_, _, rfl, h1⟩

theorem below_frm {w w' : World} (h : Frm (fun _ => False) w w') : Below w.heap.size w w' := ⟨h.os, h.tape, h.output, h.size, fun k hk => h.block k hk (fun e => e)⟩
set_option maxRecDepth 100000 in
theorem own_walk (f d s : Int) (bd : List Int) (tg : ByteArray) (A : Option Addr) (c : Nat) (w : World) (hr : kU.C w A bd.length bd) (hl : bd.length ≤ 1000000) :
    Calls Try.prog 23 #[.agg #[.int .u8 f, .int .u8 d, .int .u32 s, .slice A bd.length c, .string tg]] w (fun e w' => ∃ A' c', e = .returned (.agg (cL ⟨f, d, s, bd, tg⟩ (.slice A' bd.length c')).toArray) ∧ Own [Sep.row kU 5 (.slice A' bd.length c') bd] w w') := by
  have HR := Aside0.mk hr
  clear hr
  have HH : Aside0 (OwnS (fun _ => False) [] w w) := ⟨OwnS.of_own (Own.start w)⟩
  go_enter Try.func23, Try.ntmps23
  go_wp2_with (first
    | ((with_reducible refine gate_dst (N := 1) rfl ?_); refine evS_box (S := fun _ => False) (w0 := w) (As := []) ?_ rfl (cs := #[.int .u8 f, .int .u8 d, .int .u32 s, .slice A bd.length c, .string tg]) (T := 36) ?_ ?_; (focus ((repeat (first | (with_reducible refine OwnS.alloc ?_ _) | (with_reducible refine OwnS.drewN ?_ _) | (with_reducible refine OwnS.drew ?_))); (with_reducible exact HH.out))); (focus first | (go_simp; done) | (go_simp; rfl)); intro g1 w1 he hh; clear he; have HHx : Aside0 (OwnS (fun _ => False) [Sep.blk g1 #[.int .u8 f, .int .u8 d, .int .u32 s, .slice A bd.length c, .string tg] 36] w w1) := ⟨hh⟩; clear HH; have HH := HHx; clear HHx; clear hh)
    | ((with_reducible refine gate_dst (N := 2) rfl ?_); refine evS_box (S := fun _ => False) (w0 := w) (As := [Sep.blk g1 #[.int .u8 f, .int .u8 d, .int .u32 s, .slice A bd.length c, .string tg] 36]) ?_ rfl (cs := #[.int .u8 0, .int .u8 0, .int .u32 0, .slice none 0 0, .string ⟨#[]⟩]) (T := 36) ?_ ?_; (focus ((repeat (first | (with_reducible refine OwnS.alloc ?_ _) | (with_reducible refine OwnS.drewN ?_ _) | (with_reducible refine OwnS.drew ?_))); (with_reducible exact HH.out))); (focus first | (go_simp; done) | (go_simp; rfl)); intro g2 w2 he hh; clear he; have HHx : Aside0 (OwnS (fun _ => False) [Sep.blk g1 #[.int .u8 f, .int .u8 d, .int .u32 s, .slice A bd.length c, .string tg] 36, Sep.blk g2 #[.int .u8 0, .int .u8 0, .int .u32 0, .slice none 0 0, .string ⟨#[]⟩] 36] w w2) := ⟨hh⟩; clear HH; have HH := HHx; clear HHx; clear hh)
    | ((with_reducible refine gate_ (.load 33 (.tmp 3)) rfl ?_); refine ev_cell (blk_cell (OwnS.blk (S := fun _ => False) (w0 := w) (As := [Sep.blk g1 #[.int .u8 f, .int .u8 d, .int .u32 s, .slice A bd.length c, .string tg] 36, Sep.blk g2 #[.int .u8 0, .int .u8 0, .int .u32 0, .slice none 0 0, .string ⟨#[]⟩] 36]) ?_ 0 rfl) 3) rfl rfl (by rfl) Try.underlying33 rfl ?_; (focus ((repeat (first | (with_reducible refine OwnS.alloc ?_ _) | (with_reducible refine OwnS.drewN ?_ _) | (with_reducible refine OwnS.drew ?_))); (with_reducible exact HH.out))))
    | (go_at_call 24; refine ownS_call (S := fun _ => False) (w0 := w) (As := [Sep.blk g1 #[.int .u8 f, .int .u8 d, .int .u32 s, .slice A bd.length c, .string tg] 36, Sep.blk g2 #[.int .u8 0, .int .u8 0, .int .u32 0, .slice none 0 0, .string ⟨#[]⟩] 36]) ?_ ?_; (focus ((repeat (first | (with_reducible refine OwnS.alloc ?_ _) | (with_reducible refine OwnS.drewN ?_ _) | (with_reducible refine OwnS.drew ?_))); (with_reducible exact HH.out))); intro ht; refine (clone_calls A c bd _ ?_ hl).mono ?_; (focus exact (Kd.C_below HR.out (below_frm (OwnS.frm ht)))); rintro e w4 ⟨A1, c1, rfl, ho⟩; have HHx : Aside0 (OwnS (fun _ => False) [Sep.blk g1 #[.int .u8 f, .int .u8 d, .int .u32 s, .slice A bd.length c, .string tg] 36, Sep.blk g2 #[.int .u8 0, .int .u8 0, .int .u32 0, .slice none 0 0, .string ⟨#[]⟩] 36, Sep.row kU 5 (.slice A1 bd.length c1) bd] w w4) := ⟨OwnS.joinL (S := fun _ => False) (w0 := w) (As := [Sep.blk g1 #[.int .u8 f, .int .u8 d, .int .u32 s, .slice A bd.length c, .string tg] 36, Sep.blk g2 #[.int .u8 0, .int .u8 0, .int .u32 0, .slice none 0 0, .string ⟨#[]⟩] 36]) (Bs := [Sep.row kU 5 (.slice A1 bd.length c1) bd]) ht ho⟩; clear HH; have HH := HHx; clear HHx; clear ho; clear ht)
    | ((with_reducible refine gate_ (.store 33 (.tmp 6) (.tmp 5)) rfl ?_); refine evS_store (S := fun _ => False) (w0 := w) (As := [Sep.blk g1 #[.int .u8 f, .int .u8 d, .int .u32 s, .slice A bd.length c, .string tg] 36, Sep.blk g2 #[.int .u8 0, .int .u8 0, .int .u32 0, .slice none 0 0, .string ⟨#[]⟩] 36, Sep.row kU 5 (.slice A1 bd.length c1) bd]) ?_ 0 rfl rfl rfl rfl (by rfl) (.slice A1 bd.length c1) (by rfl) [.slice A1 bd.length c1] (by rfl) (by kernel_rfl) (by simp) (by simp [Value.oneCell']) ?_; (focus ((repeat (first | (with_reducible refine OwnS.alloc ?_ _) | (with_reducible refine OwnS.drewN ?_ _) | (with_reducible refine OwnS.drew ?_))); (with_reducible exact HH.out))); intro w5 hh; have HHx : Aside0 (OwnS (fun _ => False) [Sep.blk g1 #[.int .u8 f, .int .u8 d, .int .u32 s, .slice A1 bd.length c1, .string tg] 36, Sep.blk g2 #[.int .u8 0, .int .u8 0, .int .u32 0, .slice none 0 0, .string ⟨#[]⟩] 36, Sep.row kU 5 (.slice A1 bd.length c1) bd] w w5) := ⟨hh⟩; clear HH; have HH := HHx; clear HHx; clear hh)
    | ((with_reducible refine gate_ (.load 36 (.tmp 1)) rfl ?_); refine ev_load (OwnS.blk (S := fun _ => False) (w0 := w) (As := [Sep.blk g1 #[.int .u8 f, .int .u8 d, .int .u32 s, .slice A1 bd.length c1, .string tg] 36, Sep.blk g2 #[.int .u8 0, .int .u8 0, .int .u32 0, .slice none 0 0, .string ⟨#[]⟩] 36, Sep.row kU 5 (.slice A1 bd.length c1) bd]) ?_ 0 rfl) 0 5 [.int .u8 f, .int .u8 d, .int .u32 s, .slice A1 bd.length c1, .string tg] rfl rfl rfl (by rfl) Try.underlying36 rfl (by kernel_rfl) ?_; (focus ((repeat (first | (with_reducible refine OwnS.alloc ?_ _) | (with_reducible refine OwnS.drewN ?_ _) | (with_reducible refine OwnS.drew ?_))); (with_reducible exact HH.out))))
    | ((with_reducible refine gate_ (.store 36 (.tmp 2) (.tmp 7)) rfl ?_); refine evS_store (S := fun _ => False) (w0 := w) (As := [Sep.blk g1 #[.int .u8 f, .int .u8 d, .int .u32 s, .slice A1 bd.length c1, .string tg] 36, Sep.blk g2 #[.int .u8 0, .int .u8 0, .int .u32 0, .slice none 0 0, .string ⟨#[]⟩] 36, Sep.row kU 5 (.slice A1 bd.length c1) bd]) ?_ 1 rfl rfl rfl rfl (by rfl) (.agg #[.int .u8 f, .int .u8 d, .int .u32 s, .slice A1 bd.length c1, .string tg]) (by rfl) [.int .u8 f, .int .u8 d, .int .u32 s, .slice A1 bd.length c1, .string tg] (by rfl) (by kernel_rfl) (by simp) (by simp [Value.oneCell']) ?_; (focus ((repeat (first | (with_reducible refine OwnS.alloc ?_ _) | (with_reducible refine OwnS.drewN ?_ _) | (with_reducible refine OwnS.drew ?_))); (with_reducible exact HH.out))); intro w6 hh; have HHx : Aside0 (OwnS (fun _ => False) [Sep.blk g1 #[.int .u8 f, .int .u8 d, .int .u32 s, .slice A1 bd.length c1, .string tg] 36, Sep.blk g2 #[.int .u8 f, .int .u8 d, .int .u32 s, .slice A1 bd.length c1, .string tg] 36, Sep.row kU 5 (.slice A1 bd.length c1) bd] w w6) := ⟨hh⟩; clear HH; have HH := HHx; clear HHx; clear hh)
    | fail
    | fail)
  refine bodyPost_ret (v := .agg #[.int .u8 f, .int .u8 d, .int .u32 s, .slice A1 bd.length c1, .string tg]) (results_cell_row rfl _ _ g2 36 #[.int .u8 f, .int .u8 d, .int .u32 s, .slice A1 bd.length c1, .string tg] (0, 0) _ rfl (OwnS.blk HH.out 1 rfl) Try.underlying36 rfl (by kernel_rfl)) rfl ?_
  exact ⟨A1, c1, rfl, (OwnS.own HH.out).pick 2 rfl⟩
end Go.Proofs.Ytnlpfigdinnboaa.Net
