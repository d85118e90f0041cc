/- Votes: the walk of Take. -/
import Derived.Test.YtbaknecnkipooaaM04
namespace Go.Proofs.Ytbaknecnkipooaa.Vot
open Go Go.RowKit Go.Proofs.YtbaknecnkipooaaW.PrintWords Go.Proofs.Ytbaknecnkipooaa.Cnt Go.Proofs.Ytbaknecnkipooaa.Opn
set_option linter.unusedVariables false
set_option linter.unusedSimpArgs false
structure Ans where
  c : Cas
  outs : List Out
  body : ByteArray
  is : Bool
  e : Int
def failA (c : Cas) (e : Int) : Ans := ⟨c, [], ⟨#[]⟩, false, e⟩
def manyL (l : List Bal) (who : Int) (body : ByteArray) : Int := (sz (forL (withL l who body) body) : Nat)
def sendA (c : Cas) (body : ByteArray) : Ans := if c.echoed = true then failA c 6 else ⟨{ c with echoed := true }, [⟨2, body⟩], ⟨#[]⟩, false, 0⟩
def readyC (c : Cas) (b : Bool) : Cas := { c with readied := c.readied || b }
def readyO (c : Cas) (b : Bool) (body : ByteArray) : List Out := if b = true ∧ c.readied = false then [⟨3, body⟩] else []
def echoA (c : Cas) (n who : Int) (body : ByteArray) : Ans :=
  if votedL c.echoes who = true then failA c 6
  else ⟨readyC { c with echoes := withL c.echoes who body } (decide (echoes n ≤ manyL c.echoes who body)), readyO c (decide (echoes n ≤ manyL c.echoes who body)) body, ⟨#[]⟩, false, 0⟩
def doneB (c : Cas) (n who : Int) (body : ByteArray) : Bool := !c.done && decide (2 * faulty n + 1 ≤ manyL c.readies who body)
def readyA (c : Cas) (n who : Int) (body : ByteArray) : Ans :=
  if votedL c.readies who = true then failA c 6
  else ⟨{ readyC { c with readies := withL c.readies who body } (decide (faulty n + 1 ≤ manyL c.readies who body)) with done := c.done || doneB c n who body }, readyO c (decide (faulty n + 1 ≤ manyL c.readies who body)) body,
    if doneB c n who body = true then body else ⟨#[]⟩, doneB c n who body, 0⟩
def takeM (c : Cas) (m : Nat) (fr kind who : Int) (body : ByteArray) : Ans :=
  if kind < 1 ∨ 3 < kind ∨ 1000 < body.size then failA c 2
  else if hasB m who = false ∨ hasB m fr = false ∨ (kind = 1 ∧ who ≠ fr) then failA c 10
  else if kind = 1 then sendA c body
  else if kind = 2 then echoA c (sz m : Nat) who body
  else readyA c (sz m : Nat) who body
abbrev RO (w : World) (v : Value) (l : List Out) : Prop := kO.R 102 w 0 (fun _ => True) v l
theorem tyO : ∀ q, q ∈ 102 :: kO.E → q = 102 := by
  intro q hq
  simpa [kO, Kd.iso, Kd.pair, Kd.string, Kd.int, Kd.scalar] using hq
theorem RO_row {w : World} {v : Value} {l : List Out} (h : RO w v l) {g t : Nat} {cells : Array Value} (hb : w.heap[g]? = some (.cells cells t (0, 0))) (ht : 102 ≠ t) (cs : Array Value) : RO (w.setRow g cs) v l :=
  Kd.R_mono (R_row h hb (fun q hq => by rw [tyO q hq]; exact ht) cs) (fun _ _ => trivial)
theorem RO_lit (W : World) (k : Int) (b : ByteArray) : RO (W.alloc (.cells #[.int .i64 k, .string b] 102)) (.slice (some ⟨W.heap.size, 0, none⟩) 1 1) [⟨k, b⟩] :=
  ⟨fun _ _ => trivial, [.int .i64 k, .string b], World.ownsRow_lit (base := 0) (e := 102) (size := 2) W #[.int .i64 k, .string b] 1 (Nat.zero_le _) (by simp [maxLen]) rfl, Reps.snoc (Reps.none _ _) (kO_mkM _ _ _ ⟨k, b⟩) rfl⟩
def TakeR (a : Ans) (w : World) (en : Ending) (w' : World) : Prop := ∃ v A n, en = .returned (.tuple #[v, .slice A a.outs.length n, .string a.body, .bool a.is, .int .i64 a.e]) ∧ CaseM w' v a.c ∧ RO w' (.slice A a.outs.length n) a.outs ∧ Below w.heap.size w w'
theorem TakeR.fail {c : Cas} {er : Int} {w w' : World} {v : Value} (hv : CaseM w' v c) (hb : Below w.heap.size w w') : TakeR (failA c er) w (.returned (.tuple #[v, .slice none 0 0, .string ⟨#[]⟩, .bool false, .int .i64 er])) w' :=
  ⟨v, none, 0, rfl, hv, Kd.R_nil _ _ _ _ _, hb⟩
theorem CaseM.mk' {w : World} {ec rc dc : Bool} {E R : List Bal} {A1 A2 : Option Addr} {c1 c2 : Nat} (h1 : RB w (.slice A1 E.length c1) E) (h2 : RB w (.slice A2 R.length c2) R) : CaseM w (.agg #[.bool ec, .bool rc, .bool dc, .slice A1 E.length c1, .slice A2 R.length c2]) ⟨ec, rc, dc, E, R⟩ :=
  ⟨A1, c1, A2, c2, rfl, h1, h2⟩
theorem own_comp (ec rc dc : Bool) (E R : List Bal) (AE : Option Addr) (cE : Nat) (AR : Option Addr) (cR : Nat) (w : World) (hE : kB.C w AE E.length E) (hR : kB.C w AR R.length R) (hlE : E.length ≤ 1000000) (hlR : R.length ≤ 1000000) :
    Calls Try.prog 37 #[.agg #[.bool ec, .bool rc, .bool dc, .slice AE E.length cE, .slice AR R.length cR]] w (fun en w' => ∃ A1 c1 A2 c2, en = .returned (.agg #[.bool ec, .bool rc, .bool dc, .slice A1 E.length c1, .slice A2 R.length c2]) ∧ RB w' (.slice A1 E.length c1) E ∧ RB w' (.slice A2 R.length c2) R ∧ Below w.heap.size w w') :=
  (own_calls ⟨ec, rc, dc, E, R⟩ AE cE AR cR w hE hR hlE hlR).mono fun en w' h => by
    obtain ⟨v, rfl, ⟨A1, c1, A2, c2, rfl, h1, h2⟩, hb⟩ := h
    exact ⟨A1, c1, A2, c2, rfl, h1, h2, hb⟩
theorem fail_comp (ec rc dc : Bool) (E R : List Bal) (AE : Option Addr) (cE : Nat) (AR : Option Addr) (cR : Nat) (er : Int) (g : Nat) (w : World) (hg : w.heap[g]? = some (.cells #[.bool ec, .bool rc, .bool dc, .slice AE E.length cE, .slice AR R.length cR] 61 (0, 0))) (hE : kB.C w AE E.length E) (hR : kB.C w AR R.length R) (hlE : E.length ≤ 1000000) (hlR : R.length ≤ 1000000) :
    Calls Try.prog 36 #[.int .i64 er, .pointer (some ⟨g, 0, none⟩)] w (fun en w' => ∃ A1 c1 A2 c2, en = .returned (.tuple #[.agg #[.bool ec, .bool rc, .bool dc, .slice A1 E.length c1, .slice A2 R.length c2], .slice none 0 0, .string ⟨#[]⟩, .bool false, .int .i64 er]) ∧ RB w' (.slice A1 E.length c1) E ∧ RB w' (.slice A2 R.length c2) R ∧ Below w.heap.size w w') :=
  (fail_calls ⟨ec, rc, dc, E, R⟩ AE cE AR cR er g w hg hE hR hlE hlR).mono fun en w' h => by
    obtain ⟨v, rfl, ⟨A1, c1, A2, c2, rfl, h1, h2⟩, hb⟩ := h
    exact ⟨A1, c1, A2, c2, rfl, h1, h2, hb⟩
set_option maxHeartbeats 400000 in
set_option maxRecDepth 100000 in
theorem take_e2a (ec rc dc : Bool) (E R : List Bal) (AE : Option Addr) (cE : Nat) (AR : Option Addr) (cR : Nat) (m : Nat) (fr kind who : Int) (body : ByteArray) (w : World) (hE : kB.C w AE E.length E) (hR : kB.C w AR R.length R) (hcE : E.length ≤ cE) (hcR : R.length ≤ cR)
    (hlE : E.length ≤ 900000) (hlR : R.length ≤ 900000) (hm : m < 65536) (hf0 : 0 ≤ fr) (hf1 : fr ≤ 255) (hw0 : 0 ≤ who) (hw1 : who ≤ 255) (hk0 : -9223372036854775808 ≤ kind) (hk1 : kind ≤ 9223372036854775807) (hbs : body.size ≤ 9223372036854775807) (h : kind < 1) :
    Calls Try.prog 12 #[.agg #[.bool ec, .bool rc, .bool dc, .slice AE E.length cE, .slice AR R.length cR], .int .u16 (m : Int), .int .u8 fr, .int .i64 kind, .int .u8 who, .string body] w (TakeR (failA ⟨ec, rc, dc, E, R⟩ 2) w) := by
  have HE := Aside0.mk hE
  have HR := Aside0.mk hR
  clear hE hR
  have hlE : E.length ≤ 1000000 := by omega
  have hlR : R.length ≤ 1000000 := by omega
  have HB := Aside0.mk (Below.refl w.heap.size w)
  go_enter Try.func12, Try.ntmps12
  go_wp2_with (first
    | (go_at_call 38; refine (size_calls m _ hm).mono ?_; rintro e w1 ⟨rfl, m1, rfl⟩)
    | (go_at_call 36; refine (fail_comp ec rc dc E R AE cE AR cR 2 _ _ (by repeat (first | (with_reducible exact HS.out) | (with_reducible refine blk_drew ?_) | (with_reducible refine blk_drewN ?_ _) | (with_reducible refine blk_newg ?_; (simp; done)) | (with_reducible refine blk_alloc ?_ _))) (Kd.C_below HE.out (by repeat (first | (with_reducible exact HB.out) | (with_reducible refine below_alloc ?_ _) | (with_reducible refine pw_below_drewN ?_ _) | (with_reducible refine below_drew ?_)))) (Kd.C_below HR.out (by repeat (first | (with_reducible exact HB.out) | (with_reducible refine below_alloc ?_ _) | (with_reducible refine pw_below_drewN ?_ _) | (with_reducible refine below_drew ?_)))) hlE hlR).mono ?_; rintro e w2 ⟨A1, c1, A2, c2, rfl, hC1, hC2, hb⟩; have HT : Aside0 (w2.heap[w.heap.size + 1]? = some (.cells #[.bool false, .bool false, .bool false, .slice none 0 0, .slice none 0 0] 61 (0, 0))) := ⟨blk_below (by repeat (first | (with_reducible exact HT.out) | (with_reducible refine blk_drew ?_) | (with_reducible refine blk_drewN ?_ _) | (with_reducible refine blk_newg ?_; (simp; done)) | (with_reducible refine blk_alloc ?_ _))) hb⟩; have HBx : Aside0 (Below w.heap.size w w2) := ⟨below_back hb (by repeat (first | (with_reducible exact HB.out) | (with_reducible refine below_alloc ?_ _) | (with_reducible refine pw_below_drewN ?_ _) | (with_reducible refine below_drew ?_)))⟩; clear HB hb; have HB := HBx; clear HBx; have HC1 := Aside0.mk hC1; have HC2 := Aside0.mk hC2; clear hC1 hC2)
    | (refine wpList_store_row rfl 61 (.tmp 12) (.tmp 43) rfl (w.heap.size + 1) #[.bool ec, .bool rc, .bool dc, .slice A1 E.length c1, .slice A2 R.length c2] rfl rfl 61 _ HT.out (by kernel_rfl) rfl (by simp [Value.oneCell']) ?_)
    | fail)
  exact bodyPost_ret (v := .tuple #[.agg #[.bool ec, .bool rc, .bool dc, .slice A1 E.length c1, .slice A2 R.length c2], .slice none 0 0, .string ⟨#[]⟩, .bool false, .int .i64 2]) (results_list (rs := [.cell 12 61, .tmp 13, .tmp 14, .tmp 15, .tmp 16]) (vs := [.agg #[.bool ec, .bool rc, .bool dc, .slice A1 E.length c1, .slice A2 R.length c2], _, _, _, _]) rfl (by simp) (.cell (w.heap.size + 1) 61 #[.bool ec, .bool rc, .bool dc, .slice A1 E.length c1, .slice A2 R.length c2] (0, 0) _ rfl (setRow_heap _ _ _ _ _ _ HT.out) Try.underlying61 rfl (by kernel_rfl) (.tmp (.tmp (.tmp (.tmp .nil)))))) rfl (TakeR.fail (CaseM.mk' (RB_row HC1.out HT.out (by decide) _) (RB_row HC2.out HT.out (by decide) _)) (below_setRow HB.out (by omega) _))
set_option maxHeartbeats 400000 in
set_option maxRecDepth 100000 in
theorem take_e2b (ec rc dc : Bool) (E R : List Bal) (AE : Option Addr) (cE : Nat) (AR : Option Addr) (cR : Nat) (m : Nat) (fr kind who : Int) (body : ByteArray) (w : World) (hE : kB.C w AE E.length E) (hR : kB.C w AR R.length R) (hcE : E.length ≤ cE) (hcR : R.length ≤ cR)
    (hlE : E.length ≤ 900000) (hlR : R.length ≤ 900000) (hm : m < 65536) (hf0 : 0 ≤ fr) (hf1 : fr ≤ 255) (hw0 : 0 ≤ who) (hw1 : who ≤ 255) (hk0 : -9223372036854775808 ≤ kind) (hk1 : kind ≤ 9223372036854775807) (hbs : body.size ≤ 9223372036854775807) (h0 : ¬ kind < 1) (h : 3 < kind) :
    Calls Try.prog 12 #[.agg #[.bool ec, .bool rc, .bool dc, .slice AE E.length cE, .slice AR R.length cR], .int .u16 (m : Int), .int .u8 fr, .int .i64 kind, .int .u8 who, .string body] w (TakeR (failA ⟨ec, rc, dc, E, R⟩ 2) w) := by
  have HE := Aside0.mk hE
  have HR := Aside0.mk hR
  clear hE hR
  have hlE : E.length ≤ 1000000 := by omega
  have hlR : R.length ≤ 1000000 := by omega
  have HB := Aside0.mk (Below.refl w.heap.size w)
  go_enter Try.func12, Try.ntmps12
  go_wp2_with (first
    | (go_at_call 38; refine (size_calls m _ hm).mono ?_; rintro e w1 ⟨rfl, m1, rfl⟩)
    | (go_at_call 36; refine (fail_comp ec rc dc E R AE cE AR cR 2 _ _ (by repeat (first | (with_reducible exact HS.out) | (with_reducible refine blk_drew ?_) | (with_reducible refine blk_drewN ?_ _) | (with_reducible refine blk_newg ?_; (simp; done)) | (with_reducible refine blk_alloc ?_ _))) (Kd.C_below HE.out (by repeat (first | (with_reducible exact HB.out) | (with_reducible refine below_alloc ?_ _) | (with_reducible refine pw_below_drewN ?_ _) | (with_reducible refine below_drew ?_)))) (Kd.C_below HR.out (by repeat (first | (with_reducible exact HB.out) | (with_reducible refine below_alloc ?_ _) | (with_reducible refine pw_below_drewN ?_ _) | (with_reducible refine below_drew ?_)))) hlE hlR).mono ?_; rintro e w2 ⟨A1, c1, A2, c2, rfl, hC1, hC2, hb⟩; have HT : Aside0 (w2.heap[w.heap.size + 1]? = some (.cells #[.bool false, .bool false, .bool false, .slice none 0 0, .slice none 0 0] 61 (0, 0))) := ⟨blk_below (by repeat (first | (with_reducible exact HT.out) | (with_reducible refine blk_drew ?_) | (with_reducible refine blk_drewN ?_ _) | (with_reducible refine blk_newg ?_; (simp; done)) | (with_reducible refine blk_alloc ?_ _))) hb⟩; have HBx : Aside0 (Below w.heap.size w w2) := ⟨below_back hb (by repeat (first | (with_reducible exact HB.out) | (with_reducible refine below_alloc ?_ _) | (with_reducible refine pw_below_drewN ?_ _) | (with_reducible refine below_drew ?_)))⟩; clear HB hb; have HB := HBx; clear HBx; have HC1 := Aside0.mk hC1; have HC2 := Aside0.mk hC2; clear hC1 hC2)
    | (refine wpList_store_row rfl 61 (.tmp 12) (.tmp 43) rfl (w.heap.size + 1) #[.bool ec, .bool rc, .bool dc, .slice A1 E.length c1, .slice A2 R.length c2] rfl rfl 61 _ HT.out (by kernel_rfl) rfl (by simp [Value.oneCell']) ?_)
    | fail)
  exact bodyPost_ret (v := .tuple #[.agg #[.bool ec, .bool rc, .bool dc, .slice A1 E.length c1, .slice A2 R.length c2], .slice none 0 0, .string ⟨#[]⟩, .bool false, .int .i64 2]) (results_list (rs := [.cell 12 61, .tmp 13, .tmp 14, .tmp 15, .tmp 16]) (vs := [.agg #[.bool ec, .bool rc, .bool dc, .slice A1 E.length c1, .slice A2 R.length c2], _, _, _, _]) rfl (by simp) (.cell (w.heap.size + 1) 61 #[.bool ec, .bool rc, .bool dc, .slice A1 E.length c1, .slice A2 R.length c2] (0, 0) _ rfl (setRow_heap _ _ _ _ _ _ HT.out) Try.underlying61 rfl (by kernel_rfl) (.tmp (.tmp (.tmp (.tmp .nil)))))) rfl (TakeR.fail (CaseM.mk' (RB_row HC1.out HT.out (by decide) _) (RB_row HC2.out HT.out (by decide) _)) (below_setRow HB.out (by omega) _))
set_option maxHeartbeats 400000 in
set_option maxRecDepth 100000 in
theorem take_e2c (ec rc dc : Bool) (E R : List Bal) (AE : Option Addr) (cE : Nat) (AR : Option Addr) (cR : Nat) (m : Nat) (fr kind who : Int) (body : ByteArray) (w : World) (hE : kB.C w AE E.length E) (hR : kB.C w AR R.length R) (hcE : E.length ≤ cE) (hcR : R.length ≤ cR)
    (hlE : E.length ≤ 900000) (hlR : R.length ≤ 900000) (hm : m < 65536) (hf0 : 0 ≤ fr) (hf1 : fr ≤ 255) (hw0 : 0 ≤ who) (hw1 : who ≤ 255) (hk0 : -9223372036854775808 ≤ kind) (hk1 : kind ≤ 9223372036854775807) (hbs : body.size ≤ 9223372036854775807) (h0 : ¬ kind < 1) (h1 : ¬ 3 < kind) (h : 1000 < body.size) :
    Calls Try.prog 12 #[.agg #[.bool ec, .bool rc, .bool dc, .slice AE E.length cE, .slice AR R.length cR], .int .u16 (m : Int), .int .u8 fr, .int .i64 kind, .int .u8 who, .string body] w (TakeR (failA ⟨ec, rc, dc, E, R⟩ 2) w) := by
  have HE := Aside0.mk hE
  have HR := Aside0.mk hR
  clear hE hR
  have hlE : E.length ≤ 1000000 := by omega
  have hlR : R.length ≤ 1000000 := by omega
  have HB := Aside0.mk (Below.refl w.heap.size w)
  go_enter Try.func12, Try.ntmps12
  go_wp2_with (first
    | (go_at_call 38; refine (size_calls m _ hm).mono ?_; rintro e w1 ⟨rfl, m1, rfl⟩)
    | (go_at_call 36; refine (fail_comp ec rc dc E R AE cE AR cR 2 _ _ (by repeat (first | (with_reducible exact HS.out) | (with_reducible refine blk_drew ?_) | (with_reducible refine blk_drewN ?_ _) | (with_reducible refine blk_newg ?_; (simp; done)) | (with_reducible refine blk_alloc ?_ _))) (Kd.C_below HE.out (by repeat (first | (with_reducible exact HB.out) | (with_reducible refine below_alloc ?_ _) | (with_reducible refine pw_below_drewN ?_ _) | (with_reducible refine below_drew ?_)))) (Kd.C_below HR.out (by repeat (first | (with_reducible exact HB.out) | (with_reducible refine below_alloc ?_ _) | (with_reducible refine pw_below_drewN ?_ _) | (with_reducible refine below_drew ?_)))) hlE hlR).mono ?_; rintro e w2 ⟨A1, c1, A2, c2, rfl, hC1, hC2, hb⟩; have HT : Aside0 (w2.heap[w.heap.size + 1]? = some (.cells #[.bool false, .bool false, .bool false, .slice none 0 0, .slice none 0 0] 61 (0, 0))) := ⟨blk_below (by repeat (first | (with_reducible exact HT.out) | (with_reducible refine blk_drew ?_) | (with_reducible refine blk_drewN ?_ _) | (with_reducible refine blk_newg ?_; (simp; done)) | (with_reducible refine blk_alloc ?_ _))) hb⟩; have HBx : Aside0 (Below w.heap.size w w2) := ⟨below_back hb (by repeat (first | (with_reducible exact HB.out) | (with_reducible refine below_alloc ?_ _) | (with_reducible refine pw_below_drewN ?_ _) | (with_reducible refine below_drew ?_)))⟩; clear HB hb; have HB := HBx; clear HBx; have HC1 := Aside0.mk hC1; have HC2 := Aside0.mk hC2; clear hC1 hC2)
    | (refine wpList_store_row rfl 61 (.tmp 12) (.tmp 43) rfl (w.heap.size + 1) #[.bool ec, .bool rc, .bool dc, .slice A1 E.length c1, .slice A2 R.length c2] rfl rfl 61 _ HT.out (by kernel_rfl) rfl (by simp [Value.oneCell']) ?_)
    | fail)
  exact bodyPost_ret (v := .tuple #[.agg #[.bool ec, .bool rc, .bool dc, .slice A1 E.length c1, .slice A2 R.length c2], .slice none 0 0, .string ⟨#[]⟩, .bool false, .int .i64 2]) (results_list (rs := [.cell 12 61, .tmp 13, .tmp 14, .tmp 15, .tmp 16]) (vs := [.agg #[.bool ec, .bool rc, .bool dc, .slice A1 E.length c1, .slice A2 R.length c2], _, _, _, _]) rfl (by simp) (.cell (w.heap.size + 1) 61 #[.bool ec, .bool rc, .bool dc, .slice A1 E.length c1, .slice A2 R.length c2] (0, 0) _ rfl (setRow_heap _ _ _ _ _ _ HT.out) Try.underlying61 rfl (by kernel_rfl) (.tmp (.tmp (.tmp (.tmp .nil)))))) rfl (TakeR.fail (CaseM.mk' (RB_row HC1.out HT.out (by decide) _) (RB_row HC2.out HT.out (by decide) _)) (below_setRow HB.out (by omega) _))
set_option maxHeartbeats 400000 in
set_option maxRecDepth 100000 in
theorem take_e10a (ec rc dc : Bool) (E R : List Bal) (AE : Option Addr) (cE : Nat) (AR : Option Addr) (cR : Nat) (m : Nat) (fr kind who : Int) (body : ByteArray) (w : World) (hE : kB.C w AE E.length E) (hR : kB.C w AR R.length R) (hcE : E.length ≤ cE) (hcR : R.length ≤ cR)
    (hlE : E.length ≤ 900000) (hlR : R.length ≤ 900000) (hm : m < 65536) (hf0 : 0 ≤ fr) (hf1 : fr ≤ 255) (hw0 : 0 ≤ who) (hw1 : who ≤ 255) (hk0 : -9223372036854775808 ≤ kind) (hk1 : kind ≤ 9223372036854775807) (hbs : body.size ≤ 9223372036854775807) (g0 : ¬ kind < 1) (g1 : ¬ 3 < kind) (g2 : ¬ 1000 < body.size) (hW : hasB m who = false) :
    Calls Try.prog 12 #[.agg #[.bool ec, .bool rc, .bool dc, .slice AE E.length cE, .slice AR R.length cR], .int .u16 (m : Int), .int .u8 fr, .int .i64 kind, .int .u8 who, .string body] w (TakeR (failA ⟨ec, rc, dc, E, R⟩ 10) w) := by
  have HE := Aside0.mk hE
  have HR := Aside0.mk hR
  clear hE hR
  have hlE : E.length ≤ 1000000 := by omega
  have hlR : R.length ≤ 1000000 := by omega
  have HB := Aside0.mk (Below.refl w.heap.size w)
  have tok1 : True := trivial
  have HW := Aside0.mk hW
  clear hW
  go_enter Try.func12, Try.ntmps12
  go_wp2_with (first
    | (go_at_call 38; refine (size_calls m _ hm).mono ?_; rintro e w1 ⟨rfl, m1, rfl⟩)
    | (go_at_call 39; have _t := tok1; clear _t tok1; refine (has_calls m who _ hm hw0).mono ?_; rw [HW.out]; rintro e w3 ⟨rfl, m3, rfl⟩)
    | (go_at_call 36; refine (fail_comp ec rc dc E R AE cE AR cR 10 _ _ (by repeat (first | (with_reducible exact HS.out) | (with_reducible refine blk_drew ?_) | (with_reducible refine blk_drewN ?_ _) | (with_reducible refine blk_newg ?_; (simp; done)) | (with_reducible refine blk_alloc ?_ _))) (Kd.C_below HE.out (by repeat (first | (with_reducible exact HB.out) | (with_reducible refine below_alloc ?_ _) | (with_reducible refine pw_below_drewN ?_ _) | (with_reducible refine below_drew ?_)))) (Kd.C_below HR.out (by repeat (first | (with_reducible exact HB.out) | (with_reducible refine below_alloc ?_ _) | (with_reducible refine pw_below_drewN ?_ _) | (with_reducible refine below_drew ?_)))) hlE hlR).mono ?_; rintro e w2 ⟨A1, c1, A2, c2, rfl, hC1, hC2, hb⟩; have HT : Aside0 (w2.heap[w.heap.size + 1]? = some (.cells #[.bool false, .bool false, .bool false, .slice none 0 0, .slice none 0 0] 61 (0, 0))) := ⟨blk_below (by repeat (first | (with_reducible exact HT.out) | (with_reducible refine blk_drew ?_) | (with_reducible refine blk_drewN ?_ _) | (with_reducible refine blk_newg ?_; (simp; done)) | (with_reducible refine blk_alloc ?_ _))) hb⟩; have HBx : Aside0 (Below w.heap.size w w2) := ⟨below_back hb (by repeat (first | (with_reducible exact HB.out) | (with_reducible refine below_alloc ?_ _) | (with_reducible refine pw_below_drewN ?_ _) | (with_reducible refine below_drew ?_)))⟩; clear HB hb; have HB := HBx; clear HBx; have HC1 := Aside0.mk hC1; have HC2 := Aside0.mk hC2; clear hC1 hC2)
    | (refine wpList_store_row rfl 61 (.tmp 12) (.tmp 70) rfl (w.heap.size + 1) #[.bool ec, .bool rc, .bool dc, .slice A1 E.length c1, .slice A2 R.length c2] rfl rfl 61 _ HT.out (by kernel_rfl) rfl (by simp [Value.oneCell']) ?_)
    | fail)
  exact bodyPost_ret (v := .tuple #[.agg #[.bool ec, .bool rc, .bool dc, .slice A1 E.length c1, .slice A2 R.length c2], .slice none 0 0, .string ⟨#[]⟩, .bool false, .int .i64 10]) (results_list (rs := [.cell 12 61, .tmp 13, .tmp 14, .tmp 15, .tmp 16]) (vs := [.agg #[.bool ec, .bool rc, .bool dc, .slice A1 E.length c1, .slice A2 R.length c2], _, _, _, _]) rfl (by simp) (.cell (w.heap.size + 1) 61 #[.bool ec, .bool rc, .bool dc, .slice A1 E.length c1, .slice A2 R.length c2] (0, 0) _ rfl (setRow_heap _ _ _ _ _ _ HT.out) Try.underlying61 rfl (by kernel_rfl) (.tmp (.tmp (.tmp (.tmp .nil)))))) rfl (TakeR.fail (CaseM.mk' (RB_row HC1.out HT.out (by decide) _) (RB_row HC2.out HT.out (by decide) _)) (below_setRow HB.out (by omega) _))
set_option maxHeartbeats 400000 in
set_option maxRecDepth 100000 in
theorem take_e10b (ec rc dc : Bool) (E R : List Bal) (AE : Option Addr) (cE : Nat) (AR : Option Addr) (cR : Nat) (m : Nat) (fr kind who : Int) (body : ByteArray) (w : World) (hE : kB.C w AE E.length E) (hR : kB.C w AR R.length R) (hcE : E.length ≤ cE) (hcR : R.length ≤ cR)
    (hlE : E.length ≤ 900000) (hlR : R.length ≤ 900000) (hm : m < 65536) (hf0 : 0 ≤ fr) (hf1 : fr ≤ 255) (hw0 : 0 ≤ who) (hw1 : who ≤ 255) (hk0 : -9223372036854775808 ≤ kind) (hk1 : kind ≤ 9223372036854775807) (hbs : body.size ≤ 9223372036854775807) (g0 : ¬ kind < 1) (g1 : ¬ 3 < kind) (g2 : ¬ 1000 < body.size) (hW : hasB m who = true) (hF : hasB m fr = false) :
    Calls Try.prog 12 #[.agg #[.bool ec, .bool rc, .bool dc, .slice AE E.length cE, .slice AR R.length cR], .int .u16 (m : Int), .int .u8 fr, .int .i64 kind, .int .u8 who, .string body] w (TakeR (failA ⟨ec, rc, dc, E, R⟩ 10) w) := by
  have HE := Aside0.mk hE
  have HR := Aside0.mk hR
  clear hE hR
  have hlE : E.length ≤ 1000000 := by omega
  have hlR : R.length ≤ 1000000 := by omega
  have HB := Aside0.mk (Below.refl w.heap.size w)
  have tok1 : True := trivial
  have HW := Aside0.mk hW
  clear hW
  have HF := Aside0.mk hF
  clear hF
  go_enter Try.func12, Try.ntmps12
  go_wp2_with (first
    | (go_at_call 38; refine (size_calls m _ hm).mono ?_; rintro e w1 ⟨rfl, m1, rfl⟩)
    | (go_at_call 39; have _t := tok1; clear _t tok1; refine (has_calls m who _ hm hw0).mono ?_; rw [HW.out]; rintro e w3 ⟨rfl, m3, rfl⟩)
    | (go_at_call 39; refine (has_calls m fr _ hm hf0).mono ?_; rw [HF.out]; rintro e w4 ⟨rfl, m4, rfl⟩)
    | (go_at_call 36; refine (fail_comp ec rc dc E R AE cE AR cR 10 _ _ (by repeat (first | (with_reducible exact HS.out) | (with_reducible refine blk_drew ?_) | (with_reducible refine blk_drewN ?_ _) | (with_reducible refine blk_newg ?_; (simp; done)) | (with_reducible refine blk_alloc ?_ _))) (Kd.C_below HE.out (by repeat (first | (with_reducible exact HB.out) | (with_reducible refine below_alloc ?_ _) | (with_reducible refine pw_below_drewN ?_ _) | (with_reducible refine below_drew ?_)))) (Kd.C_below HR.out (by repeat (first | (with_reducible exact HB.out) | (with_reducible refine below_alloc ?_ _) | (with_reducible refine pw_below_drewN ?_ _) | (with_reducible refine below_drew ?_)))) hlE hlR).mono ?_; rintro e w2 ⟨A1, c1, A2, c2, rfl, hC1, hC2, hb⟩; have HT : Aside0 (w2.heap[w.heap.size + 1]? = some (.cells #[.bool false, .bool false, .bool false, .slice none 0 0, .slice none 0 0] 61 (0, 0))) := ⟨blk_below (by repeat (first | (with_reducible exact HT.out) | (with_reducible refine blk_drew ?_) | (with_reducible refine blk_drewN ?_ _) | (with_reducible refine blk_newg ?_; (simp; done)) | (with_reducible refine blk_alloc ?_ _))) hb⟩; have HBx : Aside0 (Below w.heap.size w w2) := ⟨below_back hb (by repeat (first | (with_reducible exact HB.out) | (with_reducible refine below_alloc ?_ _) | (with_reducible refine pw_below_drewN ?_ _) | (with_reducible refine below_drew ?_)))⟩; clear HB hb; have HB := HBx; clear HBx; have HC1 := Aside0.mk hC1; have HC2 := Aside0.mk hC2; clear hC1 hC2)
    | (refine wpList_store_row rfl 61 (.tmp 12) (.tmp 70) rfl (w.heap.size + 1) #[.bool ec, .bool rc, .bool dc, .slice A1 E.length c1, .slice A2 R.length c2] rfl rfl 61 _ HT.out (by kernel_rfl) rfl (by simp [Value.oneCell']) ?_)
    | fail)
  exact bodyPost_ret (v := .tuple #[.agg #[.bool ec, .bool rc, .bool dc, .slice A1 E.length c1, .slice A2 R.length c2], .slice none 0 0, .string ⟨#[]⟩, .bool false, .int .i64 10]) (results_list (rs := [.cell 12 61, .tmp 13, .tmp 14, .tmp 15, .tmp 16]) (vs := [.agg #[.bool ec, .bool rc, .bool dc, .slice A1 E.length c1, .slice A2 R.length c2], _, _, _, _]) rfl (by simp) (.cell (w.heap.size + 1) 61 #[.bool ec, .bool rc, .bool dc, .slice A1 E.length c1, .slice A2 R.length c2] (0, 0) _ rfl (setRow_heap _ _ _ _ _ _ HT.out) Try.underlying61 rfl (by kernel_rfl) (.tmp (.tmp (.tmp (.tmp .nil)))))) rfl (TakeR.fail (CaseM.mk' (RB_row HC1.out HT.out (by decide) _) (RB_row HC2.out HT.out (by decide) _)) (below_setRow HB.out (by omega) _))
set_option maxHeartbeats 400000 in
set_option maxRecDepth 100000 in
theorem take_e10c (ec rc dc : Bool) (E R : List Bal) (AE : Option Addr) (cE : Nat) (AR : Option Addr) (cR : Nat) (m : Nat) (fr kind who : Int) (body : ByteArray) (w : World) (hE : kB.C w AE E.length E) (hR : kB.C w AR R.length R) (hcE : E.length ≤ cE) (hcR : R.length ≤ cR)
    (hlE : E.length ≤ 900000) (hlR : R.length ≤ 900000) (hm : m < 65536) (hf0 : 0 ≤ fr) (hf1 : fr ≤ 255) (hw0 : 0 ≤ who) (hw1 : who ≤ 255) (hk0 : -9223372036854775808 ≤ kind) (hk1 : kind ≤ 9223372036854775807) (hbs : body.size ≤ 9223372036854775807) (g0 : ¬ kind < 1) (g1 : ¬ 3 < kind) (g2 : ¬ 1000 < body.size) (hW : hasB m who = true) (hF : hasB m fr = true) (hk : kind = 1) (hwf : who ≠ fr) :
    Calls Try.prog 12 #[.agg #[.bool ec, .bool rc, .bool dc, .slice AE E.length cE, .slice AR R.length cR], .int .u16 (m : Int), .int .u8 fr, .int .i64 kind, .int .u8 who, .string body] w (TakeR (failA ⟨ec, rc, dc, E, R⟩ 10) w) := by
  have HE := Aside0.mk hE
  have HR := Aside0.mk hR
  clear hE hR
  have hlE : E.length ≤ 1000000 := by omega
  have hlR : R.length ≤ 1000000 := by omega
  have HB := Aside0.mk (Below.refl w.heap.size w)
  have tok1 : True := trivial
  have HW := Aside0.mk hW
  clear hW
  have HF := Aside0.mk hF
  clear hF
  subst hk
  have hne : (who != fr) = true := by simpa using hwf
  go_enter Try.func12, Try.ntmps12
  go_wp2_with (first
    | (go_at_call 38; refine (size_calls m _ hm).mono ?_; rintro e w1 ⟨rfl, m1, rfl⟩)
    | (go_at_call 39; have _t := tok1; clear _t tok1; refine (has_calls m who _ hm hw0).mono ?_; rw [HW.out]; rintro e w3 ⟨rfl, m3, rfl⟩)
    | (go_at_call 39; refine (has_calls m fr _ hm hf0).mono ?_; rw [HF.out]; rintro e w4 ⟨rfl, m4, rfl⟩)
    | (go_at_call 36; refine (fail_comp ec rc dc E R AE cE AR cR 10 _ _ (by repeat (first | (with_reducible exact HS.out) | (with_reducible refine blk_drew ?_) | (with_reducible refine blk_drewN ?_ _) | (with_reducible refine blk_newg ?_; (simp; done)) | (with_reducible refine blk_alloc ?_ _))) (Kd.C_below HE.out (by repeat (first | (with_reducible exact HB.out) | (with_reducible refine below_alloc ?_ _) | (with_reducible refine pw_below_drewN ?_ _) | (with_reducible refine below_drew ?_)))) (Kd.C_below HR.out (by repeat (first | (with_reducible exact HB.out) | (with_reducible refine below_alloc ?_ _) | (with_reducible refine pw_below_drewN ?_ _) | (with_reducible refine below_drew ?_)))) hlE hlR).mono ?_; rintro e w2 ⟨A1, c1, A2, c2, rfl, hC1, hC2, hb⟩; have HT : Aside0 (w2.heap[w.heap.size + 1]? = some (.cells #[.bool false, .bool false, .bool false, .slice none 0 0, .slice none 0 0] 61 (0, 0))) := ⟨blk_below (by repeat (first | (with_reducible exact HT.out) | (with_reducible refine blk_drew ?_) | (with_reducible refine blk_drewN ?_ _) | (with_reducible refine blk_newg ?_; (simp; done)) | (with_reducible refine blk_alloc ?_ _))) hb⟩; have HBx : Aside0 (Below w.heap.size w w2) := ⟨below_back hb (by repeat (first | (with_reducible exact HB.out) | (with_reducible refine below_alloc ?_ _) | (with_reducible refine pw_below_drewN ?_ _) | (with_reducible refine below_drew ?_)))⟩; clear HB hb; have HB := HBx; clear HBx; have HC1 := Aside0.mk hC1; have HC2 := Aside0.mk hC2; clear hC1 hC2)
    | (refine wpList_store_row rfl 61 (.tmp 12) (.tmp 70) rfl (w.heap.size + 1) #[.bool ec, .bool rc, .bool dc, .slice A1 E.length c1, .slice A2 R.length c2] rfl rfl 61 _ HT.out (by kernel_rfl) rfl (by simp [Value.oneCell']) ?_)
    | fail)
  exact bodyPost_ret (v := .tuple #[.agg #[.bool ec, .bool rc, .bool dc, .slice A1 E.length c1, .slice A2 R.length c2], .slice none 0 0, .string ⟨#[]⟩, .bool false, .int .i64 10]) (results_list (rs := [.cell 12 61, .tmp 13, .tmp 14, .tmp 15, .tmp 16]) (vs := [.agg #[.bool ec, .bool rc, .bool dc, .slice A1 E.length c1, .slice A2 R.length c2], _, _, _, _]) rfl (by simp) (.cell (w.heap.size + 1) 61 #[.bool ec, .bool rc, .bool dc, .slice A1 E.length c1, .slice A2 R.length c2] (0, 0) _ rfl (setRow_heap _ _ _ _ _ _ HT.out) Try.underlying61 rfl (by kernel_rfl) (.tmp (.tmp (.tmp (.tmp .nil)))))) rfl (TakeR.fail (CaseM.mk' (RB_row HC1.out HT.out (by decide) _) (RB_row HC2.out HT.out (by decide) _)) (below_setRow HB.out (by omega) _))
set_option maxHeartbeats 400000 in
set_option maxRecDepth 100000 in
theorem take_e6s (ec rc dc : Bool) (E R : List Bal) (AE : Option Addr) (cE : Nat) (AR : Option Addr) (cR : Nat) (m : Nat) (fr kind who : Int) (body : ByteArray) (w : World) (hE : kB.C w AE E.length E) (hR : kB.C w AR R.length R) (hcE : E.length ≤ cE) (hcR : R.length ≤ cR)
    (hlE : E.length ≤ 900000) (hlR : R.length ≤ 900000) (hm : m < 65536) (hf0 : 0 ≤ fr) (hf1 : fr ≤ 255) (hw0 : 0 ≤ who) (hw1 : who ≤ 255) (hk0 : -9223372036854775808 ≤ kind) (hk1 : kind ≤ 9223372036854775807) (hbs : body.size ≤ 9223372036854775807) (g0 : ¬ kind < 1) (g1 : ¬ 3 < kind) (g2 : ¬ 1000 < body.size) (hW : hasB m who = true) (hF : hasB m fr = true) (hk : kind = 1) (hwf : who = fr) (he : ec = true) :
    Calls Try.prog 12 #[.agg #[.bool ec, .bool rc, .bool dc, .slice AE E.length cE, .slice AR R.length cR], .int .u16 (m : Int), .int .u8 fr, .int .i64 kind, .int .u8 who, .string body] w (TakeR (failA ⟨ec, rc, dc, E, R⟩ 6) w) := by
  have HE := Aside0.mk hE
  have HR := Aside0.mk hR
  clear hE hR
  have hlE : E.length ≤ 1000000 := by omega
  have hlR : R.length ≤ 1000000 := by omega
  have HB := Aside0.mk (Below.refl w.heap.size w)
  subst hk
  subst he
  subst hwf
  have tok1 : True := trivial
  have HW := Aside0.mk hW
  clear hW
  have hne : (who != who) = false := by simp
  go_enter Try.func12, Try.ntmps12
  go_wp2_with (first
    | (go_at_call 38; refine (size_calls m _ hm).mono ?_; rintro e w1 ⟨rfl, m1, rfl⟩)
    | (go_at_call 39; have _t := tok1; clear _t tok1; refine (has_calls m who _ hm hw0).mono ?_; rw [HW.out]; rintro e w3 ⟨rfl, m3, rfl⟩)
    | (go_at_call 39; refine (has_calls m who _ hm hw0).mono ?_; rw [HW.out]; rintro e w4 ⟨rfl, m4, rfl⟩)
    | (go_at_call 36; refine (fail_comp true rc dc E R AE cE AR cR 6 _ _ (by repeat (first | (with_reducible exact HS.out) | (with_reducible refine blk_drew ?_) | (with_reducible refine blk_drewN ?_ _) | (with_reducible refine blk_newg ?_; (simp; done)) | (with_reducible refine blk_alloc ?_ _))) (Kd.C_below HE.out (by repeat (first | (with_reducible exact HB.out) | (with_reducible refine below_alloc ?_ _) | (with_reducible refine pw_below_drewN ?_ _) | (with_reducible refine below_drew ?_)))) (Kd.C_below HR.out (by repeat (first | (with_reducible exact HB.out) | (with_reducible refine below_alloc ?_ _) | (with_reducible refine pw_below_drewN ?_ _) | (with_reducible refine below_drew ?_)))) hlE hlR).mono ?_; rintro e w2 ⟨A1, c1, A2, c2, rfl, hC1, hC2, hb⟩; have HT : Aside0 (w2.heap[w.heap.size + 1]? = some (.cells #[.bool false, .bool false, .bool false, .slice none 0 0, .slice none 0 0] 61 (0, 0))) := ⟨blk_below (by repeat (first | (with_reducible exact HT.out) | (with_reducible refine blk_drew ?_) | (with_reducible refine blk_drewN ?_ _) | (with_reducible refine blk_newg ?_; (simp; done)) | (with_reducible refine blk_alloc ?_ _))) hb⟩; have HBx : Aside0 (Below w.heap.size w w2) := ⟨below_back hb (by repeat (first | (with_reducible exact HB.out) | (with_reducible refine below_alloc ?_ _) | (with_reducible refine pw_below_drewN ?_ _) | (with_reducible refine below_drew ?_)))⟩; clear HB hb; have HB := HBx; clear HBx; have HC1 := Aside0.mk hC1; have HC2 := Aside0.mk hC2; clear hC1 hC2)
    | (refine wpList_store_row rfl 61 (.tmp 12) (.tmp 84) rfl (w.heap.size + 1) #[.bool true, .bool rc, .bool dc, .slice A1 E.length c1, .slice A2 R.length c2] rfl rfl 61 _ HT.out (by kernel_rfl) rfl (by simp [Value.oneCell']) ?_)
    | fail)
  exact bodyPost_ret (v := .tuple #[.agg #[.bool true, .bool rc, .bool dc, .slice A1 E.length c1, .slice A2 R.length c2], .slice none 0 0, .string ⟨#[]⟩, .bool false, .int .i64 6]) (results_list (rs := [.cell 12 61, .tmp 13, .tmp 14, .tmp 15, .tmp 16]) (vs := [.agg #[.bool true, .bool rc, .bool dc, .slice A1 E.length c1, .slice A2 R.length c2], _, _, _, _]) rfl (by simp) (.cell (w.heap.size + 1) 61 #[.bool true, .bool rc, .bool dc, .slice A1 E.length c1, .slice A2 R.length c2] (0, 0) _ rfl (setRow_heap _ _ _ _ _ _ HT.out) Try.underlying61 rfl (by kernel_rfl) (.tmp (.tmp (.tmp (.tmp .nil)))))) rfl (TakeR.fail (CaseM.mk' (RB_row HC1.out HT.out (by decide) _) (RB_row HC2.out HT.out (by decide) _)) (below_setRow HB.out (by omega) _))
end Go.Proofs.Ytbaknecnkipooaa.Vot
