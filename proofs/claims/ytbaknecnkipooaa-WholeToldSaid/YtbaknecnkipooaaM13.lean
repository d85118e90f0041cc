/- Votes: what Take comes to. Tables' openings as they lie; facts about ballots that last; events. -/
import Derived.Test.YtbaknecnkipooaaM07
import Derived.Test.YtbaknecnkipooaaM08
import Derived.Test.YtbaknecnkipooaaM12
namespace Go.Proofs.Ytbaknecnkipooaa.Vot
open Go Go.RowKit Go.Proofs.YtbaknecnkipooaaW.PrintWords Go.Proofs.Ytbaknecnkipooaa.Cnt Go.Proofs.Ytbaknecnkipooaa.Opn
set_option linter.unusedVariables false
set_option linter.unusedSimpArgs false
theorem TakeR.eq {a b : Ans} {w : World} {en : Ending} {w' : World} (h : TakeR a w en w') (e : a = b) : TakeR b w en w' := e ▸ h
theorem take_calls (c : Cas) (AE : Option Addr) (cE : Nat) (AR : Option Addr) (cR : Nat) (m : Nat) (fr kind who : Int) (body : ByteArray) (w : World) (hE : kB.C w AE c.echoes.length c.echoes) (hR : kB.C w AR c.readies.length c.readies) (hcE : c.echoes.length ≤ cE) (hcR : c.readies.length ≤ cR)
    (hlE : c.echoes.length ≤ 900000) (hlR : c.readies.length ≤ 900000) (hm : m < 65536) (hf0 : 0 ≤ fr) (hf1 : fr ≤ 255) (hw0 : 0 ≤ who) (hw1 : who ≤ 255) (hk0 : -9223372036854775808 ≤ kind) (hk1 : kind ≤ 9223372036854775807) (hbs : body.size ≤ 9223372036854775807)
    (hWE : whoOk c.echoes) (hWR : whoOk c.readies) :
    Calls Try.prog 12 #[.agg #[.bool c.echoed, .bool c.readied, .bool c.done, .slice AE c.echoes.length cE, .slice AR c.readies.length cR], .int .u16 (m : Int), .int .u8 fr, .int .i64 kind, .int .u8 who, .string body] w (TakeR (takeM c m fr kind who body) w) := by
  obtain ⟨ec, rc, dc, E, R⟩ := c
  simp only at hE hR hcE hcR hlE hlR hWE hWR ⊢
  unfold takeM
  by_cases g0 : kind < 1
  · rw [if_pos (Or.inl g0)]
    exact take_e2a ec rc dc E R AE cE AR cR m fr kind who body w hE hR hcE hcR hlE hlR hm hf0 hf1 hw0 hw1 hk0 hk1 hbs g0
  by_cases g1 : 3 < kind
  · rw [if_pos (Or.inr (Or.inl g1))]
    exact take_e2b ec rc dc E R AE cE AR cR m fr kind who body w hE hR hcE hcR hlE hlR hm hf0 hf1 hw0 hw1 hk0 hk1 hbs g0 g1
  by_cases g2 : 1000 < body.size
  · rw [if_pos (Or.inr (Or.inr g2))]
    exact take_e2c ec rc dc E R AE cE AR cR m fr kind who body w hE hR hcE hcR hlE hlR hm hf0 hf1 hw0 hw1 hk0 hk1 hbs g0 g1 g2
  rw [if_neg (by rintro (h | h | h) <;> contradiction)]
  cases hW : hasB m who with
  | false =>
    rw [if_pos (Or.inl rfl)]
    exact take_e10a ec rc dc E R AE cE AR cR m fr kind who body w hE hR hcE hcR hlE hlR hm hf0 hf1 hw0 hw1 hk0 hk1 hbs g0 g1 g2 hW
  | true =>
  cases hF : hasB m fr with
  | false =>
    rw [if_pos (Or.inr (Or.inl rfl))]
    exact take_e10b ec rc dc E R AE cE AR cR m fr kind who body w hE hR hcE hcR hlE hlR hm hf0 hf1 hw0 hw1 hk0 hk1 hbs g0 g1 g2 hW hF
  | true =>
  by_cases k1 : kind = 1
  · by_cases hwf : who = fr
    · rw [if_neg (by rintro (h | h | h); cases h; cases h; exact h.2 hwf), if_pos k1]
      cases he : ec with
      | true =>
        subst he
        exact take_e6s true rc dc E R AE cE AR cR m fr kind who body w hE hR hcE hcR hlE hlR hm hf0 hf1 hw0 hw1 hk0 hk1 hbs g0 g1 g2 hW hF k1 hwf rfl
      | false =>
        subst he
        exact take_send false rc dc E R AE cE AR cR m fr kind who body w hE hR hcE hcR hlE hlR hm hf0 hf1 hw0 hw1 hk0 hk1 hbs g0 g1 g2 hW hF k1 hwf rfl
    · rw [if_pos (Or.inr (Or.inr ⟨k1, hwf⟩))]
      exact take_e10c ec rc dc E R AE cE AR cR m fr kind who body w hE hR hcE hcR hlE hlR hm hf0 hf1 hw0 hw1 hk0 hk1 hbs g0 g1 g2 hW hF k1 hwf
  rw [if_neg (by rintro (h | h | h); cases h; cases h; exact k1 h.1), if_neg k1]
  by_cases k2 : kind = 2
  · rw [if_pos k2]
    unfold echoA
    cases hv : votedL E who with
    | true =>
      rw [if_pos rfl]
      exact take_echo_err ec rc dc E R AE cE AR cR m fr kind who body w hE hR hcE hcR hlE hlR hm hf0 hf1 hw0 hw1 hk0 hk1 hbs g0 g1 g2 hW hF k2 hWE hv
    | false =>
      rw [if_neg (by decide)]
      by_cases hge : echoes (sz m : Nat) ≤ manyL E who body
      · refine (take_echo_ge ec rc dc E R AE cE AR cR m fr kind who body w hE hR hcE hcR hlE hlR hm hf0 hf1 hw0 hw1 hk0 hk1 hbs g0 g1 g2 hW hF k2 hWE hv hge).mono fun en w' h => h.eq ?_
        rw [decide_eq_true hge]
        cases rc <;> rfl
      · refine (take_echo_lt ec rc dc E R AE cE AR cR m fr kind who body w hE hR hcE hcR hlE hlR hm hf0 hf1 hw0 hw1 hk0 hk1 hbs g0 g1 g2 hW hF k2 hWE hv hge).mono fun en w' h => h.eq ?_
        rw [decide_eq_false hge]
        cases rc <;> rfl
  · rw [if_neg k2]
    have k3 : kind = 3 := by omega
    unfold readyA
    cases hv : votedL R who with
    | true =>
      rw [if_pos rfl]
      exact take_ready_err ec rc dc E R AE cE AR cR m fr kind who body w hE hR hcE hcR hlE hlR hm hf0 hf1 hw0 hw1 hk0 hk1 hbs g0 g1 g2 hW hF k3 hWR hv
    | false =>
      rw [if_neg (by decide)]
      have hfr := faulty_range (sz m : Nat)
      by_cases hge : faulty (sz m : Nat) + 1 ≤ manyL R who body
      · cases hd : dc with
        | true =>
          subst hd
          refine (take_ready_ge_done ec rc true E R AE cE AR cR m fr kind who body w hE hR hcE hcR hlE hlR hm hf0 hf1 hw0 hw1 hk0 hk1 hbs g0 g1 g2 hW hF k3 hWR hv hge rfl).mono fun en w' h => h.eq ?_
          rw [decide_eq_true hge]
          cases rc <;> rfl
        | false =>
          subst hd
          by_cases hen : 2 * faulty (sz m : Nat) + 1 ≤ manyL R who body
          · refine (take_ready_ge_enough ec rc false E R AE cE AR cR m fr kind who body w hE hR hcE hcR hlE hlR hm hf0 hf1 hw0 hw1 hk0 hk1 hbs g0 g1 g2 hW hF k3 hWR hv hge rfl hen).mono fun en w' h => h.eq ?_
            have hb : doneB ⟨ec, rc, false, E, R⟩ (sz m : Nat) who body = true := by simp [doneB, hen]
            rw [decide_eq_true hge, hb]
            cases rc <;> rfl
          · refine (take_ready_ge_few ec rc false E R AE cE AR cR m fr kind who body w hE hR hcE hcR hlE hlR hm hf0 hf1 hw0 hw1 hk0 hk1 hbs g0 g1 g2 hW hF k3 hWR hv hge rfl hen).mono fun en w' h => h.eq ?_
            have hb : doneB ⟨ec, rc, false, E, R⟩ (sz m : Nat) who body = false := by simp [doneB]; omega
            rw [decide_eq_true hge, hb]
            cases rc <;> rfl
      · cases hd : dc with
        | true =>
          subst hd
          refine (take_ready_lt_done ec rc true E R AE cE AR cR m fr kind who body w hE hR hcE hcR hlE hlR hm hf0 hf1 hw0 hw1 hk0 hk1 hbs g0 g1 g2 hW hF k3 hWR hv hge rfl).mono fun en w' h => h.eq ?_
          rw [decide_eq_false hge]
          cases rc <;> rfl
        | false =>
          subst hd
          have hen : ¬ 2 * faulty (sz m : Nat) + 1 ≤ manyL R who body := by omega
          refine (take_ready_lt_few ec rc false E R AE cE AR cR m fr kind who body w hE hR hcE hcR hlE hlR hm hf0 hf1 hw0 hw1 hk0 hk1 hbs g0 g1 g2 hW hF k3 hWR hv hge rfl hen).mono fun en w' h => h.eq ?_
          have hb : doneB ⟨ec, rc, false, E, R⟩ (sz m : Nat) who body = false := by simp [doneB]; omega
          rw [decide_eq_false hge, hb]
          cases rc <;> rfl
end Go.Proofs.Ytbaknecnkipooaa.Vot
namespace Go.Proofs.Ytbaknecnkipooaa.Tld
open Go Go.RowKit Go.Proofs.YtbaknecnkipooaaW.PrintWords Go.Proofs.Ytbaknecnkipooaa.Sep Go.Proofs.Ytbaknecnkipooaa.Obj Go.Proofs.Ytbaknecnkipooaa.Vot
set_option linter.unusedVariables false
set_option linter.unusedSimpArgs false
structure RC where
  c : Cas
  A1 : Option Addr
  c1 : Nat
  A2 : Option Addr
  c2 : Nat
def RBs (w : World) (x : RC) : Prop := RB w (.slice x.A1 x.c.echoes.length x.c1) x.c.echoes ∧ RB w (.slice x.A2 x.c.readies.length x.c2) x.c.readies
def Kept2 (t : TypeId) : Prop := t = 113 ∨ t = 102
def BalT (w : World) (k : Nat) : Prop := ∃ cells t, Kept2 t ∧ w.heap[k]? = some (.cells cells t (0, 0))
theorem RB_keep {w w' : World} {v : Value} {l : List Bal} (h : RB w v l) (hk : ∀ k, k < w.heap.size → BalT w k → w'.heap[k]? = w.heap[k]?) : RB w' v l :=
  Kd.R_mono (Kd.R_move (Kd.R_bound h) (fun k ⟨_, _, h3, q, hq, cells, hc⟩ => hk k h3 ⟨cells, _, .inl rfl, by rw [hc, tyB' q hq]⟩)) (fun _ _ => trivial)
theorem RBs_frm {S : Nat → Prop} {w w' : World} {x : RC} (h : RBs w x) (hf : Frm S w w') (hS : ∀ k, S k → ¬ BalT w k) : RBs w' x :=
  ⟨RB_keep h.1 (fun k hk hb => hf.block k hk (fun hs => hS k hs hb)), RB_keep h.2 (fun k hk hb => hf.block k hk (fun hs => hS k hs hb))⟩
theorem RBs_below {w w' : World} {x : RC} (h : RBs w x) (hb : Below w.heap.size w w') : RBs w' x := ⟨Kd.R_below h.1 hb, Kd.R_below h.2 hb⟩
theorem RBs_reads {w : World} {x : RC} (h : RBs w x) : x.c.echoes.length ≤ x.c1 ∧ kB.C w x.A1 x.c.echoes.length x.c.echoes ∧ x.c.readies.length ≤ x.c2 ∧ kB.C w x.A2 x.c.readies.length x.c.readies := by
  obtain ⟨_, l1, r1⟩ := Kd.R_reads' h.1
  obtain ⟨_, l2, r2⟩ := Kd.R_reads' h.2
  exact ⟨l1, r1, l2, r2⟩
def NoBal (A : Asr) : Prop := ∀ w S, A.P w S → A.P w (fun k => S k ∧ ¬ BalT w k)
theorem noBal_blk {g : Nat} {cs : Array Value} {t : TypeId} (ht : ¬ Kept2 t) : NoBal (Sep.blk g cs t) := by
  intro w S h
  refine ⟨h.1, h.2, ?_⟩
  rintro ⟨cells, q, hq, hc⟩
  rw [h.1] at hc
  injection hc with hc
  injection hc with _ hc
  exact ht (hc ▸ hq)
theorem noBal_row {α : Type} {d : Kd α} {e : Nat} {v : Value} {xs : List α} (ht : ∀ q, q ∈ e :: d.E → ¬ Kept2 q) : NoBal (Sep.row d e v xs) := by
  intro w S h
  refine Kd.R_mono (Kd.R_bound h) (fun k hk => ⟨hk.1, ?_⟩)
  obtain ⟨_, _, _, q, hq, cells, hc⟩ := hk
  rintro ⟨cells', q', hq', hc'⟩
  rw [hc] at hc'
  injection hc' with hc'
  injection hc' with _ hc'
  exact ht q hq (hc' ▸ hq')
theorem noBal_flat {α : Type} {sz : Nat} {f : α → List Value} {hl : ∀ x, (f x).length = sz} {h1 : ∀ x, ∀ u ∈ f x, u.oneCell' = true} {e : Nat} {v : Value} {xs : List α} (he : ¬ Kept2 e) : NoBal (Sep.row (flat sz f hl h1) e v xs) :=
  noBal_row (fun q hq => by
    have : q = e := by simpa [flat] using hq
    rw [this]; exact he)
theorem notKept {t : TypeId} (h : decide (t = 113) = false) (h2 : decide (t = 102) = false) : ¬ Kept2 t := fun e => e.elim (fun e => by rw [decide_eq_true e] at h; cases h) (fun e => by rw [decide_eq_true e] at h2; cases h2)
theorem rebase {S : Nat → Prop} {As : List Asr} {w0 w : World} (h : OwnS S As w0 w) (hN : ∀ A ∈ As, NoBal A) :
    ∃ S' : Nat → Prop, OwnS S' As w w ∧ (∀ k, S' k → ¬ BalT w k) ∧ ∀ Bs w', OwnS S' Bs w w' → OwnS S Bs w0 w' := by
  obtain ⟨h0, F, hF⟩ := h
  refine ⟨fun k => Uni S w0 w k ∧ ¬ BalT w k, ⟨Frm.refl _ _, F, fun i A hi => ?_⟩, fun k hk => hk.2, fun Bs w' ⟨h1, F', hF'⟩ => ⟨Frm.le h0 (Frm.mono h1 (fun k _ hs => hs.1.1)), F', fun i B hi => ?_⟩⟩
  · refine A.mono (fun k hk => ?_) (hN A (List.mem_of_getElem? hi) _ _ (hF i A hi))
    exact ⟨⟨.inl ⟨hk.1.1, hk.2⟩, hk.1.1.2⟩, hk.1.2⟩
  · refine B.mono (fun k hk => ?_) (hF' i B hi)
    obtain ⟨⟨hk1, hk2⟩, hk3⟩ := hk
    refine ⟨⟨?_, hk2⟩, hk3⟩
    rcases hk1 with hk1 | hk1
    · exact hk1.1.1
    · exact .inr (Nat.le_trans h0.size hk1)
structure OP where
  frm : Nat
  seq : Nat
  x : RC
def opC (y : OP) : List Value := [.int .u8 (y.frm : Int), .int .i64 (y.seq : Int), .bool y.x.c.echoed, .bool y.x.c.readied, .bool y.x.c.done, .slice y.x.A1 y.x.c.echoes.length y.x.c1, .slice y.x.A2 y.x.c.readies.length y.x.c2]
def kOP : Kd OP := flat 7 opC (fun _ => rfl) (fun x u hu => by simp [opC] at hu; rcases hu with rfl | rfl | rfl | rfl | rfl | rfl | rfl <;> rfl)
structure Opn where
  frm : Nat
  seq : Nat
  c : Cas
def OP.o (y : OP) : Opn := ⟨y.frm, y.seq, y.x.c⟩
theorem at_OP {w : World} {A : Option Addr} {n : Nat} {xs : List OP} (h : kOP.C w A n xs) (i : Nat) (h1 : i < xs.length) : ∃ g o, A = some ⟨g, o, none⟩ ∧ w.rangeAt g (o + i * 7) (opC xs[i]) := by
  have hn := Kd.C_len h
  obtain ⟨ad, cs, e, _, hK, hc⟩ := Kd.C_get h xs[i] (i : Int) (by omega) (by omega)
  have hx : xs.getD (i : Int).toNat xs[i] = xs[i] := by simp [h1]
  rw [hx] at hK
  have hK' : cs = opC xs[i] := hK
  subst hK'
  have e3 : kOP.sz = 7 := rfl
  rw [e3] at hc
  obtain ⟨g, o, sp⟩ := ad
  cases sp with
  | none =>
    refine ⟨g, o, e, fun j v hj => ?_⟩
    have := hc j v hj
    rw [Addr.add_mid] at this
    rw [Nat.add_assoc]
    simpa using this
  | some s =>
    exfalso
    obtain ⟨ad2, c2, e2, _, hK2, hc2⟩ := Kd.C_get h xs[i] (0 : Int) (by omega) (by omega)
    obtain rfl := Option.some.inj (e.symm.trans e2)
    generalize xs.getD (0 : Int).toNat xs[i] = y at hK2
    have hK3 : c2 = opC y := hK2
    subst hK3
    have h0 := hc2 0 _ rfl
    have e3 : ((⟨g, o, some s⟩ : Addr).add ((0 : Int).toNat * kOP.sz + 0)) = ⟨g, o, some s⟩ := rfl
    rw [e3] at h0
    unfold World.cell? at h0
    split at h0 <;> simp at h0
theorem infoOP : (Try.prog.info? 79).map (fun i => (i.zero, i.size, i.bytes)) = some (some (.agg #[.int .u8 0, .int .i64 0, .bool false, .bool false, .bool false, .slice none 0 0, .slice none 0 0]), 7, 72) := by kernel_rfl
section
variable {P : Program} {ops : Array Oper} {o : Oper} {a : Act} {Q : Exit → Act → World → Prop} {Kc : Act → World → Prop} {S : Nat → Prop} {As : List Asr} {w0 W : World}
theorem evS_lit_step {E : Prop} (HH : OwnS S As w0 W) (hw : Region.wanted o (yielded ops a.tmps) = true) {cs : Array Value} {T : TypeId} {n : Nat}
    (hrun : (execOp a.eval o).run P W = .ok (.value (.slice (some ⟨W.heap.size, 0, none⟩) n n)) (W.alloc (.cells cs T (0, 0))))
    (h : ∀ g w', OwnS S (As ++ [Sep.blk g cs T]) w0 w' → Kc (a.put o.dst (.slice (some ⟨g, 0, none⟩) n n)) w') : if Region.wanted o (yielded ops a.tmps) = true then Oper.wp P o a W Kc Q else E :=
  step_run hw hrun (h _ _ (HH.new cs T))
end
def lex (f s f' s' : Nat) : Prop := f < f' ∨ (f = f' ∧ s < s')
def cmpI (a b : Int) : Int := if a < b then -1 else if b < a then 1 else 0
def orI (a b : Int) : Int := if a = 0 then b else a
def ordI (f s f' s' : Nat) : Int := orI (cmpI f f') (cmpI s s')
theorem ord_lt {f s f' s' : Nat} : ordI f s f' s' < 0 ↔ lex f s f' s' := by
  unfold ordI orI cmpI lex
  split <;> (try split) <;> (try split) <;> (try split) <;> omega
theorem ord_eq {f s f' s' : Nat} : ordI f s f' s' = 0 ↔ f = f' ∧ s = s' := by
  unfold ordI orI cmpI
  split <;> (try split) <;> (try split) <;> (try split) <;> omega
theorem lex_trans {a b c d e f : Nat} (h : lex a b c d) (k : lex c d e f) : lex a b e f := by
  unfold lex at *
  omega
theorem lex_irrefl {a b : Nat} : ¬ lex a b a b := by
  unfold lex
  omega
theorem lex_total {a b c d : Nat} : lex a b c d ∨ (a = c ∧ b = d) ∨ lex c d a b := by
  unfold lex
  omega
def SortedO (l : List Opn) : Prop := ∀ i j, (h : j < l.length) → (hi : i < j) → lex (l[i]'(by omega)).frm (l[i]'(by omega)).seq l[j].frm l[j].seq
end Go.Proofs.Ytbaknecnkipooaa.Tld
