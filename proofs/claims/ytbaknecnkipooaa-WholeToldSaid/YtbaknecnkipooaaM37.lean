/- The table as plain data: behind some items, each of which all four members voted for. The table as plain data: what one member's vote does. -/
import Derived.Test.YtbaknecnkipooaaM32
import Derived.Test.YtbaknecnkipooaaM36
namespace Go.Proofs.Ytbaknecnkipooaa.Tld
open Go Go.RowKit Go.Proofs.YtbaknecnkipooaaW.PrintWords Go.Proofs.Ytbaknecnkipooaa.Sep Go.Proofs.Ytbaknecnkipooaa.Obj Go.Proofs.Ytbaknecnkipooaa.Vot Go.Proofs.Ytbaknecnkipooaa.Hld
set_option linter.unusedVariables false
set_option linter.unusedSimpArgs false
def cK (s : ByteArray) (k : Nat) : Cas := ⟨false, decide (2 ≤ k), decide (3 ≤ k), [], if k = 0 then [] else [⟨s, 2 ^ k - 1⟩]⟩
theorem cK_ok {s : ByteArray} (hs : s.size ≤ 1000) {k : Nat} (hk : k ≤ 4) : OkC (cK s k) := by
  refine ⟨by simp [cK], ?_, fun x hx => by simp [cK] at hx, fun x hx => ?_, fun x hx => by simp [cK] at hx, fun x hx => ?_⟩
  · unfold cK; split <;> simp
  · unfold cK at hx
    simp only at hx
    split at hx
    · simp at hx
    · rw [List.mem_singleton.1 hx]; exact hs
  · unfold cK at hx
    simp only at hx
    split at hx
    · simp at hx
    · rw [List.mem_singleton.1 hx]
      show 2 ^ k - 1 < 65536
      have : 2 ^ k ≤ 2 ^ 4 := Nat.pow_le_pow_right (by decide) hk
      omega
theorem hit_refl (b : ByteArray) (n : Nat) : hit b ⟨b, n⟩ = true := by simp [hit]
theorem takeK {s : ByteArray} (hs : s.size ≤ 1000) (f k : Nat) (hf : f < 4) (hk : k < 4) : ∃ a : Ans, takeM (cK s k) 15 (f : Int) 3 (k : Int) s = a ∧ a.c = cK s (k + 1) ∧ a.e = 0 ∧ a.is = decide (k = 2) ∧ (k = 2 → a.body = s) := by
  have h1 : ¬ ((3 : Int) < 1 ∨ (3 : Int) > 3 ∨ s.size > 1000) := by omega
  have hsz : ¬ (1000 < s.size) := by omega
  have s15 : Cnt.sz 15 = 4 := by decide
  have b1 : Cnt.sz 1 = 1 := by decide
  have b3 : Cnt.sz 3 = 2 := by decide
  have b7 : Cnt.sz 7 = 3 := by decide
  have b15 : Cnt.sz 15 = 4 := by decide
  have f4 : Cnt.faulty 4 = 1 := by decide
  have hf15 := has15 f hf
  have hh : ∀ n, hit s ⟨s, n⟩ = true := hit_refl s
  have n0 : Cnt.bitN 0 = 1 := by decide
  have n1 : Cnt.bitN 1 = 2 := by decide
  have n2 : Cnt.bitN 2 = 4 := by decide
  have n3 : Cnt.bitN 3 = 8 := by decide
  have w0 : Cnt.hasB 15 0 = true := by decide
  have w1 : Cnt.hasB 15 1 = true := by decide
  have w2 : Cnt.hasB 15 2 = true := by decide
  have w3 : Cnt.hasB 15 3 = true := by decide
  have v1 : Cnt.hasB 1 1 = false := by decide
  have v2 : Cnt.hasB 3 2 = false := by decide
  have v3 : Cnt.hasB 7 3 = false := by decide
  refine ⟨_, rfl, ?_⟩
  match k, hk with
  | 0, _ => simp [takeM, readyA, cK, hsz, votedL, withL, manyL, forL, readyC, readyO, doneB, *]
  | 1, _ => simp [takeM, readyA, cK, hsz, votedL, withL, manyL, forL, readyC, readyO, doneB, *]
  | 2, _ => simp [takeM, readyA, cK, hsz, votedL, withL, manyL, forL, readyC, readyO, doneB, *]
  | 3, _ => simp [takeM, readyA, cK, hsz, votedL, withL, manyL, forL, readyC, readyO, doneB, *]
end Go.Proofs.Ytbaknecnkipooaa.Tld
namespace Go.Proofs.Ytbaknecnkipooaa.Tld
open Go Go.RowKit Go.Proofs.YtbaknecnkipooaaW.PrintWords Go.Proofs.Ytbaknecnkipooaa.Sep Go.Proofs.Ytbaknecnkipooaa.Obj Go.Proofs.Ytbaknecnkipooaa.Vot Go.Proofs.Ytbaknecnkipooaa.Hld
set_option linter.unusedVariables false
set_option linter.unusedSimpArgs false
def keyIn (pre : List It) (f s : Nat) : Prop := ∃ y ∈ pre, y.frm = (f : Int) ∧ y.seq = (s : Int)
theorem keyIn_app {pre : List It} {y : It} {f s : Nat} : keyIn (pre ++ [y]) f s ↔ keyIn pre f s ∨ (y.frm = (f : Int) ∧ y.seq = (s : Int)) := by
  constructor
  · rintro ⟨x, hx, h⟩
    rcases List.mem_append.1 hx with hx | hx
    · exact .inl ⟨x, hx, h⟩
    · rw [List.mem_singleton.1 hx] at h; exact .inr h
  · rintro (⟨x, hx, h⟩ | h)
    · exact ⟨x, List.mem_append_left _ hx, h⟩
    · exact ⟨y, by simp, h⟩
structure TabI (pre : List It) (b : List Int) (os : List Opn) : Prop where
  ok : okV b
  up : ∀ f, f < 16 → ∀ s : Nat, (s : Int) < b.getD f 0 → keyIn pre f s
  no : ∀ f, f < 16 → ∀ s : Nat, (s : Int) = b.getD f 0 → ¬ keyIn pre f s
  f4 : ∀ o ∈ os, o.frm < 4
  key : ∀ o ∈ os, keyIn pre o.frm o.seq
  lo : ∀ o ∈ os, b.getD o.frm 0 < (o.seq : Int)
  hi : ∀ o ∈ os, (o.seq : Int) < b.getD o.frm 0 + 8
  dn : ∀ o ∈ os, o.c.done = true
  c : ∀ o ∈ os, OkC o.c
  all : ∀ f s : Nat, keyIn pre f s → f < 4 ∧ ((s : Int) < b.getD f 0 ∨ ∃ o ∈ os, o.frm = f ∧ o.seq = s)
  srt : SortedO os
theorem TabI.start : TabI [] z16 [] where
  ok := ok_z
  up := fun f hf s hs => by rw [z16_at] at hs; omega
  no := fun f hf s hs ⟨y, hy, _⟩ => by cases hy
  f4 := fun o ho => by cases ho
  key := fun o ho => by cases ho
  lo := fun o ho => by cases ho
  hi := fun o ho => by cases ho
  dn := fun o ho => by cases ho
  c := fun o ho => by cases ho
  all := fun f s ⟨y, hy, _⟩ => by cases hy
  srt := fun i j hj => by cases hj
def Small (pre : List It) : Prop := ∀ y ∈ pre, 0 ≤ y.frm ∧ y.frm < 4 ∧ 0 ≤ y.seq ∧ y.seq < 1000
theorem TabI.base {pre : List It} {b : List Int} {os : List Opn} (h : TabI pre b os) (hS : Small pre) : OkB b where
  v := h.ok
  le := fun i hi => by
    have h1 := okV_at h.ok i hi
    rcases Int.lt_or_le 1000 (b.getD i 0) with h2 | h2
    · obtain ⟨y, hy, _, e⟩ := h.up i hi 1000 h2
      have := hS y hy
      omega
    · exact h2
  z := fun i h4 hi => by
    have h1 := okV_at h.ok i hi
    rcases Int.lt_or_le 0 (b.getD i 0) with h2 | h2
    · obtain ⟨y, hy, e, _⟩ := h.up i hi 0 h2
      have := hS y hy
      omega
    · omega
def PutS (os : List Opn) (o : Opn) (zs : List Opn) : Prop := SortedO zs ∧ ∀ x, x ∈ zs ↔ x = o ∨ (x ∈ os ∧ ¬ (x.frm = o.frm ∧ x.seq = o.seq))
theorem PutM.s {os zs : List Opn} {o : Opn} (h : PutM os o zs) : PutS os o zs := ⟨h.1, h.2.1⟩
theorem PutS.then {os zs us : List Opn} {f q : Nat} {c c' : Cas} (h : PutS os ⟨f, q, c⟩ zs) (k : PutS zs ⟨f, q, c'⟩ us) : PutS os ⟨f, q, c'⟩ us := by
  refine ⟨k.1, fun x => ?_⟩
  rw [k.2, h.2]
  constructor
  · rintro (h1 | ⟨h1 | h1, h2⟩)
    · exact .inl h1
    · subst h1; exact absurd ⟨rfl, rfl⟩ h2
    · exact .inr ⟨h1.1, h2⟩
  · rintro (h1 | h1)
    · exact .inl h1
    · exact .inr ⟨.inr h1, h1.2⟩
def MidI (pre : List It) (y : It) (f q : Nat) (s : ByteArray) (k : Nat) (b : List Int) (os : List Opn) : Prop :=
  (k ≤ 2 ∧ ∃ os0, TabI pre b os0 ∧ ((k = 0 ∧ os = os0) ∨ (1 ≤ k ∧ PutS os0 ⟨f, q, cK s k⟩ os ∧ b.getD f 0 ≤ (q : Int) ∧ (q : Int) < b.getD f 0 + 8))) ∨
  (3 ≤ k ∧ k ≤ 4 ∧ TabI (pre ++ [y]) b os ∧ ∀ o ∈ os, o.frm = f → o.seq = q → o.c = cK s k)
section
variable {pre : List It} {y : It} {f q : Nat} {s : ByteArray} {b : List Int} {os : List Opn} {k : Nat}
theorem MidI.start (h : TabI pre b os) : MidI pre y f q s 0 b os := .inl ⟨by omega, os, h, .inl ⟨rfl, rfl⟩⟩
theorem MidI.end (h : MidI pre y f q s 4 b os) : TabI (pre ++ [y]) b os := by
  rcases h with ⟨h, _⟩ | ⟨_, _, h, _⟩
  · omega
  · exact h
theorem MidI.okT (h : MidI pre y f q s k b os) (hs : s.size ≤ 1000) (hS : Small (pre ++ [y])) (hf : f < 4) (hq : q < 1000) {xs : List OP} (hx : xs.map OP.o = os) (hl : os.length ≤ 1000) : OkT b xs := by
  have hS1 : Small pre := fun z hz => hS z (List.mem_append_left _ hz)
  have key : ∀ (pre' : List It) (os' : List Opn), Small pre' → TabI pre' b os' → ∀ o ∈ os', OkO b o.frm o.seq o.c := fun pre' os' hS' h o ho => by
    obtain ⟨z, hz, e1, e2⟩ := h.key o ho
    have := hS' z hz
    exact ⟨h.f4 o ho, by omega, by have := h.lo o ho; omega, h.hi o ho, fun e => by have := h.lo o ho; omega, h.c o ho⟩
  have hm : ∀ x ∈ xs, OP.o x ∈ os := fun x hx' => by rw [← hx]; exact List.mem_map.2 ⟨x, hx', rfl⟩
  have hlx : xs.length ≤ 1000 := by rw [← hx, List.length_map] at hl; exact hl
  rcases h with ⟨hk, os0, hT, ⟨_, rfl⟩ | ⟨h1, hP, hlo, hhi⟩⟩ | ⟨_, _, hT, _⟩
  · exact ⟨hT.base hS1, fun x hx' => key pre os hS1 hT _ (hm x hx'), hx ▸ hT.srt, hlx⟩
  · refine ⟨hT.base hS1, fun x hx' => ?_, hx ▸ hP.1, hlx⟩
    rcases (hP.2 _).1 (hm x hx') with e | ⟨e, _⟩
    · injection e with e1 e2 e3
      rw [e1, e2, e3]
      exact ⟨hf, hq, hlo, hhi, fun _ => by simp [cK]; omega, cK_ok hs (by omega)⟩
    · exact key pre os0 hS1 hT _ e
  · exact ⟨hT.base hS, fun x hx' => key _ os hS hT _ (hm x hx'), hx ▸ hT.srt, hlx⟩
theorem MidI.may (h : MidI pre y f q s k b os) (hf : f < 4) (hy : y.frm = (f : Int) ∧ y.seq = (q : Int)) (hn : ¬ keyIn pre f q) : (k = 0 ∧ mayE (b.getD f 0) q = 7) ∨ mayE (b.getD f 0) q = 0 ∨ (3 ≤ k ∧ mayE (b.getD f 0) q = 6) := by
  unfold mayE
  rcases h with ⟨hk, os0, hT, ⟨h0, rfl⟩ | ⟨h1, hP, hlo, hhi⟩⟩ | ⟨h3, _, hT, _⟩
  · have hlo : ¬ (q : Int) < b.getD f 0 := fun h => hn (hT.up f (by omega) q h)
    rw [if_neg hlo]
    split
    · exact .inl ⟨h0, rfl⟩
    · exact .inr (.inl rfl)
  · rw [if_neg (by omega), if_neg (by omega)]
    exact .inr (.inl rfl)
  · split
    · exact .inr (.inr ⟨h3, rfl⟩)
    · rename_i hlo
      have hk : keyIn (pre ++ [y]) f q := keyIn_app.2 (.inr hy)
      obtain ⟨_, h4 | ⟨o, ho, e1, e2⟩⟩ := hT.all f q hk
      · omega
      · have := hT.hi o ho
        rw [e1, e2] at this
        rw [if_neg (by omega)]
        exact .inr (.inl rfl)
theorem MidI.cases (h : MidI pre y f q s k b os) (hf : f < 4) (hy : y.frm = (f : Int) ∧ y.seq = (q : Int)) (hn : ¬ keyIn pre f q) (hm : mayE (b.getD f 0) q = 0) (hk : k < 4) : (k = 0 ∧ ∀ o ∈ os, ¬ (o.frm = f ∧ o.seq = q)) ∨ (1 ≤ k ∧ (⟨f, q, cK s k⟩ : Opn) ∈ os) := by
  rcases h with ⟨hk, os0, hT, ⟨h0, rfl⟩ | ⟨h1, hP, hlo, hhi⟩⟩ | ⟨h3, _, hT, hc⟩
  · exact .inl ⟨h0, fun o ho ⟨e1, e2⟩ => hn (e1 ▸ e2 ▸ hT.key o ho)⟩
  · exact .inr ⟨h1, (hP.2 _).2 (.inl rfl)⟩
  · have hlo := mayE_lo hm
    obtain ⟨_, h4 | ⟨o, ho, e1, e2⟩⟩ := hT.all f q (keyIn_app.2 (.inr hy))
    · omega
    · refine .inr ⟨by omega, ?_⟩
      have e3 := hc o ho e1 e2
      obtain ⟨of, oq, oc⟩ := o
      simp only at e1 e2 e3
      subst e1; subst e2; subst e3
      exact ho
theorem mem_o {zs : List OP} {o : Opn} (h : o ∈ zs.map OP.o) : ∃ z ∈ zs, z.frm = o.frm ∧ z.seq = o.seq ∧ z.x.c = o.c := by
  obtain ⟨z, hz, rfl⟩ := List.mem_map.1 h
  exact ⟨z, hz, rfl, rfl, rfl⟩
theorem reach_zero {zs ys : List OP} {b' : List Int} {m : Nat} (hr : Reach b zs f b' ys m) (hlen : f < b.length) (hd : ∀ z ∈ zs, z.frm = f → (z.seq : Int) = b.getD f 0 → z.x.c.done = false) (hlo : ∀ z ∈ zs, z.frm = f → b.getD f 0 ≤ (z.seq : Int)) : b' = b ∧ ∀ o, o ∈ ys.map OP.o ↔ o ∈ zs.map OP.o := by
  have hm : m = 0 := by
    rcases Nat.eq_zero_or_pos m with h | h
    · exact h
    · obtain ⟨z, hz, e1, e2, e3⟩ := hr.done 0 h
      rw [Int.natCast_zero, Int.add_zero] at e2
      rw [hd z hz e1 e2] at e3
      cases e3
  subst hm
  refine ⟨?_, fun o => ⟨fun h => ?_, fun h => ?_⟩⟩
  · have : b.getD f 0 = b[f] := by simp [List.getD_eq_getElem?_getD, hlen]
    rw [hr.base, Int.natCast_zero, Int.add_zero, this, List.set_getElem_self]
  · obtain ⟨z, hz, rfl⟩ := List.mem_map.1 h
    exact List.mem_map.2 ⟨z, hr.sub.subset hz, rfl⟩
  · obtain ⟨z, hz, rfl⟩ := List.mem_map.1 h
    rcases hr.mem z hz with h1 | ⟨e, h1⟩
    · exact List.mem_map.2 ⟨z, h1, rfl⟩
    · have := hlo z hz e
      rw [Int.natCast_zero, Int.add_zero] at h1
      omega
theorem set_at (b : List Int) (f g : Nat) (v : Int) (hf : f < b.length) : (b.set f v).getD g 0 = if g = f then v else b.getD g 0 := by
  by_cases e : g = f
  · subst e; rw [if_pos rfl]; exact getD_set _ _ _ hf
  · rw [if_neg e]
    simp only [List.getD_eq_getElem?_getD]
    rw [List.getElem?_set_ne (fun h => e h.symm)]
theorem MidI.vote {zs ys : List OP} {b' : List Int} {m : Nat} (h : MidI pre y f q s k b os) (hf : f < 4) (hq : q < 1000) (hs : s.size ≤ 1000) (hS : Small (pre ++ [y])) (hy : y.frm = (f : Int) ∧ y.seq = (q : Int)) (hn : ¬ keyIn pre f q) (hm : mayE (b.getD f 0) q = 0) (hk : k < 4)
    (hP : PutM os ⟨f, q, cK s (k + 1)⟩ (zs.map OP.o)) (hr : Reach b zs f b' ys m) (hnd : ∀ z ∈ ys, ¬ (z.frm = f ∧ (z.seq : Int) = b.getD f 0 + (m : Int) ∧ z.x.c.done = true)) : MidI pre y f q s (k + 1) b' (ys.map OP.o) := by
  have hlo := mayE_lo hm
  have hhi : (q : Int) < b.getD f 0 + 8 := by
    unfold mayE at hm
    split at hm
    · cases hm
    · split at hm
      · cases hm
      · omega
  have hbl : ∀ b : List Int, okV b → f < b.length := fun b hb => by rw [hb.1]; omega
  have hys : SortedO (ys.map OP.o) := sortedO_sub hr.sub hP.1
  rcases h with ⟨hk2, os0, hT, hcs⟩ | ⟨h3, _, hT, hc⟩
  · -- not done yet
    have hPS : PutS os0 ⟨f, q, cK s (k + 1)⟩ (zs.map OP.o) := by
      rcases hcs with ⟨_, rfl⟩ | ⟨_, hP0, _, _⟩
      · exact hP.s
      · exact hP0.then hP.s
    have hmem : ∀ z ∈ zs, OP.o z = ⟨f, q, cK s (k + 1)⟩ ∨ (OP.o z ∈ os0 ∧ ¬ (z.frm = f ∧ z.seq = q)) := fun z hz => (hPS.2 _).1 (List.mem_map.2 ⟨z, hz, rfl⟩)
    rcases Nat.lt_or_ge k 2 with hk1 | hk1
    · have hcd : (cK s (k + 1)).done = false := by simp [cK]; omega
      obtain ⟨e1, e2⟩ := reach_zero hr (hbl b hT.ok) (fun z hz e3 e4 => by
        rcases hmem z hz with h1 | ⟨h1, _⟩
        · injection h1 with _ _ h2
          rw [h2]; exact hcd
        · have := hT.lo _ h1
          simp only [OP.o] at this
          rw [e3] at this
          omega) (fun z hz e3 => by
        rcases hmem z hz with h1 | ⟨h1, _⟩
        · injection h1 with _ h2 _
          rw [h2]; exact hlo
        · have := hT.lo _ h1
          simp only [OP.o] at this
          rw [e3] at this
          omega)
      subst e1
      exact .inl ⟨by omega, os0, hT, .inr ⟨by omega, ⟨hys, fun x => (e2 x).trans (hPS.2 x)⟩, hlo, hhi⟩⟩
    · obtain rfl : k = 2 := by omega
      refine .inr ⟨by omega, by omega, ?_, fun o ho e1 e2 => ?_⟩
      · -- the third vote
        have hbf := okV_at hT.ok f (by omega)
        have hb' : ∀ g, b'.getD g 0 = if g = f then b.getD f 0 + (m : Int) else b.getD g 0 := fun g => by rw [hr.base]; exact set_at _ _ _ _ (hbl b hT.ok)
        have hin : ∀ z ∈ zs, z.frm < 4 ∧ keyIn (pre ++ [y]) z.frm z.seq ∧ z.x.c.done = true ∧ OkC z.x.c ∧ (z.seq : Int) < b.getD z.frm 0 + 8 := fun z hz => by
          rcases hmem z hz with h1 | ⟨h1, _⟩
          · injection h1 with h2 h3 h4
            rw [h2, h3, h4]
            exact ⟨hf, keyIn_app.2 (.inr hy), by simp [cK], cK_ok hs (by omega), hhi⟩
          · exact ⟨hT.f4 _ h1, keyIn_app.2 (.inl (hT.key _ h1)), hT.dn _ h1, hT.c _ h1, hT.hi _ h1⟩
        have hm1 : b.getD f 0 + (m : Int) ≤ 1000 := by
          cases m with
          | zero => have := (hT.base (fun z hz => hS z (List.mem_append_left _ hz))).le f (by omega); omega
          | succ m =>
            obtain ⟨z, hz, e1, e2, _⟩ := hr.done m (Nat.lt_succ_self m)
            obtain ⟨_, ⟨x, hx, e3, e4⟩, _⟩ := hin z hz
            have := hS x hx
            omega
        have hgo : ∀ z ∈ zs, z ∈ ys ∨ (z.frm = f ∧ (z.seq : Int) < b.getD f 0 + (m : Int)) := hr.mem
        have hstay : ∀ z ∈ ys, z.frm = f → b.getD f 0 + (m : Int) < (z.seq : Int) := fun z hz e => by
          have h1 := hr.out z hz
          have h2 := hnd z hz
          have h3 := (hin z (hr.sub.subset hz)).2.2.1
          rcases Int.lt_trichotomy (z.seq : Int) (b.getD f 0 + (m : Int)) with h4 | h4 | h4
          · exact absurd ⟨e, h4⟩ h1
          · exact absurd ⟨e, h4, h3⟩ h2
          · exact h4
        exact {
          ok := by
            rw [hr.base]
            refine ⟨by rw [List.length_set]; exact hT.ok.1, fun x hx => ?_⟩
            rcases List.mem_or_eq_of_mem_set hx with h1 | h1
            · exact hT.ok.2 x h1
            · rw [h1]; omega
          up := fun g hg u hu => by
            rw [hb'] at hu
            split at hu
            · rename_i e
              subst e
              rcases Int.lt_or_le (u : Int) (b.getD g 0) with h1 | h1
              · exact keyIn_app.2 (.inl (hT.up g hg u h1))
              · obtain ⟨z, hz, e1, e2, _⟩ := hr.done (u - (b.getD g 0).toNat) (by omega)
                have e3 : z.seq = u := by omega
                have := (hin z hz).2.1
                rw [e1, e3] at this
                exact this
            · exact keyIn_app.2 (.inl (hT.up g hg u hu))
          no := fun g hg u hu hk => by
            rw [hb'] at hu
            split at hu
            · rename_i e
              subst e
              have hz : ∃ z ∈ zs, z.frm = g ∧ z.seq = u := by
                rcases keyIn_app.1 hk with h1 | ⟨h1, h2⟩
                · obtain ⟨_, h3 | ⟨o, ho, e1, e2⟩⟩ := hT.all g u h1
                  · omega
                  · have hne : ¬ (o.frm = g ∧ o.seq = q) := fun ⟨_, e3⟩ => hn (by rw [← e3, e2]; exact h1)
                    obtain ⟨z, hz, e4, e5, _⟩ := mem_o ((hPS.2 o).2 (.inr ⟨ho, hne⟩))
                    exact ⟨z, hz, e4.trans e1, e5.trans e2⟩
                · obtain ⟨z, hz, e4, e5, _⟩ := mem_o ((hPS.2 ⟨g, q, cK s (2 + 1)⟩).2 (.inl rfl))
                  simp only at e4 e5
                  exact ⟨z, hz, e4, by omega⟩
              obtain ⟨z, hz, e1, e2⟩ := hz
              rcases hgo z hz with h1 | ⟨_, h1⟩
              · have := hstay z h1 e1
                omega
              · omega
            · rename_i e
              rcases keyIn_app.1 hk with h1 | ⟨h1, _⟩
              · exact hT.no g hg u hu h1
              · omega
          f4 := fun o ho => by
            obtain ⟨z, hz, rfl⟩ := List.mem_map.1 ho
            exact (hin z (hr.sub.subset hz)).1
          key := fun o ho => by
            obtain ⟨z, hz, rfl⟩ := List.mem_map.1 ho
            exact (hin z (hr.sub.subset hz)).2.1
          lo := fun o ho => by
            obtain ⟨z, hz, rfl⟩ := List.mem_map.1 ho
            show b'.getD z.frm 0 < (z.seq : Int)
            rw [hb']
            split
            · rename_i e; exact hstay z hz e
            · rename_i e
              rcases hmem z (hr.sub.subset hz) with h1 | ⟨h1, _⟩
              · injection h1 with h2; exact absurd h2 e
              · exact hT.lo _ h1
          hi := fun o ho => by
            obtain ⟨z, hz, rfl⟩ := List.mem_map.1 ho
            show (z.seq : Int) < b'.getD z.frm 0 + 8
            have := (hin z (hr.sub.subset hz)).2.2.2.2
            rw [hb']
            split
            · rename_i e; rw [e] at this; omega
            · exact this
          dn := fun o ho => by
            obtain ⟨z, hz, rfl⟩ := List.mem_map.1 ho
            exact (hin z (hr.sub.subset hz)).2.2.1
          c := fun o ho => by
            obtain ⟨z, hz, rfl⟩ := List.mem_map.1 ho
            exact (hin z (hr.sub.subset hz)).2.2.2.1
          all := fun g u hk => by
            have hz : (g < 4 ∧ ((u : Int) < b.getD g 0)) ∨ (g < 4 ∧ ∃ z ∈ zs, z.frm = g ∧ z.seq = u) := by
              rcases keyIn_app.1 hk with h1 | ⟨h1, h2⟩
              · obtain ⟨h0, h3 | ⟨o, ho, e1, e2⟩⟩ := hT.all g u h1
                · exact .inl ⟨h0, h3⟩
                · have hne : ¬ (o.frm = f ∧ o.seq = q) := fun ⟨e3, e4⟩ => hn (by rw [← e3, ← e4, e1, e2]; exact h1)
                  obtain ⟨z, hz, e4, e5, _⟩ := mem_o ((hPS.2 o).2 (.inr ⟨ho, hne⟩))
                  exact .inr ⟨h0, z, hz, e4.trans e1, e5.trans e2⟩
              · obtain ⟨z, hz, e4, e5, _⟩ := mem_o ((hPS.2 ⟨f, q, cK s (2 + 1)⟩).2 (.inl rfl))
                simp only at e4 e5
                exact .inr ⟨by omega, z, hz, by omega, by omega⟩
            rcases hz with ⟨h0, h1⟩ | ⟨h0, z, hz, e1, e2⟩
            · refine ⟨h0, .inl ?_⟩
              rw [hb']
              split
              · rename_i e; subst e; omega
              · exact h1
            · refine ⟨h0, ?_⟩
              rcases hgo z hz with h1 | ⟨h1, h2⟩
              · exact .inr ⟨OP.o z, List.mem_map.2 ⟨z, h1, rfl⟩, e1, e2⟩
              · left
                rw [hb', if_pos (by omega)]
                omega
          srt := hys }
      · obtain ⟨z, hz, rfl⟩ := List.mem_map.1 ho
        rcases hmem z (hr.sub.subset hz) with h1 | ⟨_, h1⟩
        · injection h1 with _ _ h2
        · exact absurd ⟨e1, e2⟩ h1
  · -- the fourth
    obtain rfl : k = 3 := by omega
    have hmem : ∀ z ∈ zs, OP.o z = ⟨f, q, cK s (3 + 1)⟩ ∨ (OP.o z ∈ os ∧ ¬ (z.frm = f ∧ z.seq = q)) := fun z hz => (hP.s.2 _).1 (List.mem_map.2 ⟨z, hz, rfl⟩)
    have hqk : b.getD f 0 < (q : Int) := by
      rcases Int.lt_or_le (b.getD f 0) (q : Int) with h1 | h1
      · exact h1
      · exact absurd (keyIn_app.2 (.inr hy)) (hT.no f (by omega) q (by omega))
    have hlt : ∀ z ∈ zs, b.getD z.frm 0 < (z.seq : Int) := fun z hz => by
      rcases hmem z hz with h1 | ⟨h1, _⟩
      · injection h1 with h2 h3 _
        rw [h2, h3]; exact hqk
      · exact hT.lo _ h1
    obtain ⟨e1, e2⟩ := reach_zero hr (hbl b hT.ok) (fun z hz e3 e4 => by have := hlt z hz; rw [e3] at this; omega) (fun z hz e3 => by have := hlt z hz; rw [e3] at this; omega)
    subst e1
    have hget : ∀ o, o ∈ ys.map OP.o → ∃ z ∈ zs, OP.o z = o := fun o ho => List.mem_map.1 ((e2 o).1 ho)
    refine .inr ⟨by omega, by omega, ?_, fun o ho e3 e4 => ?_⟩
    · exact {
        ok := hT.ok, up := hT.up, no := hT.no
        f4 := fun o ho => by
          obtain ⟨z, hz, rfl⟩ := hget o ho
          rcases hmem z hz with h1 | ⟨h1, _⟩
          · rw [h1]; exact hf
          · exact hT.f4 _ h1
        key := fun o ho => by
          obtain ⟨z, hz, rfl⟩ := hget o ho
          rcases hmem z hz with h1 | ⟨h1, _⟩
          · rw [h1]; exact keyIn_app.2 (.inr hy)
          · exact hT.key _ h1
        lo := fun o ho => by
          obtain ⟨z, hz, rfl⟩ := hget o ho
          exact hlt z hz
        hi := fun o ho => by
          obtain ⟨z, hz, rfl⟩ := hget o ho
          rcases hmem z hz with h1 | ⟨h1, _⟩
          · rw [h1]; exact hhi
          · exact hT.hi _ h1
        dn := fun o ho => by
          obtain ⟨z, hz, rfl⟩ := hget o ho
          rcases hmem z hz with h1 | ⟨h1, _⟩
          · rw [h1]; simp [cK]
          · exact hT.dn _ h1
        c := fun o ho => by
          obtain ⟨z, hz, rfl⟩ := hget o ho
          rcases hmem z hz with h1 | ⟨h1, _⟩
          · rw [h1]; exact cK_ok hs (by omega)
          · exact hT.c _ h1
        all := fun g u hk => by
          obtain ⟨h0, h3 | ⟨o, ho, e5, e6⟩⟩ := hT.all g u hk
          · exact ⟨h0, .inl h3⟩
          · refine ⟨h0, .inr ?_⟩
            by_cases hkey : o.frm = f ∧ o.seq = q
            · exact ⟨⟨f, q, cK s (3 + 1)⟩, (e2 _).2 ((hP.s.2 _).2 (.inl rfl)), by show f = g; omega, by show q = u; omega⟩
            · exact ⟨o, (e2 _).2 ((hP.s.2 _).2 (.inr ⟨ho, hkey⟩)), e5, e6⟩
        srt := hys }
    · obtain ⟨z, hz, rfl⟩ := hget o ho
      rcases hmem z hz with h1 | ⟨_, h1⟩
      · injection h1 with _ _ h2
      · exact absurd ⟨e3, e4⟩ h1
theorem TabI.told {t : List Int} (hT : TabI pre b os) (hA : AllI pre t []) (hS : Small pre) : b = t := by
  have h16 : ∀ f, f < 16 → b.getD f 0 = t.getD f 0 := fun f hf => by
    have h1 := okV_at hT.ok f hf
    have h2 := okV_at hA.ok f hf
    rcases Int.lt_trichotomy (b.getD f 0) (t.getD f 0) with h | h | h
    · exfalso
      obtain ⟨y, hy, e1, e2⟩ := hA.old f hf (b.getD f 0) h1.1 h
      have := hS y hy
      exact hT.no f hf (b.getD f 0).toNat (by omega) ⟨y, hy, by omega, by omega⟩
    · exact h
    · exfalso
      obtain ⟨y, hy, e1, e2⟩ := hT.up f hf (t.getD f 0).toNat (by omega)
      rcases hA.all y hy with h3 | h3
      · unfold ofT at h3
        rw [e1] at h3
        simp only [Int.toNat_natCast] at h3
        omega
      · cases h3
  refine List.ext_getElem (by rw [hT.ok.1, hA.ok.1]) (fun i hi hj => ?_)
  have := h16 i (by rw [← hT.ok.1]; exact hi)
  simpa [List.getD_eq_getElem?_getD, hi, hj] using this
end
end Go.Proofs.Ytbaknecnkipooaa.Tld
