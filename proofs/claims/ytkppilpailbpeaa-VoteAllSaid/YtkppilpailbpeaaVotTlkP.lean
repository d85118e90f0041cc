/- Talk's invariant, in terms of its rows. -/
import Derived.Test.YtkppilpailbpeaaVotTlkM
namespace Go.Proofs.Ytkppilpailbpeaa.Vot
open Go Go.RowKit Go.Proofs.YtkppilpailbpeaaW.PrintWords Go.Proofs.Ytkppilpailbpeaa.Cnt Go.Proofs.Ytkppilpailbpeaa.Opn Go.Proofs.Ytkppilpailbpeaa.Sep Go.Proofs.Ytkppilpailbpeaa.Obj
set_option linter.unusedVariables false
set_option linter.unusedSimpArgs false
def csF (xs : List RC) (i : Nat) : Cas := match xs[i]? with | some x => x.c | none => ⟨false, false, false, [], []⟩
def tdF (td : List ByteArray) (i : Nat) : ByteArray := td.getD i ⟨#[]⟩
def dnF (dn : List Bool) (i : Nat) : Bool := dn.getD i false
theorem csF_at {xs : List RC} {i : Nat} {x : RC} (h : xs[i]? = some x) : csF xs i = x.c := by unfold csF; rw [h]
theorem csF_set {xs : List RC} {i : Nat} (hi : i < xs.length) (x : RC) : csF (xs.set i x) = upd (csF xs) i x.c := by
  funext j
  by_cases h : j = i
  · subst h
    rw [upd_self, csF_at (List.getElem?_set_self hi)]
  · rw [upd_ne _ _ h]
    unfold csF
    rw [List.getElem?_set_ne (fun e => h e.symm)]
theorem tdF_set {td : List ByteArray} {i : Nat} (hi : i < td.length) (a : Ans) : tdF (tdL td i a) = tdS (tdF td) i a := by
  unfold tdL tdS
  split
  · funext j
    by_cases h : j = i
    · subst h
      rw [upd_self]
      unfold tdF
      rw [List.getD_eq_getElem?_getD, List.getElem?_set_self hi]
      rfl
    · rw [upd_ne _ _ h]
      unfold tdF
      rw [List.getD_eq_getElem?_getD, List.getD_eq_getElem?_getD, List.getElem?_set_ne (fun e => h e.symm)]
  · rfl
theorem dnF_set {dn : List Bool} {i : Nat} (hi : i < dn.length) (a : Ans) : dnF (dnL dn i a) = dnS (dnF dn) i a := by
  unfold dnL dnS
  split
  · funext j
    by_cases h : j = i
    · subst h
      rw [upd_self]
      unfold dnF
      rw [List.getD_eq_getElem?_getD, List.getElem?_set_self hi]
      rfl
    · rw [upd_ne _ _ h]
      unfold dnF
      rw [List.getD_eq_getElem?_getD, List.getD_eq_getElem?_getD, List.getElem?_set_ne (fun e => h e.symm)]
  · rfl
/-- how much a case may still cast -/
def budC (c : Cas) : Nat := (1 - b2n c.echoed) + (1 - b2n c.readied)
def bud : List RC → Nat
  | [] => 0
  | x :: r => budC x.c + bud r
theorem b2n_le (b : Bool) : b2n b ≤ 1 := by cases b <;> decide
theorem bud_set : ∀ (xs : List RC) (i : Nat) (x x' : RC), xs[i]? = some x → bud (xs.set i x') + budC x.c = bud xs + budC x'.c
  | [], i, x, x', h => by simp at h
  | y :: r, 0, x, x', h => by
    simp at h
    subst h
    simp [bud]
    omega
  | y :: r, i + 1, x, x', h => by
    have := bud_set r i x x' (by simpa using h)
    simp only [List.set_cons_succ, bud]
    omega
theorem budC_step {c : Cas} {a : Ans} (h : Step c a) : budC a.c + a.outs.length ≤ budC c := by
  have h1 := h.e; have h2 := h.r; have h3 := h.n; have hk := h.k
  have h4 := b2n_le a.c.echoed; have h5 := b2n_le a.c.readied; have h6 := b2n_le c.echoed; have h7 := b2n_le c.readied
  have h8 : a.outs.length = nK 2 a.outs + nK 3 a.outs := by
    revert hk h3
    cases a.outs with
    | nil => intro _ _; rfl
    | cons o r =>
      intro h3 hk
      have : r = [] := by simpa using h3
      subst this
      rcases hk o (by simp) with e | e <;> simp [nK, e]
  unfold budC
  omega
theorem bud_come {xs : List RC} {i : Nat} {x x' : RC} {a : Ans} (hx : xs[i]? = some x) (h : Step x.c a) (hx' : x'.c = a.c) : bud (xs.set i x') + a.outs.length ≤ bud xs := by
  have h1 := bud_set xs i x x' hx
  have h2 := budC_step h
  rw [hx'] at h1
  omega
structure TalkI (n f fr : Nat) (sent : ByteArray) (us : List Und) (xs : List RC) (td : List ByteArray) (dn : List Bool) (k p : Nat) : Prop where
  lx : xs.length = n
  lt : td.length = n
  ld : dn.length = n
  hw : ∀ u ∈ us, f ≤ u.who
  core : ∃ eo ro : Nat → Option ByteArray, Core n f fr sent (csF xs) (tdF td) (dnF dn) eo ro (fun u => u ∈ us) ∧ ∀ u ∈ us, VoteOk n f fr sent eo ro u
  good : ∀ x ∈ xs, Good x.c k
  phi : us.length + n * bud xs ≤ p
theorem TalkI.more {n f fr : Nat} {sent : ByteArray} {us : List Und} {xs : List RC} {td : List ByteArray} {dn : List Bool} {k p k' p' : Nat} (h : TalkI n f fr sent us xs td dn k p) (hk : k ≤ k') (hp : p ≤ p') : TalkI n f fr sent us xs td dn k' p' :=
  { h with good := fun x hx => by have := h.good x hx; exact ⟨this.we, this.wr, by have := this.le; omega, by have := this.lr; omega, this.dr⟩, phi := by have := h.phi; omega }
theorem TalkI.vote {n f fr : Nat} {sent : ByteArray} {us : List Und} {xs : List RC} {td : List ByteArray} {dn : List Bool} {k p : Nat} (h : TalkI n f fr sent us xs td dn k p) {u : Und} (hu : u ∈ us) : Hn n f u.dst ∧ u.body.size ≤ 100 ∧ u.who < n ∧ 1 ≤ u.kind ∧ u.kind ≤ 3 := by
  obtain ⟨eo, ro, _, hv⟩ := h.core
  obtain ⟨h1, h2, h3, h4⟩ := hv u hu
  refine ⟨h1, h2, h3, ?_⟩
  rcases h4 (h.hw u hu) with ⟨h5, _⟩ | ⟨h5, _⟩ | ⟨h5, _⟩ <;> omega
/-- a vote comes: u, those that stay under way us0 -/
theorem TalkI.come {n f fr : Nat} {sent : ByteArray} {us us0 : List Und} {xs : List RC} {td : List ByteArray} {dn : List Bool} {k p q : Nat} (h : TalkI n f fr sent us xs td dn k p) (hN : Num n f fr) (u : Und) (hsub : ∀ v ∈ us, v ∈ us0 ∨ (v = u ∧ f ≤ u.who)) (hsub' : ∀ v ∈ us0, v ∈ us)
    (hok : ∀ eo ro, (∀ v ∈ us, VoteOk n f fr sent eo ro v) → VoteOk n f fr sent eo ro u) (hq : us0.length + n * bud xs ≤ q) {x : RC} (hx : xs[u.dst]? = some x) {a : Ans} (ha : takeM x.c (2 ^ n - 1) (fr : Int) u.kind (u.who : Int) u.body = a) :
    (a.is = true → dn[u.dst]? = some false) ∧ ∀ x' : RC, x'.c = a.c → TalkI n f fr sent (us0 ++ casts n f u.dst a.outs) (xs.set u.dst x') (tdL td u.dst a) (dnL dn u.dst a) (k + 1) q := by
  obtain ⟨eo, ro, hC, hV⟩ := h.core
  have hu := hok eo ro hV
  have hd : u.dst < n := hu.1.2
  have hc := come_core hN hC u hu
  have hcx : csF xs u.dst = x.c := csF_at hx
  rw [hcx, ha] at hc
  obtain ⟨hdn, eo', ro', he, hr, hcv, hcc⟩ := hc
  have hstep : Step x.c a := ha ▸ take_step _ _ _ _ _ _
  have hcl : (casts n f u.dst a.outs).length ≤ n * a.outs.length := by
    rw [casts_length, Nat.mul_comm]
    exact Nat.mul_le_mul_right _ (by omega)
  refine ⟨fun hi => ?_, fun x' hx' => ?_⟩
  · have h1 := hdn hi
    unfold dnF at h1
    rw [List.getD_eq_getElem?_getD, List.getElem?_eq_getElem (by rw [h.ld]; exact hd)] at h1
    rw [List.getElem?_eq_getElem (by rw [h.ld]; exact hd)]
    simpa using h1
  · refine ⟨by rw [List.length_set]; exact h.lx, ?_, ?_, fun v hv => ?_, ⟨eo', ro', ?_, fun v hv => ?_⟩, fun y hy => ?_, ?_⟩
    · unfold tdL; split
      · rw [List.length_set]; exact h.lt
      · exact h.lt
    · unfold dnL; split
      · rw [List.length_set]; exact h.ld
      · exact h.ld
    · rcases List.mem_append.1 hv with hv | hv
      · exact h.hw v (hsub' v hv)
      · rw [(casts_mem hv).2.1]; exact hu.1.1
    · rw [csF_set (by rw [h.lx]; exact hd), tdF_set (by rw [h.lt]; exact hd), dnF_set (by rw [h.ld]; exact hd), hx']
      refine hcc _ (fun v hv => ?_) (fun v hv => List.mem_append_right _ hv)
      rcases hsub v hv with h1 | h1
      · exact .inl (List.mem_append_left _ h1)
      · exact .inr h1
    · rcases List.mem_append.1 hv with hv | hv
      · exact (hV v (hsub' v hv)).later he hr
      · exact hcv v hv
    · rcases List.mem_or_eq_of_mem_set hy with hy | rfl
      · exact (h.good y hy).more
      · rw [hx', ← ha]
        exact take_good (h.good x (List.mem_of_getElem? hx)) _ _ _ _ _
    · have h1 := bud_come hx hstep hx'
      have h2 : n * bud (xs.set u.dst x') + n * a.outs.length ≤ n * bud xs := by rw [← Nat.mul_add]; exact Nat.mul_le_mul_left _ h1
      rw [List.length_append]
      omega
/-- what was told agrees -/
theorem TalkI.agree {n f fr : Nat} {sent : ByteArray} {us : List Und} {xs : List RC} {td : List ByteArray} {dn : List Bool} {k p : Nat} (h : TalkI n f fr sent us xs td dn k p) (hN : Num n f fr) :
    (∀ i j, Hn n f i → Hn n f j → dn[i]? = some true → dn[j]? = some true → td[i]? = td[j]?) ∧ (f ≤ fr → ∀ i, Hn n f i → dn[i]? = some true → td[i]? = some sent) := by
  obtain ⟨eo, ro, hC, _⟩ := h.core
  obtain ⟨h1, h2⟩ := agree_core hN hC
  have hd : ∀ i, dn[i]? = some true → dnF dn i = true := fun i hi => by unfold dnF; rw [List.getD_eq_getElem?_getD, hi]; rfl
  have ht : ∀ i, Hn n f i → td[i]? = some (tdF td i) := fun i hi => by
    unfold tdF
    have : i < td.length := by rw [h.lt]; exact hi.2
    rw [List.getD_eq_getElem?_getD, List.getElem?_eq_getElem this]
    rfl
  refine ⟨fun i j hi hj h3 h4 => ?_, fun hf i hi h3 => ?_⟩
  · rw [ht i hi, ht j hj, h1 i j hi hj (hd i h3) (hd j h4)]
  · rw [ht i hi, h2 hf i hi (hd i h3)]
/-- nothing is under way -/
theorem TalkI.ends {n f fr : Nat} {sent : ByteArray} {xs : List RC} {td : List ByteArray} {dn : List Bool} {k p : Nat} (h : TalkI n f fr sent [] xs td dn k p) (hN : Num n f fr) :
    (f ≤ fr → ∀ i, Hn n f i → dn[i]? = some true) ∧ ((∃ i, Hn n f i ∧ dn[i]? = some true) → ∀ i, Hn n f i → dn[i]? = some true) := by
  obtain ⟨eo, ro, hC, _⟩ := h.core
  obtain ⟨h1, h2⟩ := ends_core hN hC (fun x hx => by simp at hx)
  have hb : ∀ i, Hn n f i → dnF dn i = true → dn[i]? = some true := fun i hi hd => by
    unfold dnF at hd
    have : i < dn.length := by rw [h.ld]; exact hi.2
    rw [List.getD_eq_getElem?_getD, List.getElem?_eq_getElem this] at hd
    rw [List.getElem?_eq_getElem this]
    simpa using hd
  refine ⟨fun hf i hi => hb i hi (h1 hf i hi), fun ⟨i, hi, hd⟩ j hj => hb j hj (h2 ⟨i, hi, ?_⟩ j hj)⟩
  unfold dnF
  rw [List.getD_eq_getElem?_getD, hd]
  rfl
def x0 : RC := ⟨⟨false, false, false, [], []⟩, none, 0, none, 0⟩
theorem bud_start (n : Nat) : bud (List.replicate n x0) = 2 * n := by
  induction n with
  | zero => rfl
  | succ n ih => rw [List.replicate_succ, bud, ih]; simp [budC, x0, b2n]; omega
theorem csF_start (n i : Nat) : csF (List.replicate n x0) i = ⟨false, false, false, [], []⟩ := by
  unfold csF
  rw [List.getElem?_replicate]
  split
  · rename_i h
    split at h
    · cases h; rfl
    · cases h
  · rfl
theorem TalkI.start {n f fr : Nat} (hN : Num n f fr) (sent : ByteArray) (hs : sent.size ≤ 100) : TalkI n f fr sent (if f ≤ fr then castN f n fr 1 sent else []) (List.replicate n x0) (List.replicate n ⟨#[]⟩) (List.replicate n false) 0 105 := by
  have hn7 := hN.n7; have hn1 := hN.n1; have hfn := hN.fn
  have hdn : ∀ i, dnF (List.replicate n false) i = false := fun i => by
    unfold dnF
    rw [List.getD_eq_getElem?_getD, List.getElem?_replicate]
    split <;> rfl
  have hz : sz 0 = 0 := by decide
  have hno1 : ∀ b, ¬ (echoes (n : Int) ≤ (sz (forL [] b) : Nat) ∨ f + 1 ≤ sz (forL [] b)) := fun b h => by
    have he := hN.echoes
    rcases h with h | h
    · simp only [forL] at h
      rw [he, hz] at h
      omega
    · simp only [forL] at h
      rw [hz] at h
      omega
  have hno2 : ∀ b, ¬ (2 * f + 1 ≤ sz (forL [] b)) := fun b h => by
    simp only [forL] at h
    rw [hz] at h
    omega
  have hin : ∀ u ∈ (if f ≤ fr then castN f n fr 1 sent else []), f ≤ fr ∧ Hn n f u.dst ∧ u.who = fr ∧ u.kind = 1 ∧ u.body = sent := fun u hu => by
    split at hu
    · rename_i h
      unfold castN at hu
      rw [List.mem_map] at hu
      obtain ⟨d, hd, rfl⟩ := hu
      rw [List.mem_range'_1] at hd
      exact ⟨h, ⟨hd.1, by show d < n; omega⟩, rfl, rfl, rfl⟩
    · simp at hu
  refine ⟨by simp, by simp, by simp, fun u hu => ?_, ⟨fun _ => none, fun _ => none, ⟨fun i hi => ?_, fun i b _ h => (by cases h), fun _ i b _ h => (by cases h), fun i k b _ _ h => (by cases h), fun i k b _ _ h => (by cases h), fun hf i hi => ?_⟩, fun u hu => ?_⟩, fun x hx => ?_, ?_⟩
  · obtain ⟨h1, _, h2, _⟩ := hin u hu; omega
  · rw [csF_start, hdn]
    exact { ec := rfl, rc := rfl, dc := rfl, ve := fun j h => (by simp [votedL] at h), vr := fun j h => (by simp [votedL] at h), eb := fun b j h => (by simp [Bit, forL] at h), rb := fun b j h => (by simp [Bit, forL] at h), dq := fun h => (by cases h), lr := fun b h => absurd h (hno1 b), ld := fun b h => absurd h (hno2 b) }
  · right
    simp only [if_pos hf]
    unfold castN
    rw [List.mem_map]
    exact ⟨i, by rw [List.mem_range'_1]; have := hi.1; have := hi.2; omega, rfl⟩
  · obtain ⟨h0, h1, h2, h3, h4⟩ := hin u hu
    refine ⟨h1, by rw [h4]; exact hs, by rw [h2]; exact hN.fr, fun _ => .inl ⟨h3, h2, h4⟩⟩
  · rw [List.eq_of_mem_replicate hx]
    exact ⟨fun b hb => (by cases hb), fun b hb => (by cases hb), Nat.le_refl _, Nat.le_refl _, fun h => by cases h⟩
  · rw [bud_start]
    have : (if f ≤ fr then castN f n fr 1 sent else []).length ≤ n := by
      split
      · rw [castN_len]; omega
      · simp
    have h5 : n * (2 * n) ≤ 7 * (2 * 7) := Nat.mul_le_mul hn7 (Nat.mul_le_mul_left _ hn7)
    omega
theorem mem_erase {us : List Und} {i : Nat} (hi : i < us.length) : ∀ v ∈ us, v ∈ us.eraseIdx i ∨ v = us[i] := fun v hv => by
  obtain ⟨k, hk, rfl⟩ := List.getElem_of_mem hv
  by_cases h : k = i
  · subst h; exact .inr rfl
  · exact .inl (List.mem_eraseIdx_iff_getElem.2 ⟨k, hk, h, rfl⟩)
end Go.Proofs.Ytkppilpailbpeaa.Vot
