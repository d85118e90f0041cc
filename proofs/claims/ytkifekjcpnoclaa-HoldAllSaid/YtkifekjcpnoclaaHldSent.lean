/- What is said, as it comes in; the text of a letter. -/
import Derived.Test.YtkifekjcpnoclaaHldHisP
import Derived.Test.YtkifekjcpnoclaaOpen
namespace Go.Proofs.Ytkifekjcpnoclaa.Hld
open Go Go.RowKit Go.Proofs.YtkifekjcpnoclaaW.PrintWords Go.Proofs.Ytkifekjcpnoclaa.Sep Go.Proofs.Ytkifekjcpnoclaa.Obj Go.Proofs.Ytkifekjcpnoclaa.Opn
set_option linter.unusedVariables false
set_option linter.unusedSimpArgs false
def kSe : Kd (Int × Int) := Kd.pair (Kd.int .u8) (Kd.int .u8)
theorem opensSe : Opens Try.prog 81 kSe (fun x => WI .u8 x.1 ∧ WI .u8 x.2) :=
  opens_struct Try.underlying81 (by kernel_rfl) (opensF_cons rfl (by kernel_rfl) (opens_int Try.underlying5) (opensF_one rfl (by kernel_rfl) (opens_int Try.underlying5)))
theorem at_plain {w : World} {ad : Addr} {u : Value} (h : w.cell? ad = some u) (hs : u.oneCell' = true) (hn : ∀ cs, u ≠ .agg cs) : ∃ g o, ad = ⟨g, o, none⟩ := by
  obtain ⟨g, o, sp⟩ := ad
  cases sp with
  | none => exact ⟨g, o, rfl⟩
  | some s =>
    exfalso
    unfold World.cell? at h
    split at h <;> simp at h
theorem at_Se {w : World} {A : Option Addr} {n : Nat} {xs : List (Int × Int)} (h : kSe.C w A n xs) (i : Nat) (h1 : i < xs.length) : ∃ g o, A = some ⟨g, o, none⟩ ∧ w.cell? ⟨g, o + i * 2, none⟩ = some (.int .u8 xs[i].1) ∧ w.cell? ⟨g, o + i * 2 + 1, none⟩ = some (.int .u8 xs[i].2) := by
  have hn := Kd.C_len h
  obtain ⟨ad, c, e, _, hK, hc0⟩ := Kd.C_get h (0, 0) (i : Int) (by omega) (by omega)
  have hx : xs.getD (i : Int).toNat (0, 0) = xs[i] := by simp [h1]
  rw [hx] at hK
  obtain ⟨_, _, rfl, rfl, rfl⟩ := hK
  have h0 := hc0 0 _ rfl
  have h2 := hc0 1 _ rfl
  obtain ⟨g, o, sp⟩ := ad
  cases sp with
  | none =>
    refine ⟨g, o, e, ?_, ?_⟩
    · rw [add_at] at h0; exact h0
    · rw [add_at] at h2; exact h2
  | some s =>
    exfalso
    obtain ⟨ad2, c2, e2, _, hK2, hc2⟩ := Kd.C_get h (0, 0) (0 : Int) (by omega) (by omega)
    obtain rfl := Option.some.inj (e.symm.trans e2)
    obtain ⟨_, _, rfl, rfl, rfl⟩ := hK2
    have h0 := hc2 0 _ rfl
    have e3 : ((⟨g, o, some s⟩ : Addr).add ((0 : Int).toNat * kSe.sz + 0)) = ⟨g, o, some s⟩ := rfl
    rw [e3] at h0
    unfold World.cell? at h0
    split at h0 <;> simp at h0
theorem at_B {w : World} {A : Option Addr} {n : Nat} {xs : List Int} (h : (Kd.int .u8).C w A n xs) (i : Nat) (h1 : i < xs.length) : ∃ g o, A = some ⟨g, o, none⟩ ∧ w.cell? ⟨g, o + i, none⟩ = some (.int .u8 xs[i]) := by
  have hn := Kd.C_len h
  obtain ⟨ad, c, e, _, hK, hc0⟩ := Kd.C_get h 0 (i : Int) (by omega) (by omega)
  have hx : xs.getD (i : Int).toNat 0 = xs[i] := by simp [h1]
  rw [hx] at hK
  obtain rfl := hK
  have h0 := hc0 0 _ rfl
  obtain ⟨g, o, sp⟩ := ad
  cases sp with
  | none =>
    refine ⟨g, o, e, ?_⟩
    rw [add_at] at h0
    have e1 : o + ((i : Int).toNat * (Kd.int .u8).sz + 0) = o + i := by show o + ((i : Int).toNat * 1 + 0) = o + i; omega
    rw [e1] at h0
    exact h0
  | some s =>
    exfalso
    obtain ⟨ad2, c2, e2, _, hK2, hc2⟩ := Kd.C_get h 0 (0 : Int) (by omega) (by omega)
    obtain rfl := Option.some.inj (e.symm.trans e2)
    obtain rfl := hK2
    have h0 := hc2 0 _ rfl
    have e3 : ((⟨g, o, some s⟩ : Addr).add ((0 : Int).toNat * (Kd.int .u8).sz + 0)) = ⟨g, o, some s⟩ := rfl
    rw [e3] at h0
    unfold World.cell? at h0
    split at h0 <;> simp at h0
set_option maxRecDepth 100000 in
theorem rune_run {a : Act} {o : Oper} {x : Operand} (ho : o.op = .convert 21 9 x) (r : Nat) (hr : r < 26) (hx : a.eval x = .int .i32 (97 + (r : Int))) (w : World) : (execOp a.eval o).run Try.prog w = .ok (.value (.string (runeB r))) w := by
  simp only [execOp, ho, hx]
  obtain rfl | rfl | rfl | rfl | rfl | rfl | rfl | rfl | rfl | rfl | rfl | rfl | rfl | rfl | rfl | rfl | rfl | rfl | rfl | rfl | rfl | rfl | rfl | rfl | rfl | rfl : r = 0 ∨ r = 1 ∨ r = 2 ∨ r = 3 ∨ r = 4 ∨ r = 5 ∨ r = 6 ∨ r = 7 ∨ r = 8 ∨ r = 9 ∨ r = 10 ∨ r = 11 ∨ r = 12 ∨ r = 13 ∨ r = 14 ∨ r = 15 ∨ r = 16 ∨ r = 17 ∨ r = 18 ∨ r = 19 ∨ r = 20 ∨ r = 21 ∨ r = 22 ∨ r = 23 ∨ r = 24 ∨ r = 25 := by omega
  all_goals kernel_rfl
theorem ev_loadA_step {P : Program} {ops : Array Oper} {o : Oper} {a : Act} {Q : Exit → Act → World → Prop} {Kc : Act → World → Prop} {E : Prop} {w : World} {g : Nat} {cs : Array Value} {T : TypeId} (hg : w.heap[g]? = some (.cells cs T (0, 0))) (j n : Nat) (vs : Array Value) (hvs : cs.extract j (j + n) = vs) (hw : Region.wanted o (yielded ops a.tmps) = true) {t : TypeId} {p : Operand} (ho : o.op = .load t p) (hp : a.eval p = .pointer (some ⟨g, j, none⟩)) {d : TypeDesc} (hu : P.underlying t = some d) (hd : d.isRow = true) (hs : vs.size = n) (hn : (P.info? t).map (·.size) = some n)
    (h : Kc (a.put o.dst (.agg vs)) w) : if Region.wanted o (yielded ops a.tmps) = true then Oper.wp P o a w Kc Q else E := by
  rw [if_pos hw]
  have hr := World.rangeAt_of_block hg j n
  rw [hvs] at hr
  exact wp_load_mid t p ho g j hp vs.toList d hr hu hd (by rw [hn]; simp [hs]) (by simpa using h)
theorem ev_loadR_step {P : Program} {ops : Array Oper} {o : Oper} {a : Act} {Q : Exit → Act → World → Prop} {Kc : Act → World → Prop} {E : Prop} {w : World} {b p0 n : Nat} {cs : Array Value} (hr : w.rangeAt b p0 cs.toList) (hw : Region.wanted o (yielded ops a.tmps) = true) {t : TypeId} {p : Operand} (ho : o.op = .load t p) (hp : a.eval p = .pointer (some ⟨b, p0, none⟩)) {d : TypeDesc} (hu : P.underlying t = some d) (hd : d.isRow = true) (hs : cs.size = n) (hn : (P.info? t).map (·.size) = some n)
    (h : Kc (a.put o.dst (.agg cs)) w) : if Region.wanted o (yielded ops a.tmps) = true then Oper.wp P o a w Kc Q else E := by
  rw [if_pos hw]
  exact wp_load_mid t p ho b p0 hp cs.toList d hr hu hd (by rw [hn]; simp [hs]) (by simpa using h)
theorem perm_apart {xs H : List It} (p : xs.Perm H) (h : Apart H) : Apart xs := (List.Perm.pairwise_iff (fun {a b} (h : same a b = false) => by rw [same_comm]; exact h) p).2 h
theorem take_apart {xs : List It} (h : Apart xs) {i : Nat} (hi : i < xs.length) : ∀ y ∈ xs.take i, same y xs[i] = false := by
  intro y hy
  obtain ⟨k, hk, rfl⟩ := List.getElem_of_mem hy
  rw [List.getElem_take]
  exact List.pairwise_iff_getElem.1 h k i _ hi (by simp at hk; omega)
theorem swap_perm {xs : List It} {i k : Nat} (hi : i < xs.length) (hk : k < xs.length) : ((xs.set i xs[k]).set k xs[i]).Perm xs := List.set_set_perm hi hk
theorem swap_take (xs : List It) {i k : Nat} (hik : i ≤ k) (a b : It) : ((xs.set i a).set k b).take i = xs.take i := by
  apply List.ext_getElem?
  intro j
  rw [List.getElem?_take, List.getElem?_take]
  split
  · rw [List.getElem?_set_ne (by omega), List.getElem?_set_ne (by omega)]
  · rfl
/-- an element of a row is written whole -/
theorem evS_elem_step {P : Program} {ops : Array Oper} {o : Oper} {a : Act} {Q : Exit → Act → World → Prop} {Kc : Act → World → Prop} {E : Prop} {S : Nat → Prop} {As : List Asr} {w0 W : World} (HH : OwnS S As w0 W) (i : Nat) (hw : Region.wanted o (yielded ops a.tmps) = true) (hN : o.dst = none) {t : TypeId} {p x : Operand} (ho : o.op = .store t p x)
    {g n c e : Nat} {xs : List It} (hi : As[i]? = some (Sep.row kIt e (.slice (some ⟨g, 0, none⟩) n c) xs)) (k : Nat) (hk : k < n) {off : Nat} (hp : a.eval p = .pointer (some ⟨g, off, none⟩)) (hoff : off = k * 20) (y : It) (hy : okI y) (hx : a.eval x = .agg (itC y)) (ht : (P.info? t).map (·.size) = some 20)
    (h : ∀ w', OwnS S (As.set i (Sep.row kIt e (.slice (some ⟨g, 0, none⟩) n c) (xs.set k y))) w0 w' → Kc a w') : if Region.wanted o (yielded ops a.tmps) = true then Oper.wp P o a W Kc Q else E := by
  rw [if_pos hw]
  subst hoff
  obtain ⟨h0, F, hF⟩ := HH
  have HO : kIt.R e W 0 (Fp S w0 W F i) (.slice (some ⟨g, 0, none⟩) n c) xs := hF i _ hi
  have hn := (Kd.R_reads' HO).1
  have hk' : k < xs.length := by omega
  obtain ⟨g', o', ea, hox, hrx⟩ := at_It (Kd.R_reads' HO).2.2 k hk'
  cases ea
  have hcl : (itC xs[k]).toList.length = kIt.sz := by rw [Array.length_toList, itC_size _ hox.1.1]; rfl
  have hyl : (itC y).toList.length = 20 := by rw [Array.length_toList, itC_size _ hy.1.1]
  have hM : kIt.M W 0 (fun _ => False) y ((itC xs[k]).toList.take 0 ++ (itC y).toList ++ (itC xs[k]).toList.drop (0 + (itC y).toList.length)) := by
    refine ⟨?_, hy⟩
    rw [List.drop_of_length_le (by rw [hcl, hyl]; exact Nat.le_refl _)]
    simp
  obtain ⟨hrow, hg⟩ := Kd.R_seg HO (i := (k : Int)) (j := 0) (seg := (itC y).toList) (okp := fun _ => False) (by omega) (by omega) hcl (fun j u hj => by have := hrx j u hj; simp only [Int.toNat_natCast, Nat.zero_add] at this ⊢; exact this) (by rw [hyl]; exact Nat.le_refl _) hM (fun _ hk => hk.elim)
  obtain ⟨_, inner, hown, hr⟩ := HO
  have hrun : (Instr.storeAt t (.pointer (some ⟨g, k * 20, none⟩)) (.agg (itC y))).run P W = .ok () (W.setCells g (k * 20) (itC y).toList) := by
    rcases hown.2 with ⟨hv, _⟩ | ⟨g', cap', cur, hv, hb, hh, hnc, hcm, hcs, _⟩
    · cases hv
    injection hv with ha _ hc
    injection ha with ha
    injection ha with hg'
    subst hg'; subst hc
    refine run_store_run t _ (itC y).toList hh rfl (by rw [ht, hyl]) ?_ (itC_one y)
    rw [hyl]
    have h2 : k * 20 + 20 ≤ n * 20 := by omega
    have h3 : n * 20 ≤ c * 20 := Nat.mul_le_mul_right _ (by omega)
    have h4 : cur.size = c * 20 := hcs
    omega
  unfold Oper.wp execOp
  simp only [ho, hp, hx, Sem.run_bind, Sem.run_pure, Result.andThen_ok, hrun]
  show Kc (a.put o.dst undef) _
  rw [hN]
  have key := ownS_modF h0 hF i hi (Sep.row kIt e (.slice (some ⟨g, 0, none⟩) n c) (xs.set k y)) (w' := W.setCells g (k * 20) (itC y).toList) (Frm.grown (hg : W.grownBy (W.setCells g (k * 20) (itC y).toList) (some g)) (fun q hq => by cases hq; exact (hF i _ hi).1 g (by simp [Value.ownBlock]))) (Kd.R_mono (hrow : kIt.R e (W.setCells g (k * 20) (itC y).toList) 0 (Fp S w0 W F i) (.slice (some ⟨g, 0, none⟩) n c) (xs.set k y)) (fun _ hq => .inl hq))
  exact h _ key
end Go.Proofs.Ytkifekjcpnoclaa.Hld
