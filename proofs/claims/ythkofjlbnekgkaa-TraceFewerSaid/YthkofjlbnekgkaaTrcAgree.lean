/- The walk of Agree. -/
import Derived.Test.YthkofjlbnekgkaaTrcInv
import Derived.Deep.RegionHeld3
import Derived.Deep.DrawnRows
import Derived.Deep.AppendLies
namespace Go.Proofs.Ythkofjlbnekgkaa.Trc
open Go Go.RowKit Go.Maps Go.Proofs.YthkofjlbnekgkaaW.PrintWords Go.Proofs.Ythkofjlbnekgkaa.PTraceAgrees Go.Proofs.Ythkofjlbnekgkaa.Mp
set_option linter.unusedVariables false
set_option linter.unusedSimpArgs false
attribute [local go_sem high] eqA50 eqA52 eqA54
attribute [local go_sem ↓] Go.wp_at_zero Go.wp_at_succ

theorem zero26 (w : World) : (zeroValue 26).run Try.prog w = .ok (.slice none 0 0) w := by kernel_rfl
theorem at_L50 {w : World} {A : Option Addr} {n : Nat} {xs : List (List S50)} (h : Kd.C (Kd.slice 50 k50) w A n xs) (i : Nat) (h0 : i < xs.length) (h1 : i < n) :
    ∃ ad A0 c0, A = some ad ∧ w.cell? (ad.add i) = some (.slice A0 xs[i].length c0) ∧ xs[i].length ≤ c0 ∧ Kd.C k50 w A0 xs[i].length xs[i] := by
  obtain ⟨ad, c, e, _, hK, hc0⟩ := Kd.C_get h [] (i : Int) (by omega) (by omega)
  have hg : xs.getD (i : Int).toNat [] = xs[i] := by simp [h0]
  rw [hg] at hK
  obtain ⟨A0, c0, rfl, hle, hC⟩ := hK
  refine ⟨ad, A0, c0, e, ?_, hle, hC⟩
  have := hc0 0 _ rfl
  simpa [Kd.slice] using this

theorem source_calls' (y : S50) (w : World) : Calls Try.prog 25 #[.agg #[.int .i64 y.f0.f0, .int .u8 y.f0.f1, .int .i64 y.f0.f2, .string y.f1]] w (fun e w' => e = .returned (.agg #[.int .i64 y.f0.f0, .int .u8 y.f0.f1]) ∧ w' = (w.alloc (.cells #[.int .i64 y.f0.f0, .int .u8 y.f0.f1, .int .i64 y.f0.f2, .string y.f1] 50)).alloc (.cells #[.int .i64 y.f0.f0, .int .u8 y.f0.f1] 54)) := by
  go_enter Try.func25, Try.ntmps25
  go_wp2_with fail
  exact bodyPost_ret (v := .agg #[.int .i64 y.f0.f0, .int .u8 y.f0.f1]) (by simp [results, Try.results25, go_sem]) rfl ⟨rfl, rfl⟩

/-- append of one entry that lies in a box of its own, at a step of a region that draws -/
theorem step_append_row {ops : Array Oper} {o : Oper} {a : Act} {K : Act → World → Prop} {Q : Exit → Act → World → Prop} {E : Prop} (w w0 : World) (hgd : o.guard = none) (s x : Operand)
    (ho : o.op = .call { callee := .builtin .append, args := #[s, x], argTypes := #[26, 26] })
    (base : Nat) (v : Value) (xs : List S50) (y : S50) (hs : a.eval s = v) (HO : Row50 w base v xs) (B : Nat) (hx : a.eval x = .slice (some ⟨B, 0, none⟩) 1 1)
    (hbox : w.heap[B]? = some (.cells #[.int .i64 y.f0.f0, .int .u8 y.f0.f1, .int .i64 y.f0.f2, .string y.f1] 50 (0, 0))) (hl : xs.length < 3518437208883) (hb : Below w0.heap.size w0 w) (hbase : base ≤ w0.heap.size)
    (h : ∀ v1 w1, Below w0.heap.size w0 w → Row50 w1 base v1 (xs ++ [y]) → w.grownBy w1 v.ownBlock → (v1.ownBlock = v.ownBlock ∨ ∃ b, v1.ownBlock = some b ∧ w.heap.size ≤ b) → K (a.put o.dst v1) w1) :
    if Region.wanted o (yielded ops a.tmps) = true then Oper.wp Try.prog o a w K Q else E := by
  obtain ⟨i0, hi0, hz0, hz1, hz2⟩ := info_parts info50
  obtain ⟨h0, inner, hown, hr⟩ := HO
  have hsz := hb.size
  refine step_append_lies w hgd s x _ ho base 50 i0 _ 4 40 Try.underlying26 hi0 hz0 hz1 hz2 rfl (by omega) v xs.length inner hs hown
    ⟨B, 0, none⟩ 1 1 [.int .i64 y.f0.f0, .int .u8 y.f0.f1, .int .i64 y.f0.f2, .string y.f1] hx (by rfl) (World.news_of_block hbox) (by simp [Value.oneCell'])
    (by omega) (by unfold maxLen; omega) (by omega) (by omega) w.heap.size rfl ?_
  intro g cap w1 hown1 hgrow hat hlt
  have hat' : Value.ownBlock (.slice (some ⟨g, 0, none⟩) (xs.length + 1) cap) = v.ownBlock ∨ ∃ b, Value.ownBlock (.slice (some ⟨g, 0, none⟩) (xs.length + 1) cap) = some b ∧ w.heap.size ≤ b := by
    rcases hat with h | h
    · exact .inl (by rw [h]; rfl)
    · exact .inr ⟨g, rfl, by omega⟩
  exact h _ w1 hb (Kd.R_appended (okp := fun _ => False) h0 hr (k50_mkM _ _ _ y) (fun _ hk => hk.elim) (fun _ _ => trivial) hown1 hgrow hat') hgrow hat'

theorem blk_new' {w : World} {o : Obj} {B : Nat} (h : w.heap.size = B) : (w.alloc o).heap[B]? = some o := h ▸ blk_new w o
theorem grown_refl (w : World) (row : Option Nat) : w.grownBy w row := ⟨rfl, rfl, rfl, Nat.le_refl _, fun _ _ _ => rfl⟩
/-- a row's block is no map's -/
theorem row_not_map {w : World} {base b n : Nat} {v : Value} {xs : List S50} {g : Int × Int → Option Value} (h : Row50 w base v xs) (hm : MapIs Try.prog 54 srcV w b n g) : some b ≠ v.ownBlock := by
  intro e
  obtain ⟨inner, ho⟩ := Kd.R_own h
  obtain ⟨cs, hcs⟩ := own_typed ho b e.symm
  obtain ⟨D, ⟨es, clock, hb, _⟩, _⟩ := hm
  rw [hb] at hcs
  cases hcs

theorem R_start {w : World} {base : Nat} {v : Value} {xs : List S50} (h : Row50 w base v xs) : ∀ k, v.ownBlock = some k → base ≤ k := by
  obtain ⟨inner, ho⟩ := Kd.R_own h
  exact own_base ho
theorem wpList_next_row {ops : Array Oper} {rest : List Oper} {o : Oper} {a : Act} {Q : Exit → Act → World → Prop} {w : World} {b r n base : Nat} {q : Int × Int → Option Value} {dn : Int × Int → Prop} {x : List S50}
    (hg : o.guard = none) (it : Operand) (hop : o.op = Op.next it false) (hit : a.eval it = .pointer (some ⟨r, 0, none⟩))
    (h : RangeIs Try.prog 54 srcV w b r n q dn) (hO : OwnR w base q x)
    (hDone : Aside0 (∀ s, okS s → q s ≠ none → dn s) → wpList Try.prog ops Q rest (a.put o.dst (.tuple #[.bool false])) w)
    (hMore : ∀ (s : Int × Int) (A1 : Option Addr) (c1 : Nat) (w' : World), Aside0 (okS s) → Aside0 (Row50 w' base (.slice A1 (ofL x s.1 s.2).length c1) (ofL x s.1 s.2)) → (ofL x s.1 s.2).length ≤ c1 → Aside0 (¬ dn s) → Aside0 (RangeIs Try.prog 54 srcV w' b r n q (fun y => dn y ∨ y = s)) → w'.rangeLeft b r < w.rangeLeft b r →
      Aside0 (w.grownBy w' (some r)) → w'.heap.size = w.heap.size → Aside0 (CK w w') → (Instr.entry (.pointer (some ⟨r, 0, none⟩))).run Try.prog w' = .ok (.tuple #[.agg #[.int .i64 s.1, .int .u8 s.2], .slice A1 (ofL x s.1 s.2).length c1]) w' → wpList Try.prog ops Q rest (a.put o.dst (.tuple #[.bool true, .agg #[.int .i64 s.1, .int .u8 s.2], .slice A1 (ofL x s.1 s.2).length c1])) w') :
    wpList Try.prog ops Q (o :: rest) a w := by
  refine wpList_next_is hg it hop keys54 hit h (fun h => hDone ⟨h⟩) ?_
  intro s v w' hs hnd hq hrg hlt hgr hsz hen
  have hck := CK.iter h hgr
  rcases hO s with ⟨h0, _⟩ | ⟨v', hv', hrow⟩
  · rw [h0] at hq; cases hq
  · rw [hv'] at hq
    cases hq
    obtain ⟨A1, c1, rfl, hle, _⟩ := Kd.R_reads hrow
    exact hMore s A1 c1 w' ⟨hs⟩ ⟨R_ck hrow hck⟩ hle ⟨hnd⟩ ⟨hrg⟩ hlt ⟨hgr⟩ hsz ⟨hck⟩ hen
theorem way3 (a b : List S50) : Aside0 (pre a b = false) ∨ (Aside0 (pre a b = true) ∧ b.length < a.length) ∨ (Aside0 (pre a b = true) ∧ a.length ≤ b.length) := by
  cases h : pre a b
  · exact .inl ⟨rfl⟩
  · rcases Nat.lt_or_ge b.length a.length with h' | h'
    · exact .inr (.inl ⟨⟨rfl⟩, h'⟩)
    · exact .inr (.inr ⟨⟨rfl⟩, h'⟩)
theorem long_le {l : List (List S50)} {i : Nat} {s : Int × Int} {xs : List S50} (h : ∀ x ∈ l, x.length ≤ 30) (hx : (∃ a ∈ l.take i, xs = ofL a s.1 s.2) ∨ xs = []) : xs.length ≤ 30 := by
  rcases hx with ⟨a, ha, rfl⟩ | rfl
  · exact Nat.le_trans (List.length_filter_le _ _) (h a (List.mem_of_mem_take ha))
  · simp
theorem ofL_none {x : List S50} (hx : ∀ y ∈ x, okE y) {s : Int × Int} (hs : ¬ okS s) : ofL x s.1 s.2 = [] := by
  unfold ofL
  rw [List.filter_eq_nil_iff]
  intro y hy h
  rw [isOf_iff] at h
  obtain ⟨h1, h2⟩ := h
  have := hx y hy
  exact hs ⟨h1 ▸ this.1.1, h2 ▸ this.1.2.1⟩
theorem range_keeps {w w' : World} {b r n : Nat} {q : Int × Int → Option Value} {dn : Int × Int → Prop} {row : Option Nat} (h : RangeIs Try.prog 54 srcV w b r n q dn) (hg : w.grownBy w' row) (hb : some b ≠ row) (hr : some r ≠ row) :
    RangeIs Try.prog 54 srcV w' b r n q dn ∧ w'.rangeLeft b r = w.rangeLeft b r := h.moved (hg.block b h.lt.1 hb) (hg.block r h.lt.2 hr)

set_option maxHeartbeats 4000000 in
set_option maxRecDepth 100000 in
theorem agree_calls (A : Option Addr) (c : Nat) (l : List (List S50)) (w : World) (hr : Kd.C (Kd.slice 50 k50) w A l.length l) (hl : l.length ≤ 30) (hin : ∀ x ∈ l, x.length ≤ 30) (hok : ∀ x ∈ l, ∀ y ∈ x, okE y) :
    Calls Try.prog 22 #[.slice A l.length c] w (Kept (.bool (agL l)) w) := by
  have HR := Aside0.mk hr
  have HIN := Aside0.mk hin
  have HOK := Aside0.mk hok
  clear hr hin hok
  have HB := Aside0.mk (Below.refl w.heap.size w)
  have hmm := @run_makeMap Try.prog
  go_enter Try.func22, Try.ntmps22
  go_wp2_with fail
  go_loopw [14] (fun v14 w' => ∃ (i n : Nat) (g : Int × Int → Option Value), v14 = .int .i64 (i : Int) ∧ i ≤ l.length ∧ n ≤ 30 * i ∧ Aside0 (MapIs Try.prog 54 srcV w' w.heap.size n g) ∧ Aside0 (∀ s, LongR w' w.heap.size (l.take i) (g s) s) ∧ Aside0 (Below w.heap.size w w')) (fun v14 _ => l.length - (intOf v14).toNat)
  case atStart => exact ⟨0, 0, _, rfl, by omega, by omega, ⟨MapIs.made _ _ _ w⟩, ⟨fun s => .inl ⟨rfl, by simp⟩⟩, ⟨below_alloc HB.out _⟩⟩
  case round =>
    clear HB
    obtain ⟨i, n, g, rfl, hi, hn, HM, HL, HB⟩ := hrel
    by_cases hlt : i < l.length
    · have hC := Kd.C_below HR.out HB.out
      obtain ⟨ad, A0, c0, ea, h0, hle, hxr⟩ := at_L50 hC i hlt hlt
      cases ea
      have hx30 := HIN.out _ (List.getElem_mem hlt)
      have HXok := Aside0.mk (HOK.out _ (List.getElem_mem hlt))
      have HXr := Aside0.mk hxr
      have HTk : Aside0 (l.take (i + 1) = l.take i ++ [l[i]]) := ⟨by rw [← List.take_append_getElem hlt]⟩
      have HMem : Aside0 (l[i] ∈ l) := ⟨List.getElem_mem hlt⟩
      clear hC hxr
      generalize l[i] = x at *
      go_wp2_with fail
      generalize wr = wq at *
      go_loopw [21] (fun v21 w' => ∃ (j : Nat) (q : Int × Int → Option Value), v21 = .int .i64 (j : Int) ∧ j ≤ x.length ∧ Aside0 (MapIs Try.prog 54 srcV w' wq.heap.size j q) ∧ Aside0 (OwnR w' wq.heap.size q (x.take j)) ∧ Aside0 (ApartG q) ∧ Aside0 (Below wq.heap.size wq w')) (fun v21 _ => x.length - (intOf v21).toNat)
      case atStart => exact ⟨0, _, rfl, by omega, ⟨MapIs.made _ _ _ wq⟩, ⟨fun s => .inl ⟨rfl, by simp [ofL]⟩⟩, ⟨fun s s' v v' hv => by cases hv⟩, ⟨below_alloc (Below.refl _ _) _⟩⟩
      case round =>
        obtain ⟨j, q, rfl, hj, HQ, HO, HA, HBq⟩ := hrel
        by_cases hjlt : j < x.length
        · have hC := Kd.C_below HXr.out HBq.out
          obtain ⟨ad2, ea2, g0, g1, g2, g3⟩ := at_T50 hC (j : Int) (by omega) (by omega)
          cases ea2
          simp only [Int.toNat_natCast] at g0 g1 g2 g3
          have hY : rd_T50 x (j : Int) = x[j] := rd50 hjlt
          have HY : Aside0 (x.take (j + 1) = x.take j ++ [rd_T50 x (j : Int)]) := ⟨by rw [← List.take_append_getElem hjlt, hY]⟩
          have HYk : Aside0 (okE (rd_T50 x (j : Int))) := ⟨by rw [hY]; exact HXok.out _ (List.getElem_mem _)⟩
          clear hC hY
          generalize rd_T50 x (j : Int) = y at *
          have HRow := Aside0.mk (HO.out.at_ (srcOf y))
          have HQu : Aside0 (∀ s, q s = none ∨ ∃ v, q s = some v) := ⟨fun s => by cases q s <;> simp⟩
          obtain ⟨u, hu⟩ : ∃ u, (q (srcOf y)).getD (.slice none 0 0) = u := ⟨_, rfl⟩
          have HU := Aside0.mk hu
          rw [hu] at HRow
          clear hu
          have hS0 : okS (srcOf y) := ⟨HYk.out.1.1, HYk.out.1.2.1⟩
          have HS0 := Aside0.mk hS0
          clear hS0
          have HLk : Aside0 (∀ w', Below wr.heap.size wr w' → (Instr.lookup 61 (.map (some wq.heap.size)) (.agg #[.int .i64 y.f0.f0, .int .u8 y.f0.f1]) false).run Try.prog w' = .ok u w') := ⟨fun w' hb => by
            have := (HQ.out.below hb).look keys54 Try.underlying61 (zero26 _) (srcOf y) HS0.out
            rw [HU.out] at this
            exact this⟩
          have HNe := Aside0.mk (row_not_map HRow.out HQ.out)
          have HLtU := Aside0.mk (R_blk HRow.out)
          have HKS : Aside0 (∀ W w1 w', Below (wr.alloc (.cells #[.int .i64 y.f0.f0, .int .u8 y.f0.f1, .int .i64 y.f0.f2, .string y.f1] 50)).heap.size (wr.alloc (.cells #[.int .i64 y.f0.f0, .int .u8 y.f0.f1, .int .i64 y.f0.f2, .string y.f1] 50)) W → W.grownBy w1 u.ownBlock → CK w1 w' → w'.cell? ⟨wr.heap.size, 0, none⟩ = some (.int .i64 y.f0.f0) ∧ w'.cell? ⟨wr.heap.size, 1, none⟩ = some (.int .u8 y.f0.f1) ∧ w'.cell? ⟨wr.heap.size, 2, none⟩ = some (.int .i64 y.f0.f2) ∧ w'.cell? ⟨wr.heap.size, 3, none⟩ = some (.string y.f1)) := ⟨fun W w1 w' hb hg hck => by
            have hsz : (wr.alloc (.cells #[.int .i64 y.f0.f0, .int .u8 y.f0.f1, .int .i64 y.f0.f2, .string y.f1] 50)).heap.size = wr.heap.size + 1 := by simp
            have hlt1 : wr.heap.size < W.heap.size := by have := hb.size; omega
            have hne1 : some wr.heap.size ≠ u.ownBlock := fun e => by have := HLtU.out _ e.symm; omega
            have hbl : w'.heap[wr.heap.size]? = some (.cells #[.int .i64 y.f0.f0, .int .u8 y.f0.f1, .int .i64 y.f0.f2, .string y.f1] 50 (0, 0)) := hck _ _ _ ((hg.block _ hlt1 hne1).trans ((hb.block _ (by omega)).trans (blk_new wr _)))
            exact ⟨(blk_cell hbl 0).trans rfl, (blk_cell hbl 1).trans rfl, (blk_cell hbl 2).trans rfl, (blk_cell hbl 3).trans rfl⟩⟩
          have HPut : Aside0 (∀ W w1 v1, Below (wr.alloc (.cells #[.int .i64 y.f0.f0, .int .u8 y.f0.f1, .int .i64 y.f0.f2, .string y.f1] 50)).heap.size (wr.alloc (.cells #[.int .i64 y.f0.f0, .int .u8 y.f0.f1, .int .i64 y.f0.f2, .string y.f1] 50)) W → W.grownBy w1 u.ownBlock → ∃ w2, (Instr.mapUpdate 61 (.map (some wq.heap.size)) (.agg #[.int .i64 y.f0.f0, .int .u8 y.f0.f1]) v1).run Try.prog w1 = .ok () w2 ∧ MapIs Try.prog 54 srcV w2 wq.heap.size (j + 1) (upd q (srcOf y) v1) ∧ w1.grownBy w2 (some wq.heap.size) ∧ CK w1 w2) := ⟨fun W w1 v1 hb hg => by
            have hm := ((HQ.out.below (below_alloc (Below.refl _ _) (.cells #[.int .i64 y.f0.f0, .int .u8 y.f0.f1, .int .i64 y.f0.f2, .string y.f1] 50))).below hb).kept hg HNe.out
            obtain ⟨w2, h1, h2, h3⟩ := hm.put keys54 Try.underlying61 (by unfold maxLen; omega) (srcOf y) HS0.out v1
            exact ⟨w2, h1, h2, h3, CK.map hm h3⟩⟩
          have HOl := Aside0.mk (show (ofL (x.take j) (srcOf y).1 (srcOf y).2).length < 3518437208883 from Nat.lt_of_le_of_lt (List.length_filter_le _ _) (by simp; omega))
          go_wp2_with fail
          go_region_held3 (fun w' => w'.cell? ⟨wr.heap.size, 0, none⟩ = some (.int .i64 y.f0.f0) ∧ w'.cell? ⟨wr.heap.size, 1, none⟩ = some (.int .u8 y.f0.f1) ∧ w'.cell? ⟨wr.heap.size, 2, none⟩ = some (.int .i64 y.f0.f2) ∧ w'.cell? ⟨wr.heap.size, 3, none⟩ = some (.string y.f1))
            (first
              | exact HKS.out _ _ _ hbW hg1 hck2
              | exact HKS.out _ _ _ hbW hg1 (CK.refl _)
              | (refine HKS.out _ _ _ ?_ (grown_refl _ _) (CK.refl _); repeat (first | (with_reducible exact Below.refl _ _) | (with_reducible refine below_alloc ?_ _) | (with_reducible refine pw_below_drewN ?_ _) | (with_reducible refine below_drew ?_))))
            (first
              | (go_at_call 25; (refine (source_calls' y _).mono ?_; rintro e w1 ⟨rfl, hw⟩; have hb1 : Below wr.heap.size wr w1 := (by rw [hw]; repeat (first | (with_reducible exact Below.refl _ _) | (with_reducible refine below_alloc ?_ _) | (with_reducible refine pw_below_drewN ?_ _) | (with_reducible refine below_drew ?_))); have hlk1 := HLk.out w1 hb1; have hlk2 := HLk.out (w1.alloc (.cells #[.int .i64 y.f0.f0, .int .u8 y.f0.f1, .int .i64 y.f0.f2, .string y.f1] 50)) (below_alloc hb1 _); subst hw; clear hb1; (try simp only [World.alloc_drew] at hlk1); (try simp only [World.alloc_drew] at hlk2)))
              | (refine step_append_row _ (wr.alloc (.cells #[.int .i64 y.f0.f0, .int .u8 y.f0.f1, .int .i64 y.f0.f2, .string y.f1] 50)) (by rfl) _ _ (by rfl) wq.heap.size u (ofL (x.take j) (srcOf y).1 (srcOf y).2) y (by rfl) (Kd.R_below HRow.out (by repeat (first | (with_reducible exact Below.refl _ _) | (with_reducible refine below_alloc ?_ _) | (with_reducible refine pw_below_drewN ?_ _) | (with_reducible refine below_drew ?_)))) _ (by rfl) (by repeat (first | (with_reducible refine blk_drew ?_) | (with_reducible refine blk_drewN ?_ _) | (with_reducible refine blk_new' ?_; (simp; done)) | (with_reducible refine blk_alloc ?_ _))) HOl.out (by repeat (first | (with_reducible exact Below.refl _ _) | (with_reducible refine below_alloc ?_ _) | (with_reducible refine pw_below_drewN ?_ _) | (with_reducible refine below_drew ?_))) (by have := HBq.out.size; simp; omega) ?_; intro v1 w1 hbW hr1 hg1 hat1; obtain ⟨w2, hrun2, hm2, hg2, hck2⟩ := HPut.out _ w1 v1 hbW hg1; have HM2 := Aside0.mk hm2; clear hm2)
              | fail)
          all_goals go_wp2_with fail
          all_goals go_roundw
          case rel | rel | rel | rel =>
            have hbr : Below wr.heap.size wr _ := below_back hbW (below_alloc (Below.refl _ _) _)
            have hst := OwnR.step (HO.out.ck (CK.below hbr)) HA.out hr1 (by rw [HU.out]; exact hg1) (by rw [HU.out]; exact hat1)
            refine ⟨j + 1, upd q (srcOf y) v1, by go_num, by omega, HM2, ⟨by rw [HY.out]; exact hst.1.ck hck2⟩, ⟨hst.2⟩, ⟨?_⟩⟩
            have h1 : Below wq.heap.size wq w1 := pw_below_grown (below_back hbr HBq.out) _ (by have := HBq.out.size; have := hbr.size; omega) hg1 (fun k hk => R_start HRow.out k hk)
            exact pw_below_grown h1 _ (by have := h1.size; omega) hg2 (fun k hk => by cases hk; exact Nat.le_refl _)
          all_goals (simp [intOf]; omega)
        · have hjx : j = x.length := by omega
          subst hjx
          have HOx : Aside0 (OwnR wr wq.heap.size q x) := ⟨by have := HO.out; rwa [List.take_length] at this⟩
          have HMx := Aside0.mk (HM.out.below HBq.out)
          have HLx : Aside0 (∀ s, LongR wr w.heap.size (l.take i) (g s) s) := ⟨fun s => (HL.out s).ck (CK.below HBq.out)⟩
          have hlt1 := HM.out.lt
          have HBx := Aside0.mk (below_back HBq.out HB.out)
          have hsq := HBq.out.size
          have hQlt := HQ.out.lt
          clear HO HA HM HL HB
          go_wp2_with (at_range; refine wpList_range_is rfl _ _ rfl keys54 26 Try.underlying61 rfl HQ.out ?_; intro w0 hrg0 hg0 hs0 hleft0)
          have HRG0 := Aside0.mk hrg0
          have HG0 := Aside0.mk hg0
          clear hrg0 hg0
          go_frame
          generalize wr = wp at *
          go_loopw [38] (fun _ w' => ∃ (n' : Nat) (g' : Int × Int → Option Value) (dn : Int × Int → Prop), n' + w'.rangeLeft wq.heap.size wp.heap.size ≤ n + 30 ∧ wp.heap.size < w'.heap.size ∧ Aside0 (RangeIs Try.prog 54 srcV w' wq.heap.size wp.heap.size x.length q dn) ∧ Aside0 (MapIs Try.prog 54 srcV w' w.heap.size n' g') ∧
              Aside0 (∀ s, (dn s → LongR w' w.heap.size (l.take i ++ [x]) (g' s) s) ∧ (¬ dn s → LongR w' w.heap.size (l.take i) (g' s) s)) ∧ Aside0 (OwnR w' wq.heap.size q x) ∧ Aside0 (Below w.heap.size w w')) (fun _ w' => w'.rangeLeft wq.heap.size wp.heap.size)
          case atStart =>
            exact ⟨n, g, _, by omega, by omega, HRG0, ⟨HMx.out.kept HG0.out (by simp)⟩, ⟨fun s => ⟨fun h => h.elim, fun _ => (HLx.out s).ck (CK.grown HG0.out)⟩⟩, ⟨HOx.out.ck (CK.grown HG0.out)⟩, ⟨pw_below_grown HBx.out _ (by have := HBx.out.size; omega) HG0.out (fun k hk => by cases hk)⟩⟩
          case round =>
            obtain ⟨n', g', dn, hnl, hpw, HRG, HM, HL, HO, HB⟩ := hrel
            go_wp2_with (first | (at_next; (refine wpList_next_row rfl _ rfl rfl HRG.out HO.out (fun HDone => ?_) (fun s A1 c1 w1 HSk HRow hle1 HNd HRG1 hltl HGr hsz HCk hen => ?_); rotate_left; (have HM1 := Aside0.mk (HM.out.kept HGr.out (by simp; omega)); have HLs := Aside0.mk (((HL.out s).2 HNd.out).ck HCk.out); have HL1 : Aside0 (∀ s, (dn s → LongR w1 w.heap.size (l.take i ++ [x]) (g' s) s) ∧ (¬ dn s → LongR w1 w.heap.size (l.take i) (g' s) s)) := ⟨fun s => ⟨fun h => ((HL.out s).1 h).ck HCk.out, fun h => ((HL.out s).2 h).ck HCk.out⟩⟩; have HO1 := Aside0.mk (HO.out.ck HCk.out); have HB1 := Aside0.mk (pw_below_grown HB.out _ (by have := HB.out.size; omega) HGr.out (fun k hk => by cases hk; have := HBx.out.size; omega)); obtain ⟨xs, hrx, hpx, hsx, hnew⟩ := HLs.out.at_; have HNew := Aside0.mk hnew; clear hnew; obtain ⟨A2, c2, hu, hle2, hC2⟩ := Kd.R_reads hrx; obtain ⟨A1', c1', hu1, _, hC1⟩ := Kd.R_reads HRow.out; cases hu1; have HC1 := Aside0.mk hC1; have HC2 := Aside0.mk hC2; have HPx := Aside0.mk hpx; have HSx := Aside0.mk hsx; have hl1 : (ofL x s.1 s.2).length ≤ 30 := Nat.le_trans (List.length_filter_le _ _) hx30; have hl2 : xs.length ≤ 30 := long_le HIN.out hsx; have HU1 := Aside0.mk hu; have HE1 := Aside0.mk hen; clear hrx hpx hsx hu hC1 hC2; rcases way3 (ofL x s.1 s.2) xs with HP | ⟨HP, hlen⟩ | ⟨HP, hlen⟩))) | (at_lookup; refine wpList_look rfl _ _ _ rfl keys54 26 Try.underlying61 (zero26 _) rfl (HM1.out.below (by repeat (first | (with_reducible exact Below.refl _ _) | (with_reducible refine below_alloc ?_ _) | (with_reducible refine pw_below_drewN ?_ _) | (with_reducible refine below_drew ?_)))) s HSk.out rfl ?_; rw [HU1.out]) | (go_at_call 15; refine (prefix_calls _ _ _ _ (ofL x s.1 s.2) xs _ (Kd.C_below HC1.out (by repeat (first | (with_reducible exact Below.refl _ _) | (with_reducible refine below_alloc ?_ _) | (with_reducible refine pw_below_drewN ?_ _) | (with_reducible refine below_drew ?_)))) (Kd.C_below HC2.out (by repeat (first | (with_reducible exact Below.refl _ _) | (with_reducible refine below_alloc ?_ _) | (with_reducible refine pw_below_drewN ?_ _) | (with_reducible refine below_drew ?_)))) hle1 hle2 (by omega) (by omega)).mono ?_; rw [HP.out]; rintro e w2 ⟨rfl, m, rfl⟩) | (at_mapUpdate; refine wpList_put rfl _ _ _ _ rfl keys54 26 Try.underlying61 rfl (HM1.out.below (by repeat (first | (with_reducible exact Below.refl _ _) | (with_reducible refine below_alloc ?_ _) | (with_reducible refine pw_below_drewN ?_ _) | (with_reducible refine below_drew ?_)))) (by unfold maxLen; omega) s HSk.out rfl _ rfl ?_; intro w2 hm2 hg2; have HM2 := Aside0.mk hm2; have HG2 := Aside0.mk hg2; clear hm2 hg2; go_frame) | fail)
            · go_ret
              refine ⟨ret_bool (agL_no fun h => ?_).symm, (by repeat (first | exact HB1.out | (with_reducible refine below_alloc ?_ _) | (with_reducible refine pw_below_drewN ?_ _)))⟩
              rcases HSx.out with ⟨a, ha, e⟩ | e
              · have := h x HMem.out a (List.mem_of_mem_take ha) s
                rw [← e, HP.out] at this
                cases this
              · have := HP.out
                rw [e, pre_nil'] at this
                cases this
            · go_roundw
              case rel =>
                have hrk := range_keeps (RangeIs.below HRG1.out (by repeat (first | (with_reducible exact Below.refl _ _) | (with_reducible refine below_alloc ?_ _) | (with_reducible refine pw_below_drewN ?_ _) | (with_reducible refine below_drew ?_)))).1 HG2.out (by simp; omega) (by simp; omega)
                have hre := hrk.2.trans (RangeIs.below HRG1.out (by repeat (first | (with_reducible exact Below.refl _ _) | (with_reducible refine below_alloc ?_ _) | (with_reducible refine pw_below_drewN ?_ _) | (with_reducible refine below_drew ?_)))).2
                have hck2 : CK w1 w2 := (CK.below (by repeat (first | (with_reducible exact Below.refl _ _) | (with_reducible refine below_alloc ?_ _) | (with_reducible refine pw_below_drewN ?_ _) | (with_reducible refine below_drew ?_)))).trans (CK.map (HM1.out.below (by repeat (first | (with_reducible exact Below.refl _ _) | (with_reducible refine below_alloc ?_ _) | (with_reducible refine pw_below_drewN ?_ _) | (with_reducible refine below_drew ?_)))) HG2.out)
                have hbw : Below w.heap.size w w2 := pw_below_grown (by repeat (first | exact HB1.out | (with_reducible refine below_alloc ?_ _) | (with_reducible refine pw_below_drewN ?_ _))) _ (by have := HB1.out.size; simp; omega) HG2.out (fun k hk => by cases hk; exact Nat.le_refl _)
                refine ⟨n' + 1, upd g' s _, fun y => dn y ∨ y = s, by omega, ?_, ⟨hrk.1⟩, HM2, ⟨fun s' => ⟨fun h => ?_, fun h => ?_⟩⟩, ⟨HO1.out.ck hck2⟩, ⟨hbw⟩⟩
                · have := HG2.out.size; simp at this; omega
                · by_cases e : s' = s
                  · subst e
                    rw [upd_same]
                    refine .inr ⟨_, ofL x s'.1 s'.2, rfl, Kd.R_lower (R_ck HRow.out hck2) (by omega), fun a ha => ?_, x, List.mem_append_right _ (List.mem_singleton.2 rfl), rfl⟩
                    rcases List.mem_append.1 ha with h1 | h1
                    · rcases (pre_prefix _ _).1 HP.out with h2 | h2
                      · have := h2.length_le; omega
                      · exact (HPx.out a h1).trans h2
                    · rw [List.mem_singleton.1 h1]; exact List.prefix_rfl
                  · rw [upd_other _ _ e]
                    exact ((HL1.out s').1 (h.resolve_right e)).ck hck2
                · rw [upd_other _ _ (fun e => h (.inr e))]
                  exact ((HL1.out s').2 (fun e => h (.inl e))).ck hck2
              case measure =>
                have hrk := range_keeps (RangeIs.below HRG1.out (by repeat (first | (with_reducible exact Below.refl _ _) | (with_reducible refine below_alloc ?_ _) | (with_reducible refine pw_below_drewN ?_ _) | (with_reducible refine below_drew ?_)))).1 HG2.out (by simp; omega) (by simp; omega)
                have hre := hrk.2.trans (RangeIs.below HRG1.out (by repeat (first | (with_reducible exact Below.refl _ _) | (with_reducible refine below_alloc ?_ _) | (with_reducible refine pw_below_drewN ?_ _) | (with_reducible refine below_drew ?_)))).2
                omega
            · go_roundw
              case rel =>
                have hrb := RangeIs.below HRG1.out (w' := (w1.alloc (.cells #[.int .i64 s.1, .int .u8 s.2] 54)).drewN m) (by repeat (first | (with_reducible exact Below.refl _ _) | (with_reducible refine below_alloc ?_ _) | (with_reducible refine pw_below_drewN ?_ _) | (with_reducible refine below_drew ?_)))
                have hck2 : CK w1 ((w1.alloc (.cells #[.int .i64 s.1, .int .u8 s.2] 54)).drewN m) := CK.below (by repeat (first | (with_reducible exact Below.refl _ _) | (with_reducible refine below_alloc ?_ _) | (with_reducible refine pw_below_drewN ?_ _) | (with_reducible refine below_drew ?_)))
                refine ⟨n', g', fun y => dn y ∨ y = s, by omega, by simp; omega, ⟨hrb.1⟩, ⟨HM1.out.below (by repeat (first | (with_reducible exact Below.refl _ _) | (with_reducible refine below_alloc ?_ _) | (with_reducible refine pw_below_drewN ?_ _) | (with_reducible refine below_drew ?_)))⟩, ⟨fun s' => ⟨fun h => ?_, fun h => ?_⟩⟩, ⟨HO1.out.ck hck2⟩, ⟨(by repeat (first | exact HB1.out | (with_reducible refine below_alloc ?_ _) | (with_reducible refine pw_below_drewN ?_ _)))⟩⟩
                · by_cases e : s' = s
                  · subst e
                    exact (HNew.out x HP.out hlen).ck hck2
                  · exact ((HL1.out s').1 (h.resolve_right e)).ck hck2
                · exact ((HL1.out s').2 (fun e => h (.inl e))).ck hck2
              case measure =>
                have hrb := RangeIs.below HRG1.out (w' := (w1.alloc (.cells #[.int .i64 s.1, .int .u8 s.2] 54)).drewN m) (by repeat (first | (with_reducible exact Below.refl _ _) | (with_reducible refine below_alloc ?_ _) | (with_reducible refine pw_below_drewN ?_ _) | (with_reducible refine below_drew ?_)))
                have := hrb.2
                omega
            · go_roundw
              case rel =>
                refine ⟨i + 1, n', g', by go_num, by omega, by omega, HM, ⟨fun s => ?_⟩, HB⟩
                rw [HTk.out]
                by_cases hd : dn s
                · exact (HL.out s).1 hd
                · refine ((HL.out s).2 hd).skip ?_
                  by_cases hs : okS s
                  · rcases HO.out s with ⟨_, h⟩ | ⟨v, hv, _⟩
                    · exact h
                    · exact absurd (HDone.out s hs (by rw [hv]; simp)) hd
                  · exact ofL_none HXok.out hs
              case measure => simp [intOf]; omega
    · go_wp2_with fail
      go_ret
      exact ⟨ret_bool ((agL_iff l).2 (agL_of_long (fun s => by have := HL.out s; rwa [List.take_of_length_le (by omega)] at this))).symm, HB.out⟩
end Go.Proofs.Ythkofjlbnekgkaa.Trc
