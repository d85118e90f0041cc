/- table's sound, of one ballot at most. -/
import Derived.Test.YtbaknecnkipooaaM13
import Derived.Test.YtbaknecnkipooaaM16
import Derived.Test.YtbaknecnkipooaaM19
namespace Go.Proofs.Ytbaknecnkipooaa.Tld
open Go Go.RowKit Go.Proofs.YtbaknecnkipooaaW.PrintWords Go.Proofs.Ytbaknecnkipooaa.Sep Go.Proofs.Ytbaknecnkipooaa.Obj Go.Proofs.Ytbaknecnkipooaa.Vot Go.Maps Go.Proofs.Ytbaknecnkipooaa.Mp
set_option linter.unusedVariables false
set_option linter.unusedSimpArgs false
def okStr (s : ByteArray) : Prop := s.size ≤ maxLen
theorem keysStr : Keys Try.prog 9 Value.string okStr where
  law := string_keyed Try.underlying9
  inj x y h := by injection h
  reads x hx := ⟨_, WideMaps.keyOf_string_mk Try.underlying9 hx⟩
  inv v kl h := by
    obtain ⟨s, rfl, _, hs⟩ := WideMaps.string_of_keyOf Try.underlying9 h
    exact ⟨s, hs, rfl⟩
def mapS (b n : Nat) (g : ByteArray → Option Value) : Asr where
  P := fun w S => MapIs Try.prog 9 Value.string w b n g ∧ S b
  mono := fun h a => ⟨a.1, h _ a.2⟩
  move := fun h a => ⟨a.1.moved (h _ a.2 a.1.lt), a.2⟩
theorem mapS_made {S : Nat → Prop} {As : List Asr} {w0 w : World} (h : OwnS S As w0 w) : OwnS S (As ++ [mapS w.heap.size 0 (fun _ => none)]) w0 (w.alloc (.map #[] 0)) :=
  h.add (below_alloc (Below.refl _ _) _) ⟨MapIs.made _ _ _ w, Nat.le_refl _, by simp⟩
theorem mapS_get {S : Nat → Prop} {As : List Asr} {w0 w : World} (h : OwnS S As w0 w) (i : Nat) {b n : Nat} {g : ByteArray → Option Value} (hi : As[i]? = some (mapS b n g)) : MapIs Try.prog 9 Value.string w b n g := (h.get i hi).1
theorem mapS_put {S : Nat → Prop} {As : List Asr} {w0 w w' : World} (h : OwnS S As w0 w) (i : Nat) {b n n' : Nat} {g g' : ByteArray → Option Value} (hi : As[i]? = some (mapS b n g)) (hm : MapIs Try.prog 9 Value.string w' b n' g') (hg : w.grownBy w' (some b)) : OwnS S (As.set i (mapS b n' g')) w0 w' :=
  h.mod i hi _ (fun T hT => ⟨Frm.grown hg (fun k hk => by cases hk; exact hT.2), hm, .inl hT.2⟩)
theorem zeroSt (w : World) : (zeroValue 123).run Try.prog w = .ok (.agg #[]) w := by kernel_rfl
theorem rng_B {w : World} {A : Option Addr} {n : Nat} {xs : List Bal} (h : kB.C w A n xs) (h1 : 0 < xs.length) : ∃ g o, A = some ⟨g, o, none⟩ ∧ w.rangeAt g o [.string xs[0].body, .int .u16 (xs[0].who : Int)] := by
  obtain ⟨ad, e, c0, c1⟩ := at_B h 0 h1
  obtain ⟨g, o, sp⟩ := ad
  cases sp with
  | none =>
    refine ⟨g, o, e, fun j v hj => ?_⟩
    match j, hj with
    | 0, hj => rw [← Option.some.inj hj]; rw [Addr.add_lit] at c0; simpa using c0
    | 1, hj => rw [← Option.some.inj hj]; rw [Addr.add_lit] at c1; simpa using c1
    | j + 2, hj => simp at hj
  | some s =>
    exfalso
    have e3 : ((⟨g, o, some s⟩ : Addr).add (0 * 2)) = ⟨g, o, some s⟩ := rfl
    rw [e3] at c0
    unfold World.cell? at c0
    split at c0 <;> simp at c0
set_option maxHeartbeats 1000000 in
set_option maxRecDepth 100000 in
theorem sound_0 (w : World) (A : Option Addr) (c : Nat) : Calls Try.prog 80 #[.slice A 0 c] w (Kept (.bool true) w) := by
  have HH : Aside0 (OwnS (fun _ => False) [] w w) := ⟨OwnS.of_own (Own.start w)⟩
  have hmm := @run_makeMap Try.prog
  go_enter Try.func80, Try.ntmps80
  go_wp2_with fail
  go_loopw [12] (fun v12 W => v12 = .int .i64 0 ∧ Aside0 (Below w.heap.size w W)) (fun v12 _ => 1)
  case atStart => exact ⟨rfl, ⟨frm_below (OwnS.frm (mapS_made HH.out))⟩⟩
  case round =>
    clear HH
    obtain ⟨rfl, HBW⟩ := hrel
    go_wp2_with fail
    go_ret
    exact ⟨rfl, HBW.out⟩
set_option maxHeartbeats 1000000 in
set_option maxRecDepth 100000 in
theorem sound_1 (w : World) (ga oa c : Nat) (x : Bal) (hr : ∀ W, Below w.heap.size w W → W.rangeAt ga oa [.string x.body, .int .u16 (x.who : Int)]) (hb0 : x.body.size ≤ 1000) : Calls Try.prog 80 #[.slice (some ⟨ga, oa, none⟩) 1 c] w (Kept (.bool true) w) := by
  have HH : Aside0 (OwnS (fun _ => False) [] w w) := ⟨OwnS.of_own (Own.start w)⟩
  have HRX := Aside0.mk hr
  have HKX : Aside0 (okStr x.body) := ⟨by unfold okStr maxLen; omega⟩
  have hand : bits .and .u16 0 (x.who : Int) = 0 := by simp [bits]; decide
  have hmm := @run_makeMap Try.prog
  clear hr hb0
  go_enter Try.func80, Try.ntmps80
  go_wp2_with fail
  go_loopw [3, 12] (fun v3 v12 W => ∃ (i : Nat) (m : Int), v12 = .int .i64 (i : Int) ∧ v3 = .int .u16 m ∧ i ≤ 1 ∧ Aside0 (Below w.heap.size w W) ∧ Aside0 (i = 0 → m = 0 ∧ OwnS (fun _ => False) [mapS w.heap.size 0 (fun _ => none)] w W)) (fun _ v12 _ => 1 - (intOf v12).toNat)
  case atStart => exact ⟨0, 0, rfl, rfl, by omega, ⟨frm_below (OwnS.frm (mapS_made HH.out))⟩, ⟨fun _ => ⟨rfl, mapS_made HH.out⟩⟩⟩
  case round =>
    clear HH
    obtain ⟨i, m, rfl, rfl, hi, HBW, HM⟩ := hrel
    match i, hi with
    | 0, _ =>
      obtain ⟨rfl, hh⟩ := HM.out rfl
      have HH := Aside0.mk hh
      clear hh HM
      go_wp2_with (first
        | ((with_reducible refine gate_ (.load 113 (.tmp 14)) rfl ?_); refine ev_loadR (b := ga) (p0 := oa) (n := 2) (vs := [.string x.body, .int .u16 (x.who : Int)]) (HRX.out _ HBW.out) rfl rfl (by rfl) Try.underlying113 rfl rfl (by kernel_rfl) ?_)
        | ((with_reducible refine gate_dst (N := 6) rfl ?_); refine evS_box (oh HH) rfl (cs := #[.string ⟨#[]⟩, .int .u16 0]) (T := 113) ?_ ?_; (focus first | (go_simp; done) | (go_simp; rfl)); intro g1 w21 he hh; clear he; replace HH : Aside0 (OwnS (fun _ => False) [mapS w.heap.size 0 (fun _ => none), Sep.blk g1 #[.string ⟨#[]⟩, .int .u16 0] 113] w w21) := ⟨hh⟩; clear hh)
        | ((with_reducible refine gate_ (.store 113 (.tmp 6) (.tmp 15)) rfl ?_); refine evS_store (oh HH) 1 rfl rfl rfl rfl (by rfl) (.agg #[.string x.body, .int .u16 (x.who : Int)]) (by rfl) [.string x.body, .int .u16 (x.who : Int)] (by rfl) (by kernel_rfl) (by simp) (by simp [Value.oneCell']) ?_; intro w22 hh; replace HH : Aside0 (OwnS (fun _ => False) [mapS w.heap.size 0 (fun _ => none), Sep.blk g1 #[.string x.body, .int .u16 (x.who : Int)] 113] w w22) := ⟨hh⟩; clear hh)
        | ((with_reducible refine gate_ (.load 9 (.tmp 18)) rfl ?_); refine ev_cell (blk_cell (OwnS.blk (oh HH) 1 rfl) 0) rfl rfl (by rfl) Try.underlying9 rfl ?_)
        | (at_lookup; refine wpList_look_ok rfl _ _ _ rfl keysStr 123 Try.underlying155 (zeroSt _) rfl (mapS_get (oh HH) 0 rfl) x.body HKX.out rfl ?_)
        | ((with_reducible refine gate_dst (N := 7) rfl ?_); refine evS_box (oh HH) rfl (cs := #[]) (T := 123) ?_ ?_; (focus first | (go_simp; done) | (go_simp; rfl)); intro g2 w23 he hh; clear he; replace HH : Aside0 (OwnS (fun _ => False) [mapS w.heap.size 0 (fun _ => none), Sep.blk g1 #[.string x.body, .int .u16 (x.who : Int)] 113, Sep.blk g2 #[] 123] w w23) := ⟨hh⟩; clear hh)
        | ((with_reducible refine gate_ (.store 123 (.tmp 7) (.tmp 21)) rfl ?_); refine evS_store (oh HH) 2 rfl rfl rfl rfl (by rfl) (.agg #[]) (by rfl) [] (by rfl) (by kernel_rfl) (by simp) (by simp [Value.oneCell']) ?_; intro w24 hh; replace HH : Aside0 (OwnS (fun _ => False) [mapS w.heap.size 0 (fun _ => none), Sep.blk g1 #[.string x.body, .int .u16 (x.who : Int)] 113, Sep.blk g2 #[] 123] w w24) := ⟨hh⟩; clear hh; have fc1 : w24.cell? ⟨g1, 1, none⟩ = some (.int .u16 (x.who : Int)) := blk_cell (OwnS.blk HH.out 1 rfl) 1)
        | ((with_reducible refine gate_ (.load 9 (.tmp 32)) rfl ?_); refine ev_cell (blk_cell (OwnS.blk (oh HH) 1 rfl) 0) rfl rfl (by rfl) Try.underlying9 rfl ?_)
        | (at_mapUpdate; refine wpList_put rfl _ _ _ _ rfl keysStr 123 Try.underlying155 rfl (mapS_get (oh HH) 0 rfl) (by unfold maxLen; omega) x.body HKX.out rfl _ rfl ?_; intro w25 hm2 hg2; replace HH : Aside0 (OwnS (fun _ => False) [mapS w.heap.size 1 (Mp.upd (fun _ => none) x.body (.agg #[])), Sep.blk g1 #[.string x.body, .int .u16 (x.who : Int)] 113, Sep.blk g2 #[] 123] w w25) := ⟨mapS_put (oh HH) 0 rfl hm2 hg2⟩; clear hm2 hg2)
        | ((with_reducible refine gate_ (.load 28 (.tmp 36)) rfl ?_); refine ev_cell (blk_cell (OwnS.blk (oh HH) 1 rfl) 1) rfl rfl (by rfl) Try.underlying28 rfl ?_)
        | fail
        | fail)
      go_roundw
      case rel => exact ⟨1, _, by rfl, rfl, by omega, ⟨frm_below (OwnS.frm HH.out)⟩, ⟨fun h => by omega⟩⟩
      case measure => simp [intOf]
    | 1, _ =>
      go_wp2_with fail
      go_ret
      exact ⟨rfl, HBW.out⟩
theorem sound_calls (w : World) (A : Option Addr) (c : Nat) (l : List Bal) (hr : kB.C w A l.length l) (hl : l.length ≤ 1) (hb0 : ∀ x ∈ l, x.body.size ≤ 1000) : Calls Try.prog 80 #[.slice A l.length c] w (Kept (.bool true) w) := by
  match l, hl with
  | [], _ => exact sound_0 w A c
  | [x], _ =>
    obtain ⟨ga, oa, rfl, _⟩ := rng_B hr (by simp)
    refine sound_1 w ga oa c x (fun W hb => ?_) (hb0 x (by simp))
    obtain ⟨ga2, oa2, e2, h2⟩ := rng_B (Kd.C_below hr hb) (by simp)
    cases e2
    exact h2
end Go.Proofs.Ytbaknecnkipooaa.Tld
