/- cmp: Compare, Or; table's order. slices.BinarySearchFunc. -/
import Derived.Test.YtbaknecnkipooaaM13
import Derived.Test.YtbaknecnkipooaaM16
namespace Go.Proofs.Ytbaknecnkipooaa.Tld
open Go Go.RowKit Go.Proofs.YtbaknecnkipooaaW.PrintWords Go.Proofs.Ytbaknecnkipooaa.Sep Go.Proofs.Ytbaknecnkipooaa.Obj Go.Proofs.Ytbaknecnkipooaa.Vot
set_option linter.unusedVariables false
set_option linter.unusedSimpArgs false
def Kp (v : Value) (w : World) (e : Ending) (w' : World) : Prop := e = .returned v ∧ Below w.heap.size w w'
set_option maxHeartbeats 1000000 in
set_option maxRecDepth 100000 in
theorem nan8_calls (w : World) (a : Int) : Calls Try.prog 71 #[.int .u8 a] w (fun e w' => e = .returned (.bool false) ∧ w' = w) := by
  go_enter Try.func71, Try.ntmps71
  go_wp2_with fail
  go_ret
  exact ⟨rfl, rfl⟩
set_option maxHeartbeats 1000000 in
set_option maxRecDepth 100000 in
theorem cmp8_calls (w : World) (a b : Int) : Calls Try.prog 54 #[.int .u8 a, .int .u8 b] w (fun e w' => e = .returned (.int .i64 (cmpI a b)) ∧ w' = w) := by
  by_cases h1 : a < b
  · have e : cmpI a b = -1 := if_pos h1
    rw [e]
    go_enter Try.func54, Try.ntmps54
    go_wp2_with (first | (go_at_call 71; refine (nan8_calls _ _).mono ?_; rintro e w1 ⟨rfl, hww⟩; have hwx := hww.symm; clear hww; subst hwx) | fail)
    go_ret
    exact ⟨rfl, rfl⟩
  · by_cases h2 : b < a
    · have e : cmpI a b = 1 := by unfold cmpI; rw [if_neg h1, if_pos h2]
      rw [e]
      go_enter Try.func54, Try.ntmps54
      go_wp2_with (first | (go_at_call 71; refine (nan8_calls _ _).mono ?_; rintro e w1 ⟨rfl, hww⟩; have hwx := hww.symm; clear hww; subst hwx) | fail)
      go_ret
      exact ⟨rfl, rfl⟩
    · have e : cmpI a b = 0 := by unfold cmpI; rw [if_neg h1, if_neg h2]
      rw [e]
      go_enter Try.func54, Try.ntmps54
      go_wp2_with (first | (go_at_call 71; refine (nan8_calls _ _).mono ?_; rintro e w1 ⟨rfl, hww⟩; have hwx := hww.symm; clear hww; subst hwx) | fail)
      go_ret
      exact ⟨rfl, rfl⟩
set_option maxHeartbeats 1000000 in
set_option maxRecDepth 100000 in
theorem nanI_calls (w : World) (a : Int) : Calls Try.prog 72 #[.int .i64 a] w (fun e w' => e = .returned (.bool false) ∧ w' = w) := by
  go_enter Try.func72, Try.ntmps72
  go_wp2_with fail
  go_ret
  exact ⟨rfl, rfl⟩
set_option maxHeartbeats 1000000 in
set_option maxRecDepth 100000 in
theorem cmpI_calls (w : World) (a b : Int) : Calls Try.prog 55 #[.int .i64 a, .int .i64 b] w (fun e w' => e = .returned (.int .i64 (cmpI a b)) ∧ w' = w) := by
  by_cases h1 : a < b
  · have e : cmpI a b = -1 := if_pos h1
    rw [e]
    go_enter Try.func55, Try.ntmps55
    go_wp2_with (first | (go_at_call 72; refine (nanI_calls _ _).mono ?_; rintro e w1 ⟨rfl, hww⟩; have hwx := hww.symm; clear hww; subst hwx) | fail)
    go_ret
    exact ⟨rfl, rfl⟩
  · by_cases h2 : b < a
    · have e : cmpI a b = 1 := by unfold cmpI; rw [if_neg h1, if_pos h2]
      rw [e]
      go_enter Try.func55, Try.ntmps55
      go_wp2_with (first | (go_at_call 72; refine (nanI_calls _ _).mono ?_; rintro e w1 ⟨rfl, hww⟩; have hwx := hww.symm; clear hww; subst hwx) | fail)
      go_ret
      exact ⟨rfl, rfl⟩
    · have e : cmpI a b = 0 := by unfold cmpI; rw [if_neg h1, if_neg h2]
      rw [e]
      go_enter Try.func55, Try.ntmps55
      go_wp2_with (first | (go_at_call 72; refine (nanI_calls _ _).mono ?_; rintro e w1 ⟨rfl, hww⟩; have hwx := hww.symm; clear hww; subst hwx) | fail)
      go_ret
      exact ⟨rfl, rfl⟩
set_option maxHeartbeats 1000000 in
set_option maxRecDepth 100000 in
theorem or_calls (w : World) (g o c : Nat) (a b : Int) (h0 : w.cell? ⟨g, o, none⟩ = some (.int .i64 a)) (h1 : w.cell? ⟨g, o + 1, none⟩ = some (.int .i64 b)) : Calls Try.prog 53 #[.slice (some ⟨g, o, none⟩) 2 c] w (fun e w' => e = .returned (.int .i64 (orI a b)) ∧ w' = w) := by
  go_enter Try.func53, Try.ntmps53
  go_wp2_with fail
  go_loop [8] (fun vi => ∃ (i : Nat), vi = .int .i64 (i : Int) ∧ i ≤ 2 ∧ Aside0 (1 ≤ i → a = 0) ∧ Aside0 (2 ≤ i → b = 0)) (fun vi => 2 - (intOf vi).toNat)
  case atStart => exact ⟨0, rfl, by omega, ⟨fun h => by omega⟩, ⟨fun h => by omega⟩⟩
  case round =>
    obtain ⟨i, rfl, hi, HA, HB⟩ := hrel
    match i, hi with
    | 0, _ =>
      by_cases ha : a = 0
      · subst ha
        go_wp2_with fail
        go_round
        case rel => exact ⟨1, rfl, by omega, ⟨by intro _; first | rfl | trivial⟩, ⟨by intro h; omega⟩⟩
        case measure => decide
      · have e : orI a b = a := if_neg ha
        go_wp2_with fail
        go_ret
        exact ⟨by first | rfl | (rw [e]; first | done | rfl), rfl⟩
    | 1, _ =>
      have ha := HA.out (by omega)
      subst ha
      by_cases hb : b = 0
      · subst hb
        go_wp2_with fail
        go_round
        case rel => exact ⟨2, rfl, by omega, ⟨by intro _; first | rfl | trivial⟩, ⟨by intro _; first | rfl | trivial⟩⟩
        case measure => decide
      · have e : orI 0 b = b := rfl
        go_wp2_with fail
        go_ret
        exact ⟨by first | rfl | (rw [e]; first | done | rfl), rfl⟩
    | 2, _ =>
      have ha := HA.out (by omega)
      have hb := HB.out (by omega)
      subst ha
      subst hb
      have e : orI 0 0 = 0 := rfl
      go_wp2_with fail
      go_ret
      exact ⟨by first | rfl | (rw [e]; first | done | rfl), rfl⟩
set_option maxHeartbeats 1000000 in
set_option maxRecDepth 100000 in
theorem order_calls (w : World) (a b : OP) : Calls Try.prog 20 #[.agg (opC a).toArray, .agg (opC b).toArray] w (Kp (.int .i64 (ordI a.frm a.seq b.frm b.seq)) w) := by
  have ea : (opC a).toArray = #[.int .u8 (a.frm : Int), .int .i64 (a.seq : Int), .bool a.x.c.echoed, .bool a.x.c.readied, .bool a.x.c.done, .slice a.x.A1 a.x.c.echoes.length a.x.c1, .slice a.x.A2 a.x.c.readies.length a.x.c2] := rfl
  have eb : (opC b).toArray = #[.int .u8 (b.frm : Int), .int .i64 (b.seq : Int), .bool b.x.c.echoed, .bool b.x.c.readied, .bool b.x.c.done, .slice b.x.A1 b.x.c.echoes.length b.x.c1, .slice b.x.A2 b.x.c.readies.length b.x.c2] := rfl
  rw [ea, eb]
  have HH : Aside0 (OwnS (fun _ => False) [] w w) := ⟨OwnS.of_own (Own.start w)⟩
  clear ea eb
  go_enter Try.func20, Try.ntmps20
  go_wp2_with (first
  | ((with_reducible refine gate_dst (N := 2) rfl ?_); refine evS_box (oh HH) rfl (cs := #[.int .u8 (a.frm : Int), .int .i64 (a.seq : Int), .bool a.x.c.echoed, .bool a.x.c.readied, .bool a.x.c.done, .slice a.x.A1 a.x.c.echoes.length a.x.c1, .slice a.x.A2 a.x.c.readies.length a.x.c2]) (T := 79) ?_ ?_; (focus first | (go_simp; done) | (go_simp; rfl)); intro g1 w1 he hh; clear he; replace HH : Aside0 (OwnS (fun _ => False) [Sep.blk g1 #[.int .u8 (a.frm : Int), .int .i64 (a.seq : Int), .bool a.x.c.echoed, .bool a.x.c.readied, .bool a.x.c.done, .slice a.x.A1 a.x.c.echoes.length a.x.c1, .slice a.x.A2 a.x.c.readies.length a.x.c2] 79] w w1) := ⟨hh⟩; clear hh)
  | ((with_reducible refine gate_dst (N := 3) rfl ?_); refine evS_box (oh HH) rfl (cs := #[.int .u8 (b.frm : Int), .int .i64 (b.seq : Int), .bool b.x.c.echoed, .bool b.x.c.readied, .bool b.x.c.done, .slice b.x.A1 b.x.c.echoes.length b.x.c1, .slice b.x.A2 b.x.c.readies.length b.x.c2]) (T := 79) ?_ ?_; (focus first | (go_simp; done) | (go_simp; rfl)); intro g2 w2 he hh; clear he; replace HH : Aside0 (OwnS (fun _ => False) [Sep.blk g1 #[.int .u8 (a.frm : Int), .int .i64 (a.seq : Int), .bool a.x.c.echoed, .bool a.x.c.readied, .bool a.x.c.done, .slice a.x.A1 a.x.c.echoes.length a.x.c1, .slice a.x.A2 a.x.c.readies.length a.x.c2] 79, Sep.blk g2 #[.int .u8 (b.frm : Int), .int .i64 (b.seq : Int), .bool b.x.c.echoed, .bool b.x.c.readied, .bool b.x.c.done, .slice b.x.A1 b.x.c.echoes.length b.x.c1, .slice b.x.A2 b.x.c.readies.length b.x.c2] 79] w w2) := ⟨hh⟩; clear hh)
  | fail
  | fail)
  have HKV : Aside0 (∀ w' : World, OwnS (fun _ => False) [Sep.blk g1 #[.int .u8 (a.frm : Int), .int .i64 (a.seq : Int), .bool a.x.c.echoed, .bool a.x.c.readied, .bool a.x.c.done, .slice a.x.A1 a.x.c.echoes.length a.x.c1, .slice a.x.A2 a.x.c.readies.length a.x.c2] 79, Sep.blk g2 #[.int .u8 (b.frm : Int), .int .i64 (b.seq : Int), .bool b.x.c.echoed, .bool b.x.c.readied, .bool b.x.c.done, .slice b.x.A1 b.x.c.echoes.length b.x.c1, .slice b.x.A2 b.x.c.readies.length b.x.c2] 79] w w' → (w'.cell? ⟨g1, 0, none⟩ = some (.int .u8 (a.frm : Int)) ∧ w'.cell? ⟨g1, 1, none⟩ = some (.int .i64 (a.seq : Int)) ∧ w'.cell? ⟨g2, 0, none⟩ = some (.int .u8 (b.frm : Int)) ∧ w'.cell? ⟨g2, 1, none⟩ = some (.int .i64 (b.seq : Int)))) := ⟨fun W h => ⟨blk_cell (OwnS.blk h 0 rfl) 0, blk_cell (OwnS.blk h 0 rfl) 1, blk_cell (OwnS.blk h 1 rfl) 0, blk_cell (OwnS.blk h 1 rfl) 1⟩⟩
  refine wp_region_held_drew (S := fun w' => w'.cell? ⟨g1, 0, none⟩ = some (.int .u8 (a.frm : Int)) ∧ w'.cell? ⟨g1, 1, none⟩ = some (.int .i64 (a.seq : Int)) ∧ w'.cell? ⟨g2, 0, none⟩ = some (.int .u8 (b.frm : Int)) ∧ w'.cell? ⟨g2, 1, none⟩ = some (.int .i64 (b.seq : Int))) (by kernel_rfl) ?_ (fun hHeld => ?_)
  focus (try dsimp only); (exact HKV.out _ (oh HH))
  (try dsimp only at hHeld)
  refine otk (i := 0) ?_; (try simp only [Act.put, jjA, jjZ, jjS])
  refine otk (i := 1) (v := .int .u8 (a.frm : Int)) ?_; (try simp only [Act.put, jjA, jjZ, jjS])
  refine otk (i := 2) ?_; (try simp only [Act.put, jjA, jjZ, jjS])
  refine otk (i := 3) (v := .int .u8 (b.frm : Int)) ?_; (try simp only [Act.put, jjA, jjZ, jjS])
  refine otk (i := 5) ?_; (try simp only [Act.put, jjA, jjZ, jjS])
  refine otk (i := 6) (v := .int .i64 (a.seq : Int)) ?_; (try simp only [Act.put, jjA, jjZ, jjS])
  refine otk (i := 7) ?_; (try simp only [Act.put, jjA, jjZ, jjS])
  refine otk (i := 8) (v := .int .i64 (b.seq : Int)) ?_; (try simp only [Act.put, jjA, jjZ, jjS])
  refine wpAnyH_ready (rs := [4]) (by kernel_rfl) (by simp) ?_
  refine AllReadyH.cons (by simp only [List.getElem?_toArray, List.getElem?_cons_succ, List.getElem?_cons_zero]; rfl) (fun K hK => ?_) AllReadyH.nil; go_simp; go_at_call 54; refine (cmp8_calls _ _ _).mono ?_; rintro e wx ⟨rfl, hww⟩; have hwx := hww.symm; clear hww; subst hwx; refine hK.out _ _ ?_ (fun hHeld2 => ?_); (focus (try dsimp only); (exact HKV.out _ (oh HH))); clear hK K hHeld; rename _ => hHeld; (try dsimp only at hHeld); (try simp only [Act.put, jjA, jjZ, jjS])
  refine wpAnyH_ready (rs := [9]) (by kernel_rfl) (by simp) ?_
  refine AllReadyH.cons (by simp only [List.getElem?_toArray, List.getElem?_cons_succ, List.getElem?_cons_zero]; rfl) (fun K hK => ?_) AllReadyH.nil; go_simp; go_at_call 55; refine (cmpI_calls _ _ _).mono ?_; rintro e wx ⟨rfl, hww⟩; have hwx := hww.symm; clear hww; subst hwx; refine hK.out _ _ ?_ (fun hHeld2 => ?_); (focus (try dsimp only); (exact HKV.out _ (oh HH))); clear hK K hHeld; rename _ => hHeld; (try dsimp only at hHeld); (try simp only [Act.put, jjA, jjZ, jjS])
  refine wpAnyH_ready (rs := [10]) (by kernel_rfl) (by simp) ?_
  refine AllReadyH.cons (by simp only [List.getElem?_toArray, List.getElem?_cons_succ, List.getElem?_cons_zero]; rfl) (fun K hK => ?_) AllReadyH.nil; refine evS_lit_step (oh HH) (by rfl) (cs := #[.int .i64 (cmpI (a.frm : Int) (b.frm : Int)), .int .i64 (cmpI (a.seq : Int) (b.seq : Int))]) (T := 3) (n := 2) ?_ ?_; (focus first | (go_simp; done) | (go_simp; rfl)); intro gl w3 hh; replace HH : Aside0 (OwnS (fun _ => False) [Sep.blk g1 #[.int .u8 (a.frm : Int), .int .i64 (a.seq : Int), .bool a.x.c.echoed, .bool a.x.c.readied, .bool a.x.c.done, .slice a.x.A1 a.x.c.echoes.length a.x.c1, .slice a.x.A2 a.x.c.readies.length a.x.c2] 79, Sep.blk g2 #[.int .u8 (b.frm : Int), .int .i64 (b.seq : Int), .bool b.x.c.echoed, .bool b.x.c.readied, .bool b.x.c.done, .slice b.x.A1 b.x.c.echoes.length b.x.c1, .slice b.x.A2 b.x.c.readies.length b.x.c2] 79, Sep.blk gl #[.int .i64 (cmpI (a.frm : Int) (b.frm : Int)), .int .i64 (cmpI (a.seq : Int) (b.seq : Int))] 3] w w3) := ⟨hh⟩; clear hh; clear HKV; have HKV : Aside0 (∀ w' : World, OwnS (fun _ => False) [Sep.blk g1 #[.int .u8 (a.frm : Int), .int .i64 (a.seq : Int), .bool a.x.c.echoed, .bool a.x.c.readied, .bool a.x.c.done, .slice a.x.A1 a.x.c.echoes.length a.x.c1, .slice a.x.A2 a.x.c.readies.length a.x.c2] 79, Sep.blk g2 #[.int .u8 (b.frm : Int), .int .i64 (b.seq : Int), .bool b.x.c.echoed, .bool b.x.c.readied, .bool b.x.c.done, .slice b.x.A1 b.x.c.echoes.length b.x.c1, .slice b.x.A2 b.x.c.readies.length b.x.c2] 79, Sep.blk gl #[.int .i64 (cmpI (a.frm : Int) (b.frm : Int)), .int .i64 (cmpI (a.seq : Int) (b.seq : Int))] 3] w w' → (w'.cell? ⟨g1, 0, none⟩ = some (.int .u8 (a.frm : Int)) ∧ w'.cell? ⟨g1, 1, none⟩ = some (.int .i64 (a.seq : Int)) ∧ w'.cell? ⟨g2, 0, none⟩ = some (.int .u8 (b.frm : Int)) ∧ w'.cell? ⟨g2, 1, none⟩ = some (.int .i64 (b.seq : Int)))) := ⟨fun W h => ⟨blk_cell (OwnS.blk h 0 rfl) 0, blk_cell (OwnS.blk h 0 rfl) 1, blk_cell (OwnS.blk h 1 rfl) 0, blk_cell (OwnS.blk h 1 rfl) 1⟩⟩; refine hK.out _ _ ?_ (fun hHeld2 => ?_); (focus (try dsimp only); (exact HKV.out _ (oh HH))); clear hK K hHeld; rename _ => hHeld; (try dsimp only at hHeld); (try simp only [Act.put, jjA, jjZ, jjS])
  refine wpAnyH_ready (rs := [11]) (by kernel_rfl) (by simp) ?_
  refine AllReadyH.cons (by simp only [List.getElem?_toArray, List.getElem?_cons_succ, List.getElem?_cons_zero]; rfl) (fun K hK => ?_) AllReadyH.nil; go_simp; go_at_call 53; refine ownS_call (oh HH) ?_; intro ht; refine (or_calls _ gl 0 2 _ _ (blk_cell (OwnS.blk ht 2 rfl) 0) (blk_cell (OwnS.blk ht 2 rfl) 1)).mono ?_; rintro e wx ⟨rfl, hww⟩; have hwx := hww.symm; clear hww; subst hwx; clear ht; refine hK.out _ _ ?_ (fun hHeld2 => ?_); (focus (try dsimp only); (exact HKV.out _ (oh HH))); clear hK K hHeld; rename _ => hHeld; (try dsimp only at hHeld); (try simp only [Act.put, jjA, jjZ, jjS])
  refine otk (i := 12) ?_; (try simp only [Act.put, jjA, jjZ, jjS])
  refine wpAnyH_done (by kernel_rfl) ?_ _
  go_wp2_with fail
  go_ret
  exact ⟨rfl, frm_below (OwnS.frm (oh HH))⟩
end Go.Proofs.Ytbaknecnkipooaa.Tld
namespace Go.Proofs.Ytbaknecnkipooaa.Tld
open Go Go.RowKit Go.Proofs.YtbaknecnkipooaaW.PrintWords Go.Proofs.Ytbaknecnkipooaa.Sep Go.Proofs.Ytbaknecnkipooaa.Obj Go.Proofs.Ytbaknecnkipooaa.Vot
set_option linter.unusedVariables false
set_option linter.unusedSimpArgs false
theorem range_blk {w : World} {g : Nat} {cs : Array Value} {T : TypeId} (h : w.heap[g]? = some (.cells cs T (0, 0))) : w.rangeAt g 0 cs.toList := fun j v hj => by
  rw [Nat.zero_add, blk_cell h]
  simpa using hj
def SrchR (l : List OP) (f s : Nat) (w : World) (e : Ending) (w' : World) : Prop := ∃ (n : Nat) (b : Bool), e = .returned (.tuple #[.int .i64 (n : Int), .bool b]) ∧ n ≤ l.length ∧ (∀ k (hk : k < l.length), k < n → lex l[k].frm l[k].seq f s) ∧ (∀ k (hk : k < l.length), n ≤ k → ¬ lex l[k].frm l[k].seq f s) ∧ (b = true ↔ ∃ h : n < l.length, l[n].frm = f ∧ l[n].seq = s) ∧ Below w.heap.size w w'
set_option maxHeartbeats 1000000 in
set_option maxRecDepth 100000 in
theorem srch_calls (w : World) (A : Option Addr) (c : Nat) (l : List OP) (y : OP) (hr : kOP.C w A l.length l) (hl : l.length ≤ 1000000) (hs : SortedO (l.map OP.o)) : Calls Try.prog 19 #[.slice A l.length c, .agg (opC y).toArray, .func (.func 20) #[] #[]] w (SrchR l y.frm y.seq w) := by
  have ey : (opC y).toArray = #[.int .u8 (y.frm : Int), .int .i64 (y.seq : Int), .bool y.x.c.echoed, .bool y.x.c.readied, .bool y.x.c.done, .slice y.x.A1 y.x.c.echoes.length y.x.c1, .slice y.x.A2 y.x.c.readies.length y.x.c2] := rfl
  rw [ey]
  have HH : Aside0 (OwnS (fun _ => False) [] w w) := ⟨OwnS.of_own (Own.start w)⟩
  have HR := Aside0.mk hr
  have HS := Aside0.mk hs
  clear ey hr hs
  go_enter Try.func19, Try.ntmps19
  go_wp2_with (first
  | ((with_reducible refine gate_dst (N := 4) rfl ?_); refine evS_box (oh HH) rfl (cs := #[.int .u8 (y.frm : Int), .int .i64 (y.seq : Int), .bool y.x.c.echoed, .bool y.x.c.readied, .bool y.x.c.done, .slice y.x.A1 y.x.c.echoes.length y.x.c1, .slice y.x.A2 y.x.c.readies.length y.x.c2]) (T := 79) ?_ ?_; (focus first | (go_simp; done) | (go_simp; rfl)); intro g1 w1 he hh; clear he; replace HH : Aside0 (OwnS (fun _ => False) [Sep.blk g1 #[.int .u8 (y.frm : Int), .int .i64 (y.seq : Int), .bool y.x.c.echoed, .bool y.x.c.readied, .bool y.x.c.done, .slice y.x.A1 y.x.c.echoes.length y.x.c1, .slice y.x.A2 y.x.c.readies.length y.x.c2] 79] w w1) := ⟨hh⟩; clear hh)
  | fail
  | fail)
  go_loopw [9, 10] (fun vi vj W => ∃ (i j : Nat), vi = .int .i64 (i : Int) ∧ vj = .int .i64 (j : Int) ∧ i ≤ j ∧ j ≤ l.length ∧ Aside0 (∀ k (hk : k < l.length), k < i → lex l[k].frm l[k].seq y.frm y.seq) ∧ Aside0 (∀ k (hk : k < l.length), j ≤ k → ¬ lex l[k].frm l[k].seq y.frm y.seq) ∧ Aside0 (OwnS (fun _ => False) [Sep.blk g1 #[.int .u8 (y.frm : Int), .int .i64 (y.seq : Int), .bool y.x.c.echoed, .bool y.x.c.readied, .bool y.x.c.done, .slice y.x.A1 y.x.c.echoes.length y.x.c1, .slice y.x.A2 y.x.c.readies.length y.x.c2] 79] w W)) (fun vi vj _ => (intOf vj).toNat - (intOf vi).toNat)
  case atStart => exact ⟨0, l.length, rfl, rfl, Nat.zero_le _, Nat.le_refl _, ⟨fun k hk h => by omega⟩, ⟨fun k hk h => by omega⟩, HH⟩
  case round =>
    clear HH
    obtain ⟨i, j, rfl, rfl, hij, hj, HA, HB, HH⟩ := hrel
    by_cases hlt : i < j
    · have q1 : (i : Int) < (j : Int) := by omega
      obtain ⟨m, hm⟩ : ∃ m, (i + j) / 2 = m := ⟨_, rfl⟩
      have hmi : i ≤ m := by omega
      have hmj : m < j := by omega
      have hml : m < l.length := by omega
      have q2 : (m : Int) < (l.length : Int) := by omega
      have q3 : 0 ≤ (m : Int) := by omega
      obtain ⟨x, hx⟩ : ∃ x, l[m] = x := ⟨_, rfl⟩
      obtain ⟨ga, oa, ea, _⟩ := at_OP HR.out m hml
      cases ea
      have hmI : ((i : Int) + (j : Int)) / 2 = (m : Int) := by omega
      have hsh : IntKind.i64.wrap (IntKind.u64.wrap (((i : Int) + (j : Int)) / 2)) = (m : Int) := by rw [IntKind.wrap_u64, IntKind.wrap_i64]; omega
      have HPR : Aside0 (∀ W, Below w.heap.size w W → W.rangeAt ga (oa + m * 7) [.int .u8 (x.frm : Int), .int .i64 (x.seq : Int), .bool x.x.c.echoed, .bool x.x.c.readied, .bool x.x.c.done, .slice x.x.A1 x.x.c.echoes.length x.x.c1, .slice x.x.A2 x.x.c.readies.length x.x.c2]) := ⟨fun W h => by
        obtain ⟨g', o', e', hr'⟩ := at_OP (Kd.C_below HR.out h) m hml
        cases e'
        rw [hx] at hr'
        exact hr'⟩
      go_upto_region 5 with fail
      have HSL : Aside0 (∀ a b, (hb : b < l.length) → (h : a < b) → lex (l[a]'(by omega)).frm (l[a]'(by omega)).seq l[b].frm l[b].seq) := ⟨fun a b hb h => by
        have := HS.out a b (by simpa using hb) h
        simpa [OP.o] using this⟩
      by_cases hlx : lex x.frm x.seq y.frm y.seq
      · have HLT : Aside0 (∀ k (hk : k < l.length), k ≤ m → lex l[k].frm l[k].seq y.frm y.seq) := ⟨fun k hk h => by
          rcases Nat.lt_or_ge k m with h1 | h1
          · have := HSL.out k m hml h1
            rw [hx] at this
            exact lex_trans this hlx
          · have e : k = m := by omega
            subst e
            rw [hx]
            exact hlx⟩
        have hlt0 : ordI x.frm x.seq y.frm y.seq < 0 := ord_lt.2 hlx
        clear hx hlx hm
        have HKV : Aside0 (∀ w' : World, OwnS (fun _ => False) [Sep.blk g1 #[.int .u8 (y.frm : Int), .int .i64 (y.seq : Int), .bool y.x.c.echoed, .bool y.x.c.readied, .bool y.x.c.done, .slice y.x.A1 y.x.c.echoes.length y.x.c1, .slice y.x.A2 y.x.c.readies.length y.x.c2] 79] w w' → (w'.rangeAt ga (oa + m * 7) [.int .u8 (x.frm : Int), .int .i64 (x.seq : Int), .bool x.x.c.echoed, .bool x.x.c.readied, .bool x.x.c.done, .slice x.x.A1 x.x.c.echoes.length x.x.c1, .slice x.x.A2 x.x.c.readies.length x.x.c2] ∧ w'.rangeAt g1 0 [.int .u8 (y.frm : Int), .int .i64 (y.seq : Int), .bool y.x.c.echoed, .bool y.x.c.readied, .bool y.x.c.done, .slice y.x.A1 y.x.c.echoes.length y.x.c1, .slice y.x.A2 y.x.c.readies.length y.x.c2])) := ⟨fun W h => ⟨HPR.out _ (frm_below (OwnS.frm h)), range_blk (OwnS.blk h 0 rfl)⟩⟩
        refine wp_region_held_drew (S := fun w' => w'.rangeAt ga (oa + m * 7) [.int .u8 (x.frm : Int), .int .i64 (x.seq : Int), .bool x.x.c.echoed, .bool x.x.c.readied, .bool x.x.c.done, .slice x.x.A1 x.x.c.echoes.length x.x.c1, .slice x.x.A2 x.x.c.readies.length x.x.c2] ∧ w'.rangeAt g1 0 [.int .u8 (y.frm : Int), .int .i64 (y.seq : Int), .bool y.x.c.echoed, .bool y.x.c.readied, .bool y.x.c.done, .slice y.x.A1 y.x.c.echoes.length y.x.c1, .slice y.x.A2 y.x.c.readies.length y.x.c2]) (by kernel_rfl) ?_ (fun hHeld => ?_)
        focus (try dsimp only); (exact HKV.out _ (oh HH))
        (try dsimp only at hHeld)
        refine otk (i := 0) ?_; (try simp only [Act.put, jjA, jjZ, jjS])
        refine otk (i := 1) ?_; (try simp only [Act.put, jjA, jjZ, jjS])
        refine otk (i := 2) (v := .int .i64 (m : Int)) ?_; (try simp only [Act.put, jjA, jjZ, jjS])
        refine otk (i := 3) (v := .pointer (some ⟨ga, oa + m * 7, none⟩)) ?_; (try simp only [Act.put, jjA, jjZ, jjS])
        refine tk (i := 4) (hy := yieldsIf_load_mid (by rfl) _ _ rfl _ _ rfl ([.int .u8 (x.frm : Int), .int .i64 (x.seq : Int), .bool x.x.c.echoed, .bool x.x.c.readied, .bool x.x.c.done, .slice x.x.A1 x.x.c.echoes.length x.x.c1, .slice x.x.A2 x.x.c.readies.length x.x.c2]) _ ?_ Try.underlying79 rfl (by kernel_rfl)) (h := ?_); (focus (intro w hSw; (try dsimp only at hSw); go_split_ands; assumption)); (try simp only [Act.put, jjA, jjZ, jjS])
        refine tk (i := 5) (hy := yieldsIf_load_mid (by rfl) _ _ rfl _ _ rfl ([.int .u8 (y.frm : Int), .int .i64 (y.seq : Int), .bool y.x.c.echoed, .bool y.x.c.readied, .bool y.x.c.done, .slice y.x.A1 y.x.c.echoes.length y.x.c1, .slice y.x.A2 y.x.c.readies.length y.x.c2]) _ ?_ Try.underlying79 rfl (by kernel_rfl)) (h := ?_); (focus (intro w hSw; (try dsimp only at hSw); go_split_ands; assumption)); (try simp only [Act.put, jjA, jjZ, jjS])
        refine wpAnyH_ready (rs := [6]) (by kernel_rfl) (by simp) ?_
        refine AllReadyH.cons (by simp only [List.getElem?_toArray, List.getElem?_cons_succ, List.getElem?_cons_zero]; rfl) (fun K hK => ?_) AllReadyH.nil; go_simp; go_at_call 20; refine ownS_call (oh HH) ?_; intro ht; refine (order_calls _ x y).mono ?_; rintro e w21 ⟨rfl, hb⟩; replace HH : Aside0 (OwnS (fun _ => False) [Sep.blk g1 #[.int .u8 (y.frm : Int), .int .i64 (y.seq : Int), .bool y.x.c.echoed, .bool y.x.c.readied, .bool y.x.c.done, .slice y.x.A1 y.x.c.echoes.length y.x.c1, .slice y.x.A2 y.x.c.readies.length y.x.c2] 79] w w21) := ⟨OwnS.step ht hb⟩; clear hb; clear ht; refine hK.out _ _ ?_ (fun hHeld2 => ?_); (focus (try dsimp only); (exact HKV.out _ (oh HH))); clear hK K hHeld; rename _ => hHeld; (try dsimp only at hHeld); (try simp only [Act.put, jjA, jjZ, jjS])
        refine otk (i := 7) (v := .bool true) ?_; (try simp only [Act.put, jjA, jjZ, jjS])
        refine wpAnyH_done (by kernel_rfl) ?_ _
        go_wp2_with fail
        go_roundw
        case rel => exact ⟨m + 1, j, by go_num, rfl, by omega, hj, ⟨fun k hk h => HLT.out k hk (by omega)⟩, HB, ⟨OwnS.picks (oh HH) [0] (by decide)⟩⟩
        case measure => simp [intOf]; omega
      · have HGE : Aside0 (∀ k (hk : k < l.length), m ≤ k → ¬ lex l[k].frm l[k].seq y.frm y.seq) := ⟨fun k hk h hc => by
          rcases Nat.lt_or_ge m k with h1 | h1
          · have := HSL.out m k hk h1
            rw [hx] at this
            exact hlx (lex_trans this hc)
          · have e : k = m := by omega
            subst e
            rw [hx] at hc
            exact hlx hc⟩
        have hlt0 : ¬ ordI x.frm x.seq y.frm y.seq < 0 := fun h => hlx (ord_lt.1 h)
        clear hx hlx hm
        have HKV : Aside0 (∀ w' : World, OwnS (fun _ => False) [Sep.blk g1 #[.int .u8 (y.frm : Int), .int .i64 (y.seq : Int), .bool y.x.c.echoed, .bool y.x.c.readied, .bool y.x.c.done, .slice y.x.A1 y.x.c.echoes.length y.x.c1, .slice y.x.A2 y.x.c.readies.length y.x.c2] 79] w w' → (w'.rangeAt ga (oa + m * 7) [.int .u8 (x.frm : Int), .int .i64 (x.seq : Int), .bool x.x.c.echoed, .bool x.x.c.readied, .bool x.x.c.done, .slice x.x.A1 x.x.c.echoes.length x.x.c1, .slice x.x.A2 x.x.c.readies.length x.x.c2] ∧ w'.rangeAt g1 0 [.int .u8 (y.frm : Int), .int .i64 (y.seq : Int), .bool y.x.c.echoed, .bool y.x.c.readied, .bool y.x.c.done, .slice y.x.A1 y.x.c.echoes.length y.x.c1, .slice y.x.A2 y.x.c.readies.length y.x.c2])) := ⟨fun W h => ⟨HPR.out _ (frm_below (OwnS.frm h)), range_blk (OwnS.blk h 0 rfl)⟩⟩
        refine wp_region_held_drew (S := fun w' => w'.rangeAt ga (oa + m * 7) [.int .u8 (x.frm : Int), .int .i64 (x.seq : Int), .bool x.x.c.echoed, .bool x.x.c.readied, .bool x.x.c.done, .slice x.x.A1 x.x.c.echoes.length x.x.c1, .slice x.x.A2 x.x.c.readies.length x.x.c2] ∧ w'.rangeAt g1 0 [.int .u8 (y.frm : Int), .int .i64 (y.seq : Int), .bool y.x.c.echoed, .bool y.x.c.readied, .bool y.x.c.done, .slice y.x.A1 y.x.c.echoes.length y.x.c1, .slice y.x.A2 y.x.c.readies.length y.x.c2]) (by kernel_rfl) ?_ (fun hHeld => ?_)
        focus (try dsimp only); (exact HKV.out _ (oh HH))
        (try dsimp only at hHeld)
        refine otk (i := 0) ?_; (try simp only [Act.put, jjA, jjZ, jjS])
        refine otk (i := 1) ?_; (try simp only [Act.put, jjA, jjZ, jjS])
        refine otk (i := 2) (v := .int .i64 (m : Int)) ?_; (try simp only [Act.put, jjA, jjZ, jjS])
        refine otk (i := 3) (v := .pointer (some ⟨ga, oa + m * 7, none⟩)) ?_; (try simp only [Act.put, jjA, jjZ, jjS])
        refine tk (i := 4) (hy := yieldsIf_load_mid (by rfl) _ _ rfl _ _ rfl ([.int .u8 (x.frm : Int), .int .i64 (x.seq : Int), .bool x.x.c.echoed, .bool x.x.c.readied, .bool x.x.c.done, .slice x.x.A1 x.x.c.echoes.length x.x.c1, .slice x.x.A2 x.x.c.readies.length x.x.c2]) _ ?_ Try.underlying79 rfl (by kernel_rfl)) (h := ?_); (focus (intro w hSw; (try dsimp only at hSw); go_split_ands; assumption)); (try simp only [Act.put, jjA, jjZ, jjS])
        refine tk (i := 5) (hy := yieldsIf_load_mid (by rfl) _ _ rfl _ _ rfl ([.int .u8 (y.frm : Int), .int .i64 (y.seq : Int), .bool y.x.c.echoed, .bool y.x.c.readied, .bool y.x.c.done, .slice y.x.A1 y.x.c.echoes.length y.x.c1, .slice y.x.A2 y.x.c.readies.length y.x.c2]) _ ?_ Try.underlying79 rfl (by kernel_rfl)) (h := ?_); (focus (intro w hSw; (try dsimp only at hSw); go_split_ands; assumption)); (try simp only [Act.put, jjA, jjZ, jjS])
        refine wpAnyH_ready (rs := [6]) (by kernel_rfl) (by simp) ?_
        refine AllReadyH.cons (by simp only [List.getElem?_toArray, List.getElem?_cons_succ, List.getElem?_cons_zero]; rfl) (fun K hK => ?_) AllReadyH.nil; go_simp; go_at_call 20; refine ownS_call (oh HH) ?_; intro ht; refine (order_calls _ x y).mono ?_; rintro e w21 ⟨rfl, hb⟩; replace HH : Aside0 (OwnS (fun _ => False) [Sep.blk g1 #[.int .u8 (y.frm : Int), .int .i64 (y.seq : Int), .bool y.x.c.echoed, .bool y.x.c.readied, .bool y.x.c.done, .slice y.x.A1 y.x.c.echoes.length y.x.c1, .slice y.x.A2 y.x.c.readies.length y.x.c2] 79] w w21) := ⟨OwnS.step ht hb⟩; clear hb; clear ht; refine hK.out _ _ ?_ (fun hHeld2 => ?_); (focus (try dsimp only); (exact HKV.out _ (oh HH))); clear hK K hHeld; rename _ => hHeld; (try dsimp only at hHeld); (try simp only [Act.put, jjA, jjZ, jjS])
        refine otk (i := 7) (v := .bool false) ?_; (try simp only [Act.put, jjA, jjZ, jjS])
        refine wpAnyH_done (by kernel_rfl) ?_ _
        go_wp2_with fail
        go_roundw
        case rel => exact ⟨i, m, rfl, rfl, hmi, by omega, HA, ⟨fun k hk h => HGE.out k hk h⟩, ⟨OwnS.picks (oh HH) [0] (by decide)⟩⟩
        case measure => simp [intOf]; omega
    · have hijE : i = j := by omega
      subst hijE
      have HB2 := HB
      by_cases hin : i < l.length
      · have q2 : (i : Int) < (l.length : Int) := by omega
        have q3 : 0 ≤ (i : Int) := by omega
        obtain ⟨x, hx⟩ : ∃ x, l[i] = x := ⟨_, rfl⟩
        obtain ⟨ga, oa, ea, _⟩ := at_OP HR.out i hin
        cases ea
        have HPR : Aside0 (∀ W, Below w.heap.size w W → W.rangeAt ga (oa + i * 7) [.int .u8 (x.frm : Int), .int .i64 (x.seq : Int), .bool x.x.c.echoed, .bool x.x.c.readied, .bool x.x.c.done, .slice x.x.A1 x.x.c.echoes.length x.x.c1, .slice x.x.A2 x.x.c.readies.length x.x.c2]) := ⟨fun W h => by
          obtain ⟨g', o', e', hr'⟩ := at_OP (Kd.C_below HR.out h) i hin
          cases e'
          rw [hx] at hr'
          exact hr'⟩
        have HEQ : Aside0 (decide (ordI x.frm x.seq y.frm y.seq = 0) = true ↔ ∃ h : i < l.length, l[i].frm = y.frm ∧ l[i].seq = y.seq) := ⟨by
          rw [decide_eq_true_iff, ord_eq]
          exact ⟨fun h => ⟨hin, by rw [hx]; exact h⟩, fun ⟨h', h⟩ => by rw [hx] at h; exact h⟩⟩
        clear hx
        go_upto_region 8 with fail
        have HKV : Aside0 (∀ w' : World, OwnS (fun _ => False) [Sep.blk g1 #[.int .u8 (y.frm : Int), .int .i64 (y.seq : Int), .bool y.x.c.echoed, .bool y.x.c.readied, .bool y.x.c.done, .slice y.x.A1 y.x.c.echoes.length y.x.c1, .slice y.x.A2 y.x.c.readies.length y.x.c2] 79] w w' → (w'.rangeAt ga (oa + i * 7) [.int .u8 (x.frm : Int), .int .i64 (x.seq : Int), .bool x.x.c.echoed, .bool x.x.c.readied, .bool x.x.c.done, .slice x.x.A1 x.x.c.echoes.length x.x.c1, .slice x.x.A2 x.x.c.readies.length x.x.c2] ∧ w'.rangeAt g1 0 [.int .u8 (y.frm : Int), .int .i64 (y.seq : Int), .bool y.x.c.echoed, .bool y.x.c.readied, .bool y.x.c.done, .slice y.x.A1 y.x.c.echoes.length y.x.c1, .slice y.x.A2 y.x.c.readies.length y.x.c2])) := ⟨fun W h => ⟨HPR.out _ (frm_below (OwnS.frm h)), range_blk (OwnS.blk h 0 rfl)⟩⟩
        refine wp_region_held_drew (S := fun w' => w'.rangeAt ga (oa + i * 7) [.int .u8 (x.frm : Int), .int .i64 (x.seq : Int), .bool x.x.c.echoed, .bool x.x.c.readied, .bool x.x.c.done, .slice x.x.A1 x.x.c.echoes.length x.x.c1, .slice x.x.A2 x.x.c.readies.length x.x.c2] ∧ w'.rangeAt g1 0 [.int .u8 (y.frm : Int), .int .i64 (y.seq : Int), .bool y.x.c.echoed, .bool y.x.c.readied, .bool y.x.c.done, .slice y.x.A1 y.x.c.echoes.length y.x.c1, .slice y.x.A2 y.x.c.readies.length y.x.c2]) (by kernel_rfl) ?_ (fun hHeld => ?_)
        focus (try dsimp only); (exact HKV.out _ (oh HH))
        (try dsimp only at hHeld)
        refine otk (i := 0) (v := .int .i64 (i : Int)) ?_; (try simp only [Act.put, jjA, jjZ, jjS])
        refine otk (i := 1) (v := .int .i64 (i : Int)) ?_; (try simp only [Act.put, jjA, jjZ, jjS])
        refine otk (i := 2) ?_; (try simp only [Act.put, jjA, jjZ, jjS])
        refine otk (i := 3) (v := .bool true) ?_; (try simp only [Act.put, jjA, jjZ, jjS])
        refine otk (i := 4) (v := .bool true) ?_; (try simp only [Act.put, jjA, jjZ, jjS])
        refine otk (i := 5) ?_; (try simp only [Act.put, jjA, jjZ, jjS])
        refine otk (i := 6) ?_; (try simp only [Act.put, jjA, jjZ, jjS])
        refine otk (i := 7) (v := .int .i64 (i : Int)) ?_; (try simp only [Act.put, jjA, jjZ, jjS])
        refine otk (i := 8) (v := .pointer (some ⟨ga, oa + i * 7, none⟩)) ?_; (try simp only [Act.put, jjA, jjZ, jjS])
        refine tk (i := 9) (hy := yieldsIf_load_mid (by rfl) _ _ rfl _ _ rfl ([.int .u8 (x.frm : Int), .int .i64 (x.seq : Int), .bool x.x.c.echoed, .bool x.x.c.readied, .bool x.x.c.done, .slice x.x.A1 x.x.c.echoes.length x.x.c1, .slice x.x.A2 x.x.c.readies.length x.x.c2]) _ ?_ Try.underlying79 rfl (by kernel_rfl)) (h := ?_); (focus (intro w hSw; (try dsimp only at hSw); go_split_ands; assumption)); (try simp only [Act.put, jjA, jjZ, jjS])
        refine tk (i := 10) (hy := yieldsIf_load_mid (by rfl) _ _ rfl _ _ rfl ([.int .u8 (y.frm : Int), .int .i64 (y.seq : Int), .bool y.x.c.echoed, .bool y.x.c.readied, .bool y.x.c.done, .slice y.x.A1 y.x.c.echoes.length y.x.c1, .slice y.x.A2 y.x.c.readies.length y.x.c2]) _ ?_ Try.underlying79 rfl (by kernel_rfl)) (h := ?_); (focus (intro w hSw; (try dsimp only at hSw); go_split_ands; assumption)); (try simp only [Act.put, jjA, jjZ, jjS])
        refine wpAnyH_ready (rs := [11]) (by kernel_rfl) (by simp) ?_
        refine AllReadyH.cons (by simp only [List.getElem?_toArray, List.getElem?_cons_succ, List.getElem?_cons_zero]; rfl) (fun K hK => ?_) AllReadyH.nil; go_simp; go_at_call 20; refine ownS_call (oh HH) ?_; intro ht; refine (order_calls _ x y).mono ?_; rintro e w51 ⟨rfl, hb⟩; replace HH : Aside0 (OwnS (fun _ => False) [Sep.blk g1 #[.int .u8 (y.frm : Int), .int .i64 (y.seq : Int), .bool y.x.c.echoed, .bool y.x.c.readied, .bool y.x.c.done, .slice y.x.A1 y.x.c.echoes.length y.x.c1, .slice y.x.A2 y.x.c.readies.length y.x.c2] 79] w w51) := ⟨OwnS.step ht hb⟩; clear hb; clear ht; refine hK.out _ _ ?_ (fun hHeld2 => ?_); (focus (try dsimp only); (exact HKV.out _ (oh HH))); clear hK K hHeld; rename _ => hHeld; (try dsimp only at hHeld); (try simp only [Act.put, jjA, jjZ, jjS])
        refine tk (i := 12) (v := .bool (decide (ordI x.frm x.seq y.frm y.seq = 0))) (hy := (Or.inl ⟨by rfl, fun w hSw => by (try dsimp only at hSw); go_simp; rfl⟩)) (h := ?_); (try simp only [Act.put, jjA, jjZ, jjS])
        refine otk (i := 13) (v := .bool (decide (ordI x.frm x.seq y.frm y.seq = 0))) ?_; (try simp only [Act.put, jjA, jjZ, jjS])
        refine otk (i := 14) ?_; (try simp only [Act.put, jjA, jjZ, jjS])
        refine otk (i := 15) ?_; (try simp only [Act.put, jjA, jjZ, jjS])
        refine wpAnyH_done (by kernel_rfl) ?_ _
        go_wp2_with fail
        refine bodyPost_ret (v := .tuple #[.int .i64 (i : Int), .bool (decide (ordI x.frm x.seq y.frm y.seq = 0))]) (results_list (rs := [.tmp 6, .tmp 7]) (vs := [_, _]) rfl (by simp) (.tmp (.tmp .nil))) rfl ?_
        exact ⟨i, decide (ordI x.frm x.seq y.frm y.seq = 0), rfl, by omega, HA.out, HB2.out, HEQ.out, frm_below (OwnS.frm (oh HH))⟩
      · have q2 : ¬ (i : Int) < (l.length : Int) := by omega
        have HEQ : Aside0 (false = true ↔ ∃ h : i < l.length, l[i].frm = y.frm ∧ l[i].seq = y.seq) := ⟨⟨fun h => absurd h (by decide), fun ⟨h, _⟩ => absurd h hin⟩⟩
        go_upto_region 8 with fail
        have HKV : Aside0 (∀ w' : World, OwnS (fun _ => False) [Sep.blk g1 #[.int .u8 (y.frm : Int), .int .i64 (y.seq : Int), .bool y.x.c.echoed, .bool y.x.c.readied, .bool y.x.c.done, .slice y.x.A1 y.x.c.echoes.length y.x.c1, .slice y.x.A2 y.x.c.readies.length y.x.c2] 79] w w' → (True)) := ⟨fun W h => trivial⟩
        refine wp_region_held_drew (S := fun w' => True) (by kernel_rfl) ?_ (fun hHeld => ?_)
        focus trivial
        (try dsimp only at hHeld)
        refine otk (i := 0) ?_; (try simp only [Act.put, jjA, jjZ, jjS])
        refine otk (i := 1) ?_; (try simp only [Act.put, jjA, jjZ, jjS])
        refine otk (i := 2) ?_; (try simp only [Act.put, jjA, jjZ, jjS])
        refine otk (i := 3) (v := .bool false) ?_; (try simp only [Act.put, jjA, jjZ, jjS])
        refine otk (i := 4) (v := .bool false) ?_; (try simp only [Act.put, jjA, jjZ, jjS])
        refine tk (i := 5) (v := undef) (hy := Or.inr ⟨by rfl, rfl⟩) (h := ?_); (try simp only [Act.put, jjA, jjZ, jjS])
        refine tk (i := 6) (v := undef) (hy := Or.inr ⟨by rfl, rfl⟩) (h := ?_); (try simp only [Act.put, jjA, jjZ, jjS])
        refine tk (i := 7) (v := undef) (hy := Or.inr ⟨by rfl, rfl⟩) (h := ?_); (try simp only [Act.put, jjA, jjZ, jjS])
        refine tk (i := 8) (v := undef) (hy := Or.inr ⟨by rfl, rfl⟩) (h := ?_); (try simp only [Act.put, jjA, jjZ, jjS])
        refine tk (i := 9) (v := undef) (hy := Or.inr ⟨by rfl, rfl⟩) (h := ?_); (try simp only [Act.put, jjA, jjZ, jjS])
        refine tk (i := 10) (v := undef) (hy := Or.inr ⟨by rfl, rfl⟩) (h := ?_); (try simp only [Act.put, jjA, jjZ, jjS])
        refine tk (i := 11) (v := undef) (hy := Or.inr ⟨by rfl, rfl⟩) (h := ?_); (try simp only [Act.put, jjA, jjZ, jjS])
        refine tk (i := 12) (v := undef) (hy := Or.inr ⟨by rfl, rfl⟩) (h := ?_); (try simp only [Act.put, jjA, jjZ, jjS])
        refine otk (i := 13) (v := .bool false) ?_; (try simp only [Act.put, jjA, jjZ, jjS])
        refine otk (i := 14) ?_; (try simp only [Act.put, jjA, jjZ, jjS])
        refine otk (i := 15) ?_; (try simp only [Act.put, jjA, jjZ, jjS])
        refine wpAnyH_done (by kernel_rfl) ?_ _
        go_wp2_with fail
        refine bodyPost_ret (v := .tuple #[.int .i64 (i : Int), .bool false]) (results_list (rs := [.tmp 6, .tmp 7]) (vs := [_, _]) rfl (by simp) (.tmp (.tmp .nil))) rfl ?_
        exact ⟨i, false, rfl, by omega, HA.out, HB2.out, HEQ.out, frm_below (OwnS.frm (oh HH))⟩
end Go.Proofs.Ytbaknecnkipooaa.Tld
