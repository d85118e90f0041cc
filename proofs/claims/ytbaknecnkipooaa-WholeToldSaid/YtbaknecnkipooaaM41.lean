/- pack.Encode. -/
import Derived.Test.YtbaknecnkipooaaM16
import Derived.Test.YtbaknecnkipooaaM40
namespace Go.Proofs.Ytbaknecnkipooaa.Tld
open Go Go.RowKit Go.Proofs.YtbaknecnkipooaaW.PrintWords Go.Proofs.Ytbaknecnkipooaa.Sep Go.Proofs.Ytbaknecnkipooaa.Obj
set_option linter.unusedVariables false
set_option linter.unusedSimpArgs false
section
variable {P : Program} {ops : Array Oper} {rest : List Oper} {o : Oper} {a : Act} {Q : Exit → Act → World → Prop} {Kc : Act → World → Prop} {S : Nat → Prop} {As : List Asr} {w0 W : World}
theorem evS_appendStr_step {E : Prop} (HH : OwnS S As w0 W) (i : Nat) (hw : Region.wanted o (yielded ops a.tmps) = true) (s x : Operand) (t u e : TypeId)
    (ho : o.op = .call { callee := .builtin .append, args := #[s, x], argTypes := #[t, u] }) (ht : P.underlying t = some (.slice e)) (hu : P.underlying u = some .string) (hinfo : (P.info? e).map (fun i => (i.zero, i.size, i.bytes)) = some (some (.int .u8 0), 1, 1))
    (v : Value) (xs : List Int) (y : ByteArray) (hi : As[i]? = some (Sep.row (Kd.int .u8) e v xs)) (hs : a.eval s = v) (hx : a.eval x = .string y) (hl : xs.length + y.size ≤ 140737488355328)
    (h : ∀ A c m w1, m = (xs ++ bytesOf y).length → OwnS S (As.set i (Sep.row (Kd.int .u8) e (.slice A m c) (xs ++ bytesOf y))) w0 w1 → Kc (a.put o.dst (.slice A m c)) w1) : if Region.wanted o (yielded ops a.tmps) = true then Oper.wp P o a W Kc Q else E := by
  obtain ⟨h0, F, hF⟩ := HH
  obtain ⟨i0, hi0, hzz⟩ := Option.map_eq_some_iff.1 hinfo
  simp only [Prod.mk.injEq] at hzz
  obtain ⟨hz0, hz1, hz2⟩ := hzz
  obtain ⟨A, c, w', hr, hR, hf⟩ := app_str (P := P) W t u o.type e i0 ht hu hi0 hz0 hz1 hz2 (hF i _ hi) y hl
  refine step_run hw (v := .slice A (xs ++ bytesOf y).length c) (w' := w') ?_ (h A c _ w' rfl (ownS_modF h0 hF i hi _ hf hR))
  simp only [execOp, ho, resolve, invoke, builtin, Sem.run_bind, Sem.run_pure, Result.andThen_ok, List.map_toArray, List.map_cons, List.map_nil, hs, hx, hr]
end
inductive Fl where
  | num (n : Nat)
  | txt (t : ByteArray)
def fldC : Fl → List Value
  | .num n => [.int .i64 1, .int .u64 (n : Int), .string ⟨#[]⟩, .float .f64 0]
  | .txt t => [.int .i64 2, .int .u64 0, .string t, .float .f64 0]
def kFl : Kd Fl := flat 4 fldC (fun x => by cases x <;> rfl) (fun x u hu => by cases x <;> (simp [fldC] at hu; rcases hu with rfl | rfl | rfl | rfl <;> rfl))
def FlOk : Fl → Prop
  | .num n => n < 65536
  | .txt t => t.size ≤ 2000
def encF : Fl → List Int
  | .num n => 1 :: numB n
  | .txt t => 2 :: (numB t.size ++ bytesOf t)
def encP (l : List Fl) (i : Nat) : List Int := (l.length : Int) :: (l.take i).flatMap encF
def encB (l : List Fl) : List Int := (l.length : Int) :: l.flatMap encF
theorem encP_succ {l : List Fl} {i : Nat} (hi : i < l.length) : encP l (i + 1) = encP l i ++ encF l[i] := by
  unfold encP
  rw [← List.take_append_getElem hi, List.flatMap_append]
  simp
theorem encP_all {l : List Fl} {i : Nat} (hi : i = l.length) : encP l i = encB l := by
  unfold encP encB
  rw [List.take_of_length_le (by omega)]
theorem encP_len {l : List Fl} {i : Nat} (hi : i ≤ l.length) : (encP l i).length ≤ (encB l).length := by
  unfold encP encB
  conv => rhs; rw [← List.take_append_drop i l, List.flatMap_append]
  simp
theorem numB_len (n : Nat) : (numB n).length ≤ 3 := by
  have := sizeI_two (n : Int)
  unfold numB
  rw [List.length_cons, lowB_len]
  unfold sizeB
  omega
theorem at_Fl {w : World} {A : Option Addr} {n : Nat} {xs : List Fl} (h : kFl.C w A n xs) (i : Nat) (h1 : i < xs.length) : ∃ g o, A = some ⟨g, o, none⟩ ∧ w.rangeAt g (o + i * 4) (fldC xs[i]) := by
  have hn := Kd.C_len h
  obtain ⟨ad, cs, e, _, hK, hc⟩ := Kd.C_get h xs[i] (i : Int) (by omega) (by omega)
  have hx : xs.getD (i : Int).toNat xs[i] = xs[i] := by simp [h1]
  rw [hx] at hK
  have hK' : cs = fldC xs[i] := hK
  subst hK'
  have e3 : kFl.sz = 4 := rfl
  rw [e3] at hc
  obtain ⟨g, o, sp⟩ := ad
  cases sp with
  | none =>
    refine ⟨g, o, e, fun j v hj => ?_⟩
    have := hc j v hj
    rw [Addr.add_mid] at this
    rw [Nat.add_assoc]
    simpa using this
  | some s =>
    exfalso
    obtain ⟨ad2, c2, e2, _, hK2, hc2⟩ := Kd.C_get h xs[i] (0 : Int) (by omega) (by omega)
    obtain rfl := Option.some.inj (e.symm.trans e2)
    generalize xs.getD (0 : Int).toNat xs[i] = y at hK2
    have hK3 : c2 = fldC y := hK2
    subst hK3
    have h0 := hc2 0 ((fldC y)[0]'(by cases y <;> simp [fldC])) (List.getElem?_eq_getElem _)
    have e3 : ((⟨g, o, some s⟩ : Addr).add ((0 : Int).toNat * kFl.sz + 0)) = ⟨g, o, some s⟩ := rfl
    rw [e3] at h0
    unfold World.cell? at h0
    split at h0 <;> (cases y <;> simp [fldC] at h0)
set_option maxHeartbeats 1000000 in
set_option maxRecDepth 100000 in
theorem encode_calls (w : World) (A : Option Addr) (c : Nat) (l : List Fl) (hr : kFl.C w A l.length l) (hok : ∀ x ∈ l, FlOk x) (hl : l.length ≤ 200) (hb : (encB l).length ≤ 8000) :
    Calls Try.prog 16 #[.slice A l.length c] w (fun e w' => ∃ A' c', e = .returned (.tuple #[.slice A' (encB l).length c', .int .i64 0]) ∧ Own [Sep.row (Kd.int .u8) 5 (.slice A' (encB l).length c') (encB l)] w w') := by
  have HR := Aside0.mk hr
  have HOK := Aside0.mk hok
  have HBL := Aside0.mk hb
  have HH : Aside0 (OwnS (fun _ => False) [] w w) := ⟨OwnS.of_own (Own.start w)⟩
  have hw8 : IntKind.u8.wrap (l.length : Int) = (l.length : Int) := by rw [IntKind.wrap_u8]; omega
  clear hr hok hb
  go_enter Try.func16, Try.ntmps16
  go_wp2_with (first
  | ((with_reducible refine gate_dst (N := 10) rfl ?_); refine evS_rows (oh HH) rfl (fun g => Sep.row (Kd.int .u8) 5 (.slice (some ⟨g, 0, none⟩) 1 1) [(l.length : Int)]) (cs := #[.int .u8 (l.length : Int)]) (T := 5) (n := 1) ?_ ?_ ?_; (focus first | (go_simp; done) | (go_simp; rfl)); (focus exact row_lit (Kd.int .u8) 5 (inner := [.int .u8 (l.length : Int)]) (fun W T => int_reps .u8 [(l.length : Int)]) 1 rfl (by simp)); intro gb w1 he hh; clear he; replace HH : Aside0 (OwnS (fun _ => False) [Sep.row (Kd.int .u8) 5 (.slice (some ⟨gb, 0, none⟩) 1 1) [(l.length : Int)]] w w1) := ⟨hh⟩; clear hh)
  | fail
  | fail)
  go_loopw [4, 13] (fun v4 vi W => ∃ (i m2 : Nat) (A2 : Option Addr) (c2 : Nat) (b2 : List Int), v4 = .slice A2 m2 c2 ∧ vi = .int .i64 (i : Int) ∧ i ≤ l.length ∧ Aside0 (b2 = encP l i) ∧ Aside0 (b2.length = m2) ∧ Aside0 (OwnS (fun _ => False) [Sep.row (Kd.int .u8) 5 (.slice A2 m2 c2) b2] w W)) (fun _ vi _ => l.length - (intOf vi).toNat)
  case atStart => exact ⟨0, 1, some ⟨gb, 0, none⟩, 1, [(l.length : Int)], rfl, rfl, Nat.zero_le _, ⟨by simp [encP]⟩, ⟨rfl⟩, HH⟩
  case round =>
    clear HH
    obtain ⟨i, m2, A2, c2, b2, rfl, rfl, hi, HB2, HL2, HH⟩ := hrel
    have hm2 : m2 ≤ 8000 := by have := encP_len hi; have := HBL.out; have := HL2.out; rw [HB2.out] at this; omega
    by_cases hlt : i < l.length
    · obtain ⟨ga, oa, ea, _⟩ := at_Fl HR.out i hlt
      subst ea
      obtain ⟨x, hx⟩ : ∃ x, l[i] = x := ⟨_, rfl⟩
      have HXE := Aside0.mk hx
      have hxo := HOK.out l[i] (List.getElem_mem hlt)
      rw [hx] at hxo
      have q0 : 0 ≤ (i : Int) := by omega
      have q1 : (i : Int) < (l.length : Int) := by omega
      have HPR : Aside0 (∀ W, OwnS (fun _ => False) [Sep.row (Kd.int .u8) 5 (.slice A2 m2 c2) b2] w W → W.rangeAt ga (oa + i * 4) (fldC x)) := ⟨fun W h => by
        obtain ⟨g', o', e', hr'⟩ := at_Fl (Kd.C_below HR.out (frm_below (OwnS.frm h))) i hlt
        cases e'
        rw [HXE.out] at hr'
        exact hr'⟩
      cases x with
      | num n =>
        have HN : Aside0 (n < 65536) := ⟨hxo⟩
        clear hx hxo
        go_wp2_with (first
        | ((with_reducible refine gate_ (.load 72 (.tmp 15)) rfl ?_); refine ev_loadR (b := ga) (p0 := oa + i * 4) (n := 4) (vs := [.int .i64 1, .int .u64 (n : Int), .string ⟨#[]⟩, .float .f64 0]) (HPR.out _ ?_) rfl rfl (by rfl) Try.underlying72 rfl rfl (by kernel_rfl) ?_; (focus first | with_reducible exact HH.out | ((with_reducible repeat first | refine OwnS.alloc ?_ _ | refine OwnS.drewN ?_ _ | refine OwnS.drew ?_); with_reducible exact HH.out)))
        | ((with_reducible refine gate_dst (N := 6) rfl ?_); refine evS_box (oh HH) rfl (cs := #[.int .i64 0, .int .u64 0, .string ⟨#[]⟩, .float .f64 0]) (T := 72) ?_ ?_; (focus first | (go_simp; done) | (go_simp; rfl)); intro g11 w21 he hh; clear he; replace HH : Aside0 (OwnS (fun _ => False) [Sep.row (Kd.int .u8) 5 (.slice A2 m2 c2) b2, Sep.blk g11 #[.int .i64 0, .int .u64 0, .string ⟨#[]⟩, .float .f64 0] 72] w w21) := ⟨hh⟩; clear hh)
        | ((with_reducible refine gate_ (.store 72 (.tmp 6) (.tmp 16)) rfl ?_); refine evS_store (oh HH) 1 rfl rfl rfl rfl (by rfl) (.agg #[.int .i64 1, .int .u64 (n : Int), .string ⟨#[]⟩, .float .f64 0]) (by rfl) [.int .i64 1, .int .u64 (n : Int), .string ⟨#[]⟩, .float .f64 0] (by rfl) (by kernel_rfl) (by simp) (by simp [Value.oneCell']) ?_; intro w22 hh; replace HH : Aside0 (OwnS (fun _ => False) [Sep.row (Kd.int .u8) 5 (.slice A2 m2 c2) b2, Sep.blk g11 #[.int .i64 1, .int .u64 (n : Int), .string ⟨#[]⟩, .float .f64 0] 72] w w22) := ⟨hh⟩; clear hh)
        | ((with_reducible refine gate_ (.load 72 (.tmp 6)) rfl ?_); refine ev_load (OwnS.blk (oh HH) 1 rfl) 0 4 [.int .i64 1, .int .u64 (n : Int), .string ⟨#[]⟩, .float .f64 0] rfl rfl rfl (by rfl) Try.underlying72 rfl (by kernel_rfl) ?_)
        | (go_at_call 46; refine ownS_call (oh HH) ?_; intro ht; refine (mayNum_calls _ _).mono ?_; rintro e w23 ⟨rfl, hb⟩; replace HH : Aside0 (OwnS (fun _ => False) [Sep.row (Kd.int .u8) 5 (.slice A2 m2 c2) b2, Sep.blk g11 #[.int .i64 1, .int .u64 (n : Int), .string ⟨#[]⟩, .float .f64 0] 72] w w23) := ⟨OwnS.step ht hb⟩; clear hb; clear ht)
        | ((with_reducible refine gate_ (.load 3 (.tmp 21)) rfl ?_); refine ev_cell (blk_cell (OwnS.blk (oh HH) 1 rfl) 0) rfl rfl (by rfl) Try.underlying3 rfl ?_)
        | (at_builtin; refine evS_appendR (Kd.int .u8) (oh HH) 0 rfl (.tmp 20) (.tmp 24) 23 5 (.int .u8 0) 1 rfl Try.underlying23 infoB rfl (by first | decide | exact Nat.succ_pos _) (by decide) (.slice A2 m2 c2) b2 1 [.int .u8 1] rfl rfl ?_ ?_ ?_ ?_; (focus first | rfl | (simp [Act.eval]; done)); (focus exact fun _ => rfl); (focus have := HL2.out; omega); intro A9 c9 w24 hh; replace HH : Aside0 (OwnS (fun _ => False) [Sep.row (Kd.int .u8) 5 (.slice A9 (b2.length + 1) c9) (b2 ++ [1]), Sep.blk g11 #[.int .i64 1, .int .u64 (n : Int), .string ⟨#[]⟩, .float .f64 0] 72] w w24) := ⟨hh⟩; clear hh)
        | ((with_reducible refine gate_ (.load 3 (.tmp 26)) rfl ?_); refine ev_cell (blk_cell (OwnS.blk (oh HH) 1 rfl) 0) rfl rfl (by rfl) Try.underlying3 rfl ?_)
        | ((with_reducible refine gate_ (.load 69 (.tmp 31)) rfl ?_); refine ev_cell (blk_cell (OwnS.blk (oh HH) 1 rfl) 1) rfl rfl (by rfl) Try.underlying69 rfl ?_)
        | (go_at_call 47; refine ownS_call (oh HH) ?_; intro ht; obtain ⟨S3, h3, hput⟩ := ownS_part (As := [Sep.row (Kd.int .u8) 5 (.slice A9 (b2.length + 1) c9) (b2 ++ [1])]) (Cs := [Sep.blk g11 #[.int .i64 1, .int .u64 (n : Int), .string ⟨#[]⟩, .float .f64 0] 72]) ht; refine (number_calls S3 _ A9 c9 (b2.length + 1) (b2 ++ [1]) n h3 (by have := HL2.out; omega) HN.out).mono ?_; rintro e w25 ⟨A7, c7, m7, hmm, rfl, ho⟩; have HMm7 := Aside0.mk hmm; replace HH : Aside0 (OwnS (fun _ => False) [Sep.row (Kd.int .u8) 5 (.slice A7 m7 c7) (b2 ++ [1] ++ numB n), Sep.blk g11 #[.int .i64 1, .int .u64 (n : Int), .string ⟨#[]⟩, .float .f64 0] 72] w w25) := ⟨hput _ _ ho⟩; clear ht h3 hput ho hmm)
        | fail
        | fail)
        go_roundw
        case rel => exact ⟨i + 1, m7, A7, c7, b2 ++ [1] ++ numB n, rfl, by go_num, by omega, ⟨by rw [HB2.out, encP_succ hlt, HXE.out]; simp only [encF, List.append_assoc]; rfl⟩, ⟨HMm7.out.symm⟩, ⟨OwnS.picks (by first | exact HH.out | exact OwnS.drewN HH.out _) [0] (by decide)⟩⟩
        case measure => simp [intOf]; omega
      | txt t =>
        have htx : t.size ≤ 2000 := hxo
        have HN : Aside0 (t.size < 65536) := ⟨by omega⟩
        have hwt : IntKind.u64.wrap (t.size : Int) = (t.size : Int) := by rw [IntKind.wrap_u64]; omega
        clear hx hxo
        go_upto_region 12 with (first
        | ((with_reducible refine gate_ (.load 72 (.tmp 15)) rfl ?_); refine ev_loadR (b := ga) (p0 := oa + i * 4) (n := 4) (vs := [.int .i64 2, .int .u64 0, .string t, .float .f64 0]) (HPR.out _ ?_) rfl rfl (by rfl) Try.underlying72 rfl rfl (by kernel_rfl) ?_; (focus first | with_reducible exact HH.out | ((with_reducible repeat first | refine OwnS.alloc ?_ _ | refine OwnS.drewN ?_ _ | refine OwnS.drew ?_); with_reducible exact HH.out)))
        | ((with_reducible refine gate_dst (N := 6) rfl ?_); refine evS_box (oh HH) rfl (cs := #[.int .i64 0, .int .u64 0, .string ⟨#[]⟩, .float .f64 0]) (T := 72) ?_ ?_; (focus first | (go_simp; done) | (go_simp; rfl)); intro g11 w21 he hh; clear he; replace HH : Aside0 (OwnS (fun _ => False) [Sep.row (Kd.int .u8) 5 (.slice A2 m2 c2) b2, Sep.blk g11 #[.int .i64 0, .int .u64 0, .string ⟨#[]⟩, .float .f64 0] 72] w w21) := ⟨hh⟩; clear hh)
        | ((with_reducible refine gate_ (.store 72 (.tmp 6) (.tmp 16)) rfl ?_); refine evS_store (oh HH) 1 rfl rfl rfl rfl (by rfl) (.agg #[.int .i64 2, .int .u64 0, .string t, .float .f64 0]) (by rfl) [.int .i64 2, .int .u64 0, .string t, .float .f64 0] (by rfl) (by kernel_rfl) (by simp) (by simp [Value.oneCell']) ?_; intro w22 hh; replace HH : Aside0 (OwnS (fun _ => False) [Sep.row (Kd.int .u8) 5 (.slice A2 m2 c2) b2, Sep.blk g11 #[.int .i64 2, .int .u64 0, .string t, .float .f64 0] 72] w w22) := ⟨hh⟩; clear hh)
        | ((with_reducible refine gate_ (.load 72 (.tmp 6)) rfl ?_); refine ev_load (OwnS.blk (oh HH) 1 rfl) 0 4 [.int .i64 2, .int .u64 0, .string t, .float .f64 0] rfl rfl rfl (by rfl) Try.underlying72 rfl (by kernel_rfl) ?_)
        | (go_at_call 46; refine ownS_call (oh HH) ?_; intro ht; refine (mayTxt_calls _ t htx).mono ?_; rintro e w23 ⟨rfl, hb⟩; replace HH : Aside0 (OwnS (fun _ => False) [Sep.row (Kd.int .u8) 5 (.slice A2 m2 c2) b2, Sep.blk g11 #[.int .i64 2, .int .u64 0, .string t, .float .f64 0] 72] w w23) := ⟨OwnS.step ht hb⟩; clear hb; clear ht)
        | ((with_reducible refine gate_ (.load 3 (.tmp 21)) rfl ?_); refine ev_cell (blk_cell (OwnS.blk (oh HH) 1 rfl) 0) rfl rfl (by rfl) Try.underlying3 rfl ?_)
        | (at_builtin; refine evS_appendR (Kd.int .u8) (oh HH) 0 rfl (.tmp 20) (.tmp 24) 23 5 (.int .u8 0) 1 rfl Try.underlying23 infoB rfl (by first | decide | exact Nat.succ_pos _) (by decide) (.slice A2 m2 c2) b2 2 [.int .u8 2] rfl rfl ?_ ?_ ?_ ?_; (focus first | rfl | (simp [Act.eval]; done)); (focus exact fun _ => rfl); (focus have := HL2.out; omega); intro A9 c9 w24 hh; replace HH : Aside0 (OwnS (fun _ => False) [Sep.row (Kd.int .u8) 5 (.slice A9 (b2.length + 1) c9) (b2 ++ [2]), Sep.blk g11 #[.int .i64 2, .int .u64 0, .string t, .float .f64 0] 72] w w24) := ⟨hh⟩; clear hh)
        | ((with_reducible refine gate_ (.load 3 (.tmp 26)) rfl ?_); refine ev_cell (blk_cell (OwnS.blk (oh HH) 1 rfl) 0) rfl rfl (by rfl) Try.underlying3 rfl ?_)
        | fail
        | fail)
        have HKV : Aside0 (∀ w' : World, OwnS (fun _ => False) [Sep.row (Kd.int .u8) 5 (.slice A9 (b2.length + 1) c9) (b2 ++ [2]), Sep.blk g11 #[.int .i64 2, .int .u64 0, .string t, .float .f64 0] 72] w w' → (w'.cell? ⟨g11, 2, none⟩ = some (.string t))) := ⟨fun W h => blk_cell (OwnS.blk h 1 rfl) 2⟩
        refine wp_region_held_drew (S := fun w' => w'.cell? ⟨g11, 2, none⟩ = some (.string t)) (by kernel_rfl) ?_ (fun hHeld => ?_)
        focus (try dsimp only); (exact HKV.out _ (oh HH))
        (try dsimp only at hHeld)
        refine otk (i := 0) ?_; (try simp only [Act.put, jjA, jjZ, jjS])
        refine otk (i := 1) ?_; (try simp only [Act.put, jjA, jjZ, jjS])
        refine otk (i := 2) ?_; (try simp only [Act.put, jjA, jjZ, jjS])
        refine otk (i := 3) ?_; (try simp only [Act.put, jjA, jjZ, jjS])
        refine otk (i := 4) ?_; (try simp only [Act.put, jjA, jjZ, jjS])
        refine otk (i := 6) ?_; (try simp only [Act.put, jjA, jjZ, jjS])
        refine otk (i := 7) ?_; (try simp only [Act.put, jjA, jjZ, jjS])
        refine wpAnyH_ready (rs := [5]) (by kernel_rfl) (by simp) ?_
        refine AllReadyH.cons (by simp only [List.getElem?_toArray, List.getElem?_cons_succ, List.getElem?_cons_zero]; rfl) (fun K hK => ?_) AllReadyH.nil; go_simp; go_at_call 47; refine ownS_call (oh HH) ?_; intro ht; obtain ⟨S3, h3, hput⟩ := ownS_part (As := [Sep.row (Kd.int .u8) 5 (.slice A9 (b2.length + 1) c9) (b2 ++ [2])]) (Cs := [Sep.blk g11 #[.int .i64 2, .int .u64 0, .string t, .float .f64 0] 72]) ht; refine (number_calls S3 _ A9 c9 (b2.length + 1) (b2 ++ [2]) t.size h3 (by have := HL2.out; omega) HN.out).mono ?_; rintro e w25 ⟨A7, c7, m7, hmm, rfl, ho⟩; have HMm7 := Aside0.mk hmm; replace HH : Aside0 (OwnS (fun _ => False) [Sep.row (Kd.int .u8) 5 (.slice A7 m7 c7) (b2 ++ [2] ++ numB t.size), Sep.blk g11 #[.int .i64 2, .int .u64 0, .string t, .float .f64 0] 72] w w25) := ⟨hput _ _ ho⟩; clear ht h3 hput ho hmm; clear HKV; have HKV : Aside0 (∀ w' : World, OwnS (fun _ => False) [Sep.row (Kd.int .u8) 5 (.slice A7 m7 c7) (b2 ++ [2] ++ numB t.size), Sep.blk g11 #[.int .i64 2, .int .u64 0, .string t, .float .f64 0] 72] w w' → (w'.cell? ⟨g11, 2, none⟩ = some (.string t))) := ⟨fun W h => blk_cell (OwnS.blk h 1 rfl) 2⟩; refine hK.out _ _ ?_ (fun hHeld2 => ?_); (focus (try dsimp only); (exact HKV.out _ (oh HH))); clear hK K hHeld; rename _ => hHeld; (try dsimp only at hHeld); (try simp only [Act.put, jjA, jjZ, jjS])
        refine wpAnyH_ready (rs := [8]) (by kernel_rfl) (by simp) ?_
        refine AllReadyH.cons (by simp only [List.getElem?_toArray, List.getElem?_cons_succ, List.getElem?_cons_zero]; rfl) (fun K hK => ?_) AllReadyH.nil; refine evS_appendStr_step (oh HH) 0 (by rfl) (.tmp 41) (.tmp 43) 23 9 5 (by rfl) Try.underlying23 Try.underlying9 infoB (.slice A7 m7 c7) (b2 ++ [2] ++ numB t.size) t rfl (by rfl) (by rfl) ?_ ?_; (focus have := HL2.out; have := numB_len t.size; simp only [List.length_append, List.length_singleton]; omega); intro A6 c6 m6 w26 hmm hh; have HMm6 := Aside0.mk hmm; replace HH : Aside0 (OwnS (fun _ => False) [Sep.row (Kd.int .u8) 5 (.slice A6 m6 c6) (b2 ++ [2] ++ numB t.size ++ bytesOf t), Sep.blk g11 #[.int .i64 2, .int .u64 0, .string t, .float .f64 0] 72] w w26) := ⟨hh⟩; clear hh hmm; clear HKV; have HKV : Aside0 (∀ w' : World, OwnS (fun _ => False) [Sep.row (Kd.int .u8) 5 (.slice A6 m6 c6) (b2 ++ [2] ++ numB t.size ++ bytesOf t), Sep.blk g11 #[.int .i64 2, .int .u64 0, .string t, .float .f64 0] 72] w w' → (w'.cell? ⟨g11, 2, none⟩ = some (.string t))) := ⟨fun W h => blk_cell (OwnS.blk h 1 rfl) 2⟩; refine hK.out _ _ ?_ (fun hHeld2 => ?_); (focus (try dsimp only); (exact HKV.out _ (oh HH))); clear hK K hHeld; rename _ => hHeld; (try dsimp only at hHeld); (try simp only [Act.put, jjA, jjZ, jjS])
        refine otk (i := 9) ?_; (try simp only [Act.put, jjA, jjZ, jjS])
        refine wpAnyH_done (by kernel_rfl) ?_ _
        go_wp2_with fail
        go_roundw
        case rel => exact ⟨i + 1, m6, A6, c6, b2 ++ [2] ++ numB t.size ++ bytesOf t, rfl, by go_num, by omega, ⟨by rw [HB2.out, encP_succ hlt, HXE.out]; simp only [encF, List.append_assoc]; rfl⟩, ⟨HMm6.out.symm⟩, ⟨OwnS.picks (by first | exact HH.out | exact OwnS.drewN HH.out _) [0] (by decide)⟩⟩
        case measure => simp [intOf]; omega
    · have q1 : ¬ ((i : Int) < (l.length : Int)) := by omega
      have hil : i = l.length := by omega
      have HE : Aside0 (b2 = encB l) := ⟨by rw [HB2.out]; exact encP_all hil⟩
      have hm8 : m2 ≤ 8000 := hm2
      go_wp2_with fail
      refine bodyPost_ret (v := .tuple #[.slice A2 m2 c2, .int .i64 0]) (results_list (rs := [.tmp 2, .tmp 3]) (vs := [_, _]) rfl (by simp) (.tmp (.tmp .nil))) rfl ?_
      have h9 := OwnS.own HH.out
      have h8 := HL2.out
      rw [HE.out] at h9 h8
      subst h8
      exact ⟨A2, c2, rfl, h9⟩
end Go.Proofs.Ytbaknecnkipooaa.Tld
