/- past.Decode. -/
import Derived.Test.YtbaknecnkipooaaM45
import Derived.Test.YtbaknecnkipooaaM35
import Derived.Laws.IdiomStrings
namespace Go.Proofs.Ytbaknecnkipooaa.Tld
open Go Go.RowKit Go.Proofs.YtbaknecnkipooaaW.PrintWords Go.Proofs.Ytbaknecnkipooaa.Sep Go.Proofs.Ytbaknecnkipooaa.Obj
set_option linter.unusedVariables false
set_option linter.unusedSimpArgs false
open Go.Proofs.Ytbaknecnkipooaa.Hld
def bytesA (g : Nat) (xs : List Int) : Asr where
  P := fun w S => S g ∧ g < w.heap.size ∧ ∀ j x, xs[j]? = some x → w.cell? ⟨g, j, none⟩ = some (.int .u8 x)
  mono := fun h a => ⟨h _ a.1, a.2⟩
  move := fun {w w' S} h a => by
    have e := h g a.1 a.2.1
    refine ⟨a.1, ?_, fun j x hj => (World.cell?_of_block (w := w) (a := ⟨g, j, none⟩) e).trans (a.2.2 j x hj)⟩
    have h2 : w.heap[g]? ≠ none := by simpa using a.2.1
    rw [← e] at h2
    simpa using h2
theorem bytes_RB {S : Nat → Prop} {As : List Asr} {w0 w : World} {g : Nat} {xs : List Int} (h : OwnS S As w0 w) (i : Nat) (hi : As[i]? = some (bytesA g xs)) : RB8 (fun _ => False) w g 0 xs := fun W hW j x hj => by
  have h1 := h.get i hi
  rw [Nat.zero_add]
  exact (Below.cell (frm_below hW) h1.2.1).trans (h1.2.2 j x hj)
section
variable {P : Program} {ops : Array Oper} {rest : List Oper} {o : Oper} {a : Act} {Q : Exit → Act → World → Prop} {S : Nat → Prop} {As : List Asr} {w0 W : World}
theorem add_bytes (HH : OwnS S As w0 W) {xs : List Int} (cs : Array Value) (T : TypeId) (fz : Nat × Nat) (hc : ∀ (j : Nat) (x : Int), xs[j]? = some x → cs[j]? = some (.int .u8 x)) : OwnS S (As ++ [bytesA W.heap.size xs]) w0 (W.drew.alloc (.cells cs T fz)) := by
  have hsz : W.heap.size < (W.drew.alloc (.cells cs T fz)).heap.size := by
    show _ < (W.heap.push _).size
    rw [Array.size_push]
    exact Nat.lt_succ_self _
  refine HH.add (below_alloc (below_drew (Below.refl _ _)) _) ⟨⟨Nat.le_refl _, hsz⟩, hsz, fun j x hj => ?_⟩
  have hg : (W.drew.alloc (.cells cs T fz)).heap[W.heap.size]? = some (.cells cs T fz) := by
    show (W.heap.push _)[W.heap.size]? = _
    rw [Array.getElem?_push_size]
  unfold World.cell?
  rw [hg]
  exact hc j x hj
theorem ev_bytes (HH : OwnS S As w0 W) (hgd : o.guard = none) {src dst e : TypeId} {x : Operand} {s : ByteArray} (ho : o.op = .convert src dst x) (hx : a.eval x = .string s) (hs : P.underlying src = some .string) (hd : P.underlying dst = some (.slice e)) (he : P.underlying e = some (.int .u8)) (h8 : s.size ≤ 9223372036854775807)
    (h : ∀ g c w1, s.size ≤ c → c ≤ capMx → OwnS S (As ++ [bytesA g (bytesOf s)]) w0 w1 → wpList P ops Q rest (a.put o.dst (.slice (some ⟨g, 0, none⟩) s.size c)) w1) : wpList P ops Q (o :: rest) a W := by
  have hr := Go.run_bytes_of_string (P := P) W src dst e s hs hd he
  have hcs : ∀ (j : Nat) (x : Int), (bytesOf s)[j]? = some x → (Go.bytesRow s (grownCap W s.size 0 e))[j]? = some (.int .u8 x) := fun j x hj => by
    unfold bytesOf at hj
    rw [List.getElem?_map, Option.map_eq_some_iff] at hj
    obtain ⟨b, hb, rfl⟩ := hj
    have hj2 : j < s.data.size := by
      have := (List.getElem?_eq_some_iff.1 hb).1
      simpa using this
    unfold Go.bytesRow
    rw [Array.getElem?_append_left (by simpa using hj2), Array.getElem?_map]
    rw [Array.getElem?_toList] at hb
    rw [hb]
    rfl
  have h1 := grownCap_ge W s.size 0 e
  have h2 := grownCap_le_maxLen W s.size 0 e h8
  obtain ⟨cp, hcp⟩ : ∃ cp, grownCap W s.size 0 e = cp := ⟨_, rfl⟩
  rw [hcp] at hr hcs h1 h2
  refine Kd.event_run hgd (v := .slice (some ⟨W.heap.size, 0, none⟩) s.size cp) (w1 := W.drew.alloc (.cells (Go.bytesRow s cp) e ((Go.bytesRow s cp).size, (Go.bytesRow s cp).size + 1))) ?_ (h W.heap.size _ _ h1 h2 (add_bytes HH _ _ _ hcs))
  simp only [execOp, ho, hx, Sem.run_bind, Sem.run_pure, Result.andThen_ok, hr]
end
theorem build_b (k : Int) (t : ByteArray) (w : World) : (Instr.build 46 #[(0, .int .i64 k), (2, .string t)]).run Try.prog w = .ok (.agg (bodC k (List.replicate 16 (0 : Int)) t)) w := by kernel_rfl
theorem numB_ok (n : Nat) (h : n < 65536) : ∀ x ∈ numB n, 0 ≤ x ∧ x ≤ 255 := by
  intro x hx
  rcases List.mem_cons.1 hx with rfl | hx
  · have := sizeI_two (n : Int)
    unfold sizeB
    omega
  · exact lowB_ok _ _ x hx
theorem encF_ok (y : Fl) (h : FlOk y) : ∀ x ∈ encF y, 0 ≤ x ∧ x ≤ 255 := by
  intro x hx
  cases y with
  | num n =>
    rcases List.mem_cons.1 hx with rfl | hx
    · omega
    · exact numB_ok n h x hx
  | txt t =>
    have h2 : t.size ≤ 2000 := h
    rcases List.mem_cons.1 hx with rfl | hx
    · omega
    · rcases List.mem_append.1 hx with hx | hx
      · exact numB_ok _ (by omega) x hx
      · obtain ⟨b, _, rfl⟩ := List.mem_map.1 hx
        have := b.toNat_lt
        omega
theorem encB_ok (l : List Fl) (hl : l.length ≤ 200) (h : ∀ x ∈ l, FlOk x) : ∀ x ∈ encB l, 0 ≤ x ∧ x ≤ 255 := by
  intro x hx
  rcases List.mem_cons.1 hx with rfl | hx
  · omega
  · obtain ⟨y, hy, hx⟩ := List.mem_flatMap.1 hx
    exact encF_ok y (h y hy) x hx
theorem bytesOf_str (xs : List Int) (h : ∀ x ∈ xs, 0 ≤ x ∧ x ≤ 255) : bytesOf (strOfNums xs) = xs := by
  unfold bytesOf
  rw [strOfNums_data, List.map_map]
  conv => rhs; rw [← List.map_id xs]
  refine List.map_congr_left fun x hx => ?_
  have := h x hx
  obtain ⟨n, rfl⟩ := Int.eq_ofNat_of_zero_le this.1
  simp
  omega
theorem flds_ok {kn : Nat} {v : List Int} {t : ByteArray} (hok : ∀ n ∈ v, 0 ≤ n ∧ n ≤ 1000) (hk : kn ≤ 3) (ht : t.size ≤ 400) : ∀ x ∈ fldsOf kn v t, FlOk x := fun x hx => by
  unfold fldsOf at hx
  rcases List.mem_cons.1 hx with rfl | hx
  · show kn < 65536; omega
  · rcases List.mem_append.1 hx with hx | hx
    · obtain ⟨n, hn, rfl⟩ := List.mem_map.1 hx
      have := hok n hn
      show n.toNat < 65536
      omega
    · rw [List.mem_singleton.1 hx]
      show t.size ≤ 2000
      omega
theorem decode18 (w : World) (g c : Nat) (s : ByteArray) (kn : Nat) (v : List Int) (t : ByteArray) (hv : v.length = 16) (hok : ∀ n ∈ v, 0 ≤ n ∧ n ≤ 1000) (ht : t.size ≤ 400) (hk : kn ≤ 3) (hs : s = encS kn v t) (hR : RB8 (fun _ => False) w g 0 (bytesOf s)) (hc : s.size ≤ c) (hc2 : c ≤ capMx) :
    Calls Try.prog 23 #[.slice (some ⟨g, 0, none⟩) s.size c] w (fun e w' => ∃ gl ol cl, e = .returned (.tuple #[.slice (some ⟨gl, ol, none⟩) 18 cl, .int .i64 0]) ∧ Own [Sep.row kFl 72 (.slice (some ⟨gl, ol, none⟩) 18 cl) (fldsOf kn v t)] w w') := by
  have hb : bytesOf s = encB (fldsOf kn v t) := by rw [hs]; exact bytesOf_str _ (encB_ok _ (by rw [flds_len hv]; omega) (flds_ok hok hk ht))
  have hsz : (encB (fldsOf kn v t)).length = s.size := by rw [← hb, bytesOf_length]
  rw [hb] at hR
  refine (decode_calls w g 0 s.size c (fldsOf kn v t) hR (flds_ok hok hk ht) (by rw [flds_len hv]; omega) hsz (by rw [← hsz]; exact enc_le hv ht) hc hc2).mono ?_
  rintro e w' ⟨A', c', rfl, ho⟩
  obtain ⟨gl, ol, rfl, _⟩ := at_Fl (OwnS.C (OwnS.of_own ho) 0 rfl) 0 (by rw [flds_len hv]; omega)
  rw [flds_len hv] at ho ⊢
  exact ⟨gl, ol, c', rfl, ho⟩
theorem kinds18 (w : World) : Calls Try.prog 25 #[] w (fun e w' => ∃ gk ok ck, e = .returned (.slice (some ⟨gk, ok, none⟩) 18 ck) ∧ Own [Sep.row (Kd.int .i64) 3 (.slice (some ⟨gk, ok, none⟩) 18 ck) kindsL] w w') := by
  refine (kinds_calls w).mono ?_
  rintro e w' ⟨A, c, rfl, ho⟩
  obtain ⟨gk, ok, rfl, _⟩ := at_Int (OwnS.C (OwnS.of_own ho) 0 rfl) 0 (by decide)
  exact ⟨gk, ok, c, rfl, ho⟩
theorem kinds_flds {kn : Nat} {v : List Int} {t : ByteArray} (hv : v.length = 16) : (fldsOf kn v t).map kdOf = kindsL := by
  have e : ((v.map (fun n => Fl.num n.toNat)).map kdOf) = List.replicate 16 1 := by
    rw [List.map_map, ← hv]
    exact List.map_const
  unfold fldsOf kindsL
  rw [List.map_cons, List.map_append, e]
  rfl
theorem is18 (w : World) (ga oa gk ok c d : Nat) (kn : Nat) (v : List Int) (t : ByteArray) (hv : v.length = 16) (hr : kFl.C w (some ⟨ga, oa, none⟩) (fldsOf kn v t).length (fldsOf kn v t)) (hk : (Kd.int .i64).C w (some ⟨gk, ok, none⟩) kindsL.length kindsL) :
    Calls Try.prog 24 #[.slice (some ⟨ga, oa, none⟩) 18 c, .slice (some ⟨gk, ok, none⟩) 18 d] w (fun e w' => e = .returned (.bool true) ∧ Below w.heap.size w w') := by
  have h := is_calls w ga oa gk ok c d (fldsOf kn v t) (by rw [flds_len hv]; omega) hr (by rw [kinds_flds hv, flds_len hv]; exact hk)
  rw [flds_len hv] at h
  exact h
theorem fl_kn {w : World} {g o n kn : Nat} {v : List Int} {t : ByteArray} (h : kFl.C w (some ⟨g, o, none⟩) n (fldsOf kn v t)) : w.cell? ⟨g, o + 1, none⟩ = some (.int .u64 (kn : Int)) := by
  obtain ⟨g', o', e, hr⟩ := at_Fl h 0 (by simp [fldsOf])
  cases e
  have := hr 1 (.int .u64 (kn : Int)) rfl
  simpa using this
theorem fl_tx {w : World} {g o n kn : Nat} {v : List Int} {t : ByteArray} (hv : v.length = 16) (h : kFl.C w (some ⟨g, o, none⟩) n (fldsOf kn v t)) : w.cell? ⟨g, o + 70, none⟩ = some (.string t) := by
  obtain ⟨g', o', e, hr⟩ := at_Fl h 17 (by rw [flds_len hv]; omega)
  cases e
  have e : (fldsOf kn v t)[17]'(by rw [flds_len hv]; omega) = Fl.txt t := by
    unfold fldsOf
    rw [List.getElem_cons_succ, List.getElem_append_right (by simp [hv])]
    simp
  rw [e] at hr
  exact hr 2 (.string t) rfl
theorem fl_vec {w : World} {g o n kn : Nat} {v : List Int} {t : ByteArray} (hv : v.length = 16) (h : kFl.C w (some ⟨g, o, none⟩) n (fldsOf kn v t)) (i : Nat) (hi : i < 16) {m : Nat} (hm : v.getD i 0 = (m : Int)) : w.cell? ⟨g, o + (i + 1) * 4 + 1, none⟩ = some (.int .u64 (m : Int)) := by
  obtain ⟨g', o', e, hr⟩ := at_Fl h (i + 1) (by rw [flds_len hv]; omega)
  cases e
  have hiv : i < v.length := by omega
  rw [List.getD_eq_getElem?_getD, List.getElem?_eq_getElem hiv] at hm
  simp only [Option.getD_some] at hm
  have e : (fldsOf kn v t)[i + 1]'(by rw [flds_len hv]; omega) = Fl.num m := by
    unfold fldsOf
    rw [List.getElem_cons_succ, List.getElem_append_left (by simpa using hiv), List.getElem_map, hm]
    simp
  rw [e] at hr
  exact hr 1 (.int .u64 (m : Int)) rfl
def preV (v : List Int) (i : Nat) : List Int := v.take i ++ List.replicate (16 - i) 0
theorem preV_len {v : List Int} {i : Nat} (hv : v.length = 16) (hi : i ≤ 16) : (preV v i).length = 16 := by
  unfold preV
  rw [List.length_append, List.length_take, List.length_replicate]
  omega
theorem preV_set {v : List Int} {i : Nat} (hv : v.length = 16) (hi : i < 16) : (preV v i).set i (v.getD i 0) = preV v (i + 1) := by
  unfold preV
  have hiv : i < v.length := by omega
  rw [List.set_append_right _ _ (by rw [List.length_take]; omega), List.length_take, show i - min i v.length = 0 by omega, show 16 - i = (16 - (i + 1)) + 1 by omega, List.replicate_succ, List.set_cons_zero, ← List.take_append_getElem hiv, List.append_assoc, List.getD_eq_getElem?_getD, List.getElem?_eq_getElem hiv]
  rfl
theorem bodC_set (k : Int) (v : List Int) (t : ByteArray) (i : Nat) (y : Int) (h : i < v.length) : (bodC k v t).setIfInBounds (i + 1) (.int .u16 y) = bodC k (v.set i y) t := by
  apply Array.toList_inj.1
  simp [bodC, nums]
  rw [List.set_append_left _ _ (by simpa using h)]
theorem setBod {S : Nat → Prop} {As : List Asr} {w0 w : World} (h : OwnS S As w0 w) (i : Nat) {g : Nat} {k : Int} {v : List Int} {t : ByteArray} {T : TypeId} (hi : As[i]? = some (Sep.blk g (bodC k v t) T)) (j : Nat) (hj : j < v.length) (y : Int) : OwnS S (As.set i (Sep.blk g (bodC k (v.set j y) t) T)) w0 (w.setCell ⟨g, 1 + j, none⟩ (.int .u16 y)) := by
  have := OwnS.setC h i hi (j + 1) (.int .u16 y)
  rw [Nat.add_comm 1 j]
  rw [bodC_set k v t j y hj] at this
  exact this
set_option maxHeartbeats 1000000 in
set_option maxRecDepth 100000 in
theorem pdec_calls (w : World) (s : ByteArray) (kn : Nat) (v : List Int) (t : ByteArray) (hs : s = encS kn v t) (hv : v.length = 16) (hok : ∀ n ∈ v, 0 ≤ n ∧ n ≤ 1000) (hk : kn ≤ 3) (ht4 : t.size ≤ 400) (hm : mayB (kn : Int) v t = true) :
    Calls Try.prog 8 #[.string s] w (fun e w' => e = .returned (.tuple #[.agg (bodC (kn : Int) v t), .int .i64 0]) ∧ Below w.heap.size w w') := by
  have HM := Aside0.mk hm
  have HBS := Aside0.mk hs
  have htx : t.size ≤ 9223372036854775807 := by omega
  have HS4 : Aside0 (s.size ≤ 8000) := ⟨by rw [hs, ← bytesOf_length]; unfold encS; rw [bytesOf_str _ (encB_ok _ (by rw [flds_len hv]; omega) (flds_ok hok hk ht4))]; exact enc_le hv ht4⟩
  have HH : Aside0 (OwnS (fun _ => False) [] w w) := ⟨OwnS.of_own (Own.start w)⟩
  have hwk : IntKind.i64.wrap (kn : Int) = (kn : Int) := by rw [IntKind.wrap_i64]; omega
  have hk4 : (kn : Int) < 4 := by omega
  have hk5 : ¬ (4 : Int) < (kn : Int) := by omega
  have HOK := Aside0.mk hok
  have HV := Aside0.mk hv
  have HT4 := Aside0.mk ht4
  have HK := Aside0.mk hk
  have HTX := Aside0.mk htx
  clear hm hs hok hv ht4 hk htx
  go_enter Try.func8, Try.ntmps8
  go_upto_region 4 with (first
  | ((with_reducible refine gate_dst (N := 2) rfl ?_); refine evS_box (oh HH) rfl (cs := bodC 0 (List.replicate 16 (0 : Int)) ⟨#[]⟩) (T := 46) ?_ ?_; (focus first | (go_simp; done) | (go_simp; rfl)); intro g1 w1 he hh; clear he; replace HH : Aside0 (OwnS (fun _ => False) [Sep.blk g1 (bodC 0 (List.replicate 16 (0 : Int)) ⟨#[]⟩) 46] w w1) := ⟨hh⟩; clear hh)
  | ((with_reducible refine gate_dst (N := 10) rfl ?_); refine ev_bytes (oh HH) rfl rfl (by rfl) Try.underlying9 Try.underlying23 Try.underlying5 (by have := HS4.out; omega) ?_; intro gb cb w2 h1 h2 hh; have HC1 := Aside0.mk h1; have HC2 := Aside0.mk h2; replace HH : Aside0 (OwnS (fun _ => False) [Sep.blk g1 (bodC 0 (List.replicate 16 (0 : Int)) ⟨#[]⟩) 46, bytesA gb (bytesOf s)] w w2) := ⟨hh⟩; clear hh h1 h2)
  | (go_at_call 23; refine ownS_call (oh HH) ?_; intro ht; refine (decode18 _ gb cb s kn v t HV.out HOK.out HT4.out HK.out HBS.out (bytes_RB ht 1 rfl) HC1.out HC2.out).mono ?_; rintro e w3 ⟨gl, ol, cl, rfl, ho⟩; replace HH : Aside0 (OwnS (fun _ => False) [Sep.blk g1 (bodC 0 (List.replicate 16 (0 : Int)) ⟨#[]⟩) 46, bytesA gb (bytesOf s), Sep.row kFl 72 (.slice (some ⟨gl, ol, none⟩) 18 cl) (fldsOf kn v t)] w w3) := ⟨OwnS.joinL (Bs := [Sep.row kFl 72 (.slice (some ⟨gl, ol, none⟩) 18 cl) (fldsOf kn v t)]) ht ho⟩; clear ho ht)
  | (go_at_call 25; refine ownS_call (oh HH) ?_; intro ht; refine (kinds18 _).mono ?_; rintro e w4 ⟨gk, ok, ck, rfl, ho⟩; replace HH : Aside0 (OwnS (fun _ => False) [Sep.blk g1 (bodC 0 (List.replicate 16 (0 : Int)) ⟨#[]⟩) 46, bytesA gb (bytesOf s), Sep.row kFl 72 (.slice (some ⟨gl, ol, none⟩) 18 cl) (fldsOf kn v t), Sep.row (Kd.int .i64) 3 (.slice (some ⟨gk, ok, none⟩) 18 ck) kindsL] w w4) := ⟨OwnS.joinL (Bs := [Sep.row (Kd.int .i64) 3 (.slice (some ⟨gk, ok, none⟩) 18 ck) kindsL]) ht ho⟩; clear ho ht)
  | (go_at_call 24; refine ownS_call (oh HH) ?_; intro ht; refine (is18 _ gl ol gk ok cl ck kn v t HV.out (OwnS.C ht 2 rfl) (OwnS.C ht 3 rfl)).mono ?_; rintro e w5 ⟨rfl, hb⟩; replace HH : Aside0 (OwnS (fun _ => False) [Sep.blk g1 (bodC 0 (List.replicate 16 (0 : Int)) ⟨#[]⟩) 46, bytesA gb (bytesOf s), Sep.row kFl 72 (.slice (some ⟨gl, ol, none⟩) 18 cl) (fldsOf kn v t), Sep.row (Kd.int .i64) 3 (.slice (some ⟨gk, ok, none⟩) 18 ck) kindsL] w w5) := ⟨OwnS.step ht hb⟩; clear hb ht)
  | fail
  | fail)
  have HKV : Aside0 (∀ w' : World, OwnS (fun _ => False) [Sep.blk g1 (bodC 0 (List.replicate 16 (0 : Int)) ⟨#[]⟩) 46, bytesA gb (bytesOf s), Sep.row kFl 72 (.slice (some ⟨gl, ol, none⟩) 18 cl) (fldsOf kn v t), Sep.row (Kd.int .i64) 3 (.slice (some ⟨gk, ok, none⟩) 18 ck) kindsL] w w' → (w'.cell? ⟨gl, ol + 1, none⟩ = some (.int .u64 (kn : Int)) ∧ w'.cell? ⟨gl, ol + 70, none⟩ = some (.string t))) := ⟨fun W h => ⟨fl_kn (OwnS.C h 2 rfl), fl_tx HV.out (OwnS.C h 2 rfl)⟩⟩
  refine wp_region_held_drew (S := fun w' => w'.cell? ⟨gl, ol + 1, none⟩ = some (.int .u64 (kn : Int)) ∧ w'.cell? ⟨gl, ol + 70, none⟩ = some (.string t)) (by kernel_rfl) ?_ (fun hHeld => ?_)
  focus (try dsimp only); (exact HKV.out _ (oh HH))
  (try dsimp only at hHeld)
  refine otk (i := 0) ?_; (try simp only [Act.put, jjA, jjZ, jjS])
  refine otk (i := 1) ?_; (try simp only [Act.put, jjA, jjZ, jjS])
  refine otk (i := 2) ?_; (try simp only [Act.put, jjA, jjZ, jjS])
  refine otk (i := 3) (v := .int .u64 (kn : Int)) ?_; (try simp only [Act.put, jjA, jjZ, jjS])
  refine tk (i := 4) (v := .int .u64 (kn : Int)) (hy := (Or.inl ⟨by rfl, fun w hSw => by (try dsimp only at hSw); go_simp; omega⟩)) (h := ?_); (try simp only [Act.put, jjA, jjZ, jjS])
  refine otk (i := 5) (v := .int .i64 (kn : Int)) ?_; (try simp only [Act.put, jjA, jjZ, jjS])
  refine otk (i := 6) ?_; (try simp only [Act.put, jjA, jjZ, jjS])
  refine otk (i := 7) ?_; (try simp only [Act.put, jjA, jjZ, jjS])
  refine otk (i := 8) ?_; (try simp only [Act.put, jjA, jjZ, jjS])
  refine otk (i := 9) (v := .string t) ?_; (try simp only [Act.put, jjA, jjZ, jjS])
  refine tk (i := 10) (v := ?_) (hy := (Or.inl ⟨by rfl, fun w _ => build_take rfl (by simp only [List.map_toArray, List.map_cons, List.map_nil]; exact build_b _ _ _)⟩)) (h := ?_); (try simp only [Act.put, jjA, jjZ, jjS])
  refine wpAnyH_ready (rs := [11]) (by kernel_rfl) (by simp) ?_
  refine AllReadyH.cons (by simp only [List.getElem?_toArray, List.getElem?_cons_succ, List.getElem?_cons_zero]; rfl) (fun K hK => ?_) AllReadyH.nil; refine evS_box_step (oh HH) (by rfl) (cs := bodC 0 (List.replicate 16 (0 : Int)) ⟨#[]⟩) (T := 46) ?_ ?_; (focus first | (go_simp; done) | (go_simp; rfl)); intro g31 w6 he hh; clear he; replace HH : Aside0 (OwnS (fun _ => False) [Sep.blk g1 (bodC 0 (List.replicate 16 (0 : Int)) ⟨#[]⟩) 46, bytesA gb (bytesOf s), Sep.row kFl 72 (.slice (some ⟨gl, ol, none⟩) 18 cl) (fldsOf kn v t), Sep.row (Kd.int .i64) 3 (.slice (some ⟨gk, ok, none⟩) 18 ck) kindsL, Sep.blk g31 (bodC 0 (List.replicate 16 (0 : Int)) ⟨#[]⟩) 46] w w6) := ⟨hh⟩; clear hh; clear HKV; have HKV : Aside0 (∀ w' : World, OwnS (fun _ => False) [Sep.blk g1 (bodC 0 (List.replicate 16 (0 : Int)) ⟨#[]⟩) 46, bytesA gb (bytesOf s), Sep.row kFl 72 (.slice (some ⟨gl, ol, none⟩) 18 cl) (fldsOf kn v t), Sep.row (Kd.int .i64) 3 (.slice (some ⟨gk, ok, none⟩) 18 ck) kindsL, Sep.blk g31 (bodC 0 (List.replicate 16 (0 : Int)) ⟨#[]⟩) 46] w w' → (w'.cell? ⟨gl, ol + 1, none⟩ = some (.int .u64 (kn : Int)) ∧ w'.cell? ⟨gl, ol + 70, none⟩ = some (.string t))) := ⟨fun W h => ⟨fl_kn (OwnS.C h 2 rfl), fl_tx HV.out (OwnS.C h 2 rfl)⟩⟩; refine hK.out _ _ ?_ (fun hHeld2 => ?_); (focus (try dsimp only); (exact HKV.out _ (oh HH))); clear hK K hHeld; rename _ => hHeld; (try dsimp only at hHeld); (try simp only [Act.put, jjA, jjZ, jjS])
  refine wpAnyH_ready (rs := [12]) (by kernel_rfl) (by simp) ?_
  refine AllReadyH.cons (by simp only [List.getElem?_toArray, List.getElem?_cons_succ, List.getElem?_cons_zero]; rfl) (fun K hK => ?_) AllReadyH.nil; refine evS_storeA_step (oh HH) 4 (by rfl) rfl rfl rfl (by rfl) (.agg (bodC (kn : Int) (List.replicate 16 (0 : Int)) t)) (by rfl) (bodC (kn : Int) (List.replicate 16 (0 : Int)) t) (by rfl) 18 18 (bodC_size _ _ _ rfl) (bodC_size _ _ _ (by rfl)) (by kernel_rfl) (by decide) (bodC_one _ _ _) (bodC (kn : Int) (List.replicate 16 (0 : Int)) t) (put_all _ _ (by rw [(bodC_size _ _ _ rfl), (bodC_size _ _ _ (by rfl))])) ?_; intro w7 hh; replace HH : Aside0 (OwnS (fun _ => False) [Sep.blk g1 (bodC 0 (List.replicate 16 (0 : Int)) ⟨#[]⟩) 46, bytesA gb (bytesOf s), Sep.row kFl 72 (.slice (some ⟨gl, ol, none⟩) 18 cl) (fldsOf kn v t), Sep.row (Kd.int .i64) 3 (.slice (some ⟨gk, ok, none⟩) 18 ck) kindsL, Sep.blk g31 (bodC (kn : Int) (List.replicate 16 (0 : Int)) t) 46] w w7) := ⟨hh⟩; clear hh; clear HKV; have HKV : Aside0 (∀ w' : World, OwnS (fun _ => False) [Sep.blk g1 (bodC 0 (List.replicate 16 (0 : Int)) ⟨#[]⟩) 46, bytesA gb (bytesOf s), Sep.row kFl 72 (.slice (some ⟨gl, ol, none⟩) 18 cl) (fldsOf kn v t), Sep.row (Kd.int .i64) 3 (.slice (some ⟨gk, ok, none⟩) 18 ck) kindsL, Sep.blk g31 (bodC (kn : Int) (List.replicate 16 (0 : Int)) t) 46] w w' → (w'.cell? ⟨gl, ol + 1, none⟩ = some (.int .u64 (kn : Int)) ∧ w'.cell? ⟨gl, ol + 70, none⟩ = some (.string t))) := ⟨fun W h => ⟨fl_kn (OwnS.C h 2 rfl), fl_tx HV.out (OwnS.C h 2 rfl)⟩⟩; refine hK.out _ _ ?_ (fun hHeld2 => ?_); (focus (try dsimp only); (exact HKV.out _ (oh HH))); clear hK K hHeld; rename _ => hHeld; (try dsimp only at hHeld); (try simp only [Act.put, jjA, jjZ, jjS])
  refine wpAnyH_done (by kernel_rfl) ?_ _
  go_wp2_with fail
  go_loopw [34] (fun vi W => ∃ (i : Nat), vi = .int .i64 (i : Int) ∧ i ≤ 16 ∧ Aside0 (OwnS (fun _ => False) [Sep.blk g1 (bodC 0 (List.replicate 16 (0 : Int)) ⟨#[]⟩) 46, bytesA gb (bytesOf s), Sep.row kFl 72 (.slice (some ⟨gl, ol, none⟩) 18 cl) (fldsOf kn v t), Sep.row (Kd.int .i64) 3 (.slice (some ⟨gk, ok, none⟩) 18 ck) kindsL, Sep.blk g31 (bodC (kn : Int) (preV v i) t) 46] w W)) (fun vi _ => 16 - (intOf vi).toNat)
  case atStart => exact ⟨0, rfl, Nat.zero_le _, ⟨by have := HH.out; exact this⟩⟩
  case round =>
    clear HH HKV
    obtain ⟨i, rfl, hi, HH⟩ := hrel
    by_cases hlt : i < 16
    · have hiv : i < v.length := by rw [HV.out]; exact hlt
      obtain ⟨nn, hnn⟩ : ∃ nn : Nat, v.getD i 0 = (nn : Int) := by
        have := HOK.out v[i] (List.getElem_mem hiv)
        refine ⟨v[i].toNat, ?_⟩
        rw [List.getD_eq_getElem?_getD, List.getElem?_eq_getElem hiv]
        simp only [Option.getD_some]
        omega
      have hn1 : nn ≤ 1000 := by
        have := HOK.out v[i] (List.getElem_mem hiv)
        rw [List.getD_eq_getElem?_getD, List.getElem?_eq_getElem hiv] at hnn
        simp only [Option.getD_some] at hnn
        omega
      have HST : Aside0 ((preV v i).set i (nn : Int) = preV v (i + 1)) := ⟨by rw [← hnn]; exact preV_set HV.out hlt⟩
      have fb : wr.cell? ⟨gl, ol + (i + 1) * 4 + 1, none⟩ = some (.int .u64 (nn : Int)) := fl_vec HV.out (OwnS.C (S := fun _ => False) (w0 := w) HH.out 2 rfl) i hlt hnn
      have fz : wr.frozen? ⟨g31, 1 + i, none⟩ = false := blk_frozen (OwnS.blk (S := fun _ => False) (w0 := w) HH.out 4 rfl) (1 + i)
      have fa : wr.cell? ⟨g31, 1 + i, none⟩ = some (.int .u16 ((preV v i).getD i 0)) := (by rw [Nat.add_comm 1 i]; exact (blk_cell (OwnS.blk (S := fun _ => False) (w0 := w) HH.out 4 rfl) (i + 1)).trans (bodC_at (kn : Int) (preV v i) t i (by rw [preV_len HV.out hi]; exact hlt)))
      clear hnn
      have q0 : 0 ≤ (i : Int) := by omega
      have q1 : (i : Int) < 16 := by omega
      have q2 : (nn : Int) < 1001 := by omega
      have q3 : ¬ (1001 : Int) < (nn : Int) := by omega
      have hwn : IntKind.u16.wrap (nn : Int) = (nn : Int) := by rw [IntKind.wrap_u16]; omega
      go_wp2_with fail
      go_roundw
      case rel =>
        have h9 := setBod (S := fun _ => False) (w0 := w) HH.out 4 rfl i (by rw [preV_len HV.out hi]; exact hlt) (nn : Int)
        rw [HST.out] at h9
        exact ⟨i + 1, by go_num, by omega, ⟨h9⟩⟩
      case measure => simp [intOf]; omega
    · have h16 : i = 16 := by omega
      subst h16
      have e16 : preV v 16 = v := by unfold preV; rw [List.take_of_length_le (by rw [HV.out]; omega)]; simp
      rw [e16] at HH
      have htx := HTX.out
      clear e16
      go_wp2_with (first
      | ((with_reducible refine gate_ (.load 46 (.tmp 6)) rfl ?_); refine ev_loadA (OwnS.blk (oh HH) 4 rfl) 0 18 (bodC (kn : Int) v t) (all_of _ 18 (bodC_size _ _ _ HV.out)) rfl rfl (by rfl) Try.underlying46 rfl (bodC_size _ _ _ HV.out) (by kernel_rfl) ?_)
      | (go_at_call 15; refine ownS_call (oh HH) ?_; intro ht; refine (Hld.may_calls _ (kn : Int) v t HV.out htx).mono ?_; rintro e w81 ⟨rfl, hb⟩; rw [HM.out]; replace HH : Aside0 (OwnS (fun _ => False) [Sep.blk g1 (bodC 0 (List.replicate 16 (0 : Int)) ⟨#[]⟩) 46, bytesA gb (bytesOf s), Sep.row kFl 72 (.slice (some ⟨gl, ol, none⟩) 18 cl) (fldsOf kn v t), Sep.row (Kd.int .i64) 3 (.slice (some ⟨gk, ok, none⟩) 18 ck) kindsL, Sep.blk g31 (bodC (kn : Int) v t) 46] w w81) := ⟨OwnS.step ht hb⟩; clear hb; clear ht)
      | ((with_reducible refine gate_ (.load 46 (.tmp 6)) rfl ?_); refine ev_loadA (OwnS.blk (oh HH) 4 rfl) 0 18 (bodC (kn : Int) v t) (all_of _ 18 (bodC_size _ _ _ HV.out)) rfl rfl (by rfl) Try.underlying46 rfl (bodC_size _ _ _ HV.out) (by kernel_rfl) ?_)
      | ((with_reducible refine gate_ (.store 46 (.tmp 2) (.tmp 53)) rfl ?_); refine evS_storeA (oh HH) 0 rfl rfl rfl rfl (by rfl) (.agg (bodC (kn : Int) v t)) (by rfl) (bodC (kn : Int) v t) (by rfl) 18 18 (bodC_size _ _ _ HV.out) (bodC_size _ _ _ (by rfl)) (by kernel_rfl) (by decide) (bodC_one _ _ _) (bodC (kn : Int) v t) (put_all _ _ (by rw [(bodC_size _ _ _ HV.out), (bodC_size _ _ _ (by rfl))])) ?_; intro w82 hh; replace HH : Aside0 (OwnS (fun _ => False) [Sep.blk g1 (bodC (kn : Int) v t) 46, bytesA gb (bytesOf s), Sep.row kFl 72 (.slice (some ⟨gl, ol, none⟩) 18 cl) (fldsOf kn v t), Sep.row (Kd.int .i64) 3 (.slice (some ⟨gk, ok, none⟩) 18 ck) kindsL, Sep.blk g31 (bodC (kn : Int) v t) 46] w w82) := ⟨hh⟩; clear hh)
      | fail
      | fail)
      refine bodyPost_ret (v := .tuple #[.agg (bodC (kn : Int) v t), .int .i64 0]) (results_list (rs := [.cell 2 46, .tmp 3]) (vs := [.agg (bodC (kn : Int) v t), _]) rfl (by simp) (.cell g1 46 (bodC (kn : Int) v t) (0, 0) _ rfl (OwnS.blk HH.out 0 rfl) Try.underlying46 rfl (by rw [(bodC_size _ _ _ HV.out)]; kernel_rfl) (.tmp .nil))) rfl ?_
      exact ⟨rfl, frm_below (OwnS.frm HH.out)⟩
end Go.Proofs.Ytbaknecnkipooaa.Tld
