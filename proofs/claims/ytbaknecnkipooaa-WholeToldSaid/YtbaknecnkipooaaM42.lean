/- past.Encode. pack's reader. reader's number. -/
import Derived.Test.YtbaknecnkipooaaM41
import Derived.Test.YtbaknecnkipooaaM18
import Derived.Laws.BitsAllLaws
namespace Go.Proofs.Ytbaknecnkipooaa.Tld
open Go Go.RowKit Go.Proofs.YtbaknecnkipooaaW.PrintWords Go.Proofs.Ytbaknecnkipooaa.Sep Go.Proofs.Ytbaknecnkipooaa.Obj
set_option linter.unusedVariables false
set_option linter.unusedSimpArgs false
open Go.Proofs.Ytbaknecnkipooaa.Hld
theorem encode_calls2 (w : World) (A : Option Addr) (c n : Nat) (l : List Fl) (hn : l.length = n) (hr : kFl.C w A l.length l) (hok : ∀ x ∈ l, FlOk x) (hl : l.length ≤ 200) (hb : (encB l).length ≤ 8000) :
    Calls Try.prog 16 #[.slice A n c] w (fun e w' => ∃ A' c' m', e = .returned (.tuple #[.slice A' m' c', .int .i64 0]) ∧ Own [Sep.row (Kd.int .u8) 5 (.slice A' m' c') (encB l)] w w') := by
  subst hn
  exact (encode_calls w A c l hr hok hl hb).mono fun e w' ⟨A', c', he, ho⟩ => ⟨A', c', _, he, ho⟩
theorem infoFl : (Try.prog.info? 72).map (fun i => (i.zero, i.size, i.bytes)) = some (some (.agg #[.int .i64 0, .int .u64 0, .string ⟨#[]⟩, .float .f64 0]), 4, 40) := by kernel_rfl
theorem fl_reps {W : World} {T : Nat → Prop} (l : List Fl) : Reps (kFl.M W 0 T) 4 l (l.flatMap fldC) := by
  induction l with
  | nil => exact ⟨rfl, fun j p hj => by simp at hj⟩
  | cons x r ih =>
    refine ⟨?_, fun j p hj => ?_⟩
    · have := ih.1
      simp only [List.flatMap_cons, List.length_append, List.length_cons] at this ⊢
      rw [this]
      have : (fldC x).length = 4 := by cases x <;> rfl
      omega
    · have h4 : (fldC x).length = 4 := by cases x <;> rfl
      cases j with
      | zero =>
        simp at hj
        subst hj
        rw [Nat.zero_mul, List.drop_zero, List.flatMap_cons, ← h4, List.take_left]
        exact (rfl : kFl.M W 0 T x (fldC x) = (fldC x = fldC x)) ▸ rfl
      | succ j =>
        have := ih.2 j p (by simpa using hj)
        rw [List.flatMap_cons, show (j + 1) * 4 = (fldC x).length + j * 4 by omega, ← List.drop_drop, List.drop_left]
        exact this
theorem ev_str {P : Program} {ops : Array Oper} {rest : List Oper} {o : Oper} {a : Act} {Q : Exit → Act → World → Prop} {W : World} {base n : Nat} {e src dst e' : TypeId} {v : Value} {xs : List Int} (HO : W.ownsRow base e 1 v n (nums .u8 xs)) (hgd : o.guard = none) {x : Operand} (ho : o.op = .convert src dst x) (hx : a.eval x = v) (hs : P.underlying src = some (.slice e')) (he : P.underlying e' = some (.int .u8)) (hd : P.underlying dst = some .string)
    (h : wpList P ops Q rest (a.put o.dst (.string (strOfNums xs))) W) : wpList P ops Q (o :: rest) a W := by
  have hr := own_string (P := P) hs he hd HO
  refine Kd.event_run hgd (v := .string (strOfNums xs)) (w1 := W) ?_ h
  simp only [execOp, ho, hx, Sem.run_bind, Sem.run_pure, Result.andThen_ok, hr]
def fldsOf (kn : Nat) (v : List Int) (t : ByteArray) : List Fl := Fl.num kn :: (v.map (fun n => Fl.num n.toNat) ++ [Fl.txt t])
def encS (kn : Nat) (v : List Int) (t : ByteArray) : ByteArray := strOfNums (encB (fldsOf kn v t))
theorem flds_len {kn : Nat} {v : List Int} {t : ByteArray} (hv : v.length = 16) : (fldsOf kn v t).length = 18 := by simp [fldsOf, hv]
theorem flat_le (f : Nat) (l : List Fl) (h : ∀ x ∈ l, (encF x).length ≤ f) : (l.flatMap encF).length ≤ l.length * f := by
  induction l with
  | nil => simp
  | cons x r ih =>
    have h1 := h x List.mem_cons_self
    have h2 := ih (fun y hy => h y (List.mem_cons_of_mem _ hy))
    simp only [List.flatMap_cons, List.length_append, List.length_cons, Nat.succ_mul]
    omega
theorem enc_le {kn : Nat} {v : List Int} {t : ByteArray} (hv : v.length = 16) (ht : t.size ≤ 400) : (encB (fldsOf kn v t)).length ≤ 8000 := by
  have h := flat_le 410 (fldsOf kn v t) (fun x hx => by
    unfold fldsOf at hx
    rcases List.mem_cons.1 hx with rfl | hx
    · have := numB_len kn; simp only [encF, List.length_cons]; omega
    · rcases List.mem_append.1 hx with hx | hx
      · obtain ⟨n, _, rfl⟩ := List.mem_map.1 hx
        have := numB_len n.toNat; simp only [encF, List.length_cons]; omega
      · rw [List.mem_singleton.1 hx]
        have := numB_len t.size
        simp only [encF, List.length_cons, List.length_append, bytesOf_length]; omega)
  rw [flds_len hv] at h
  unfold encB
  rw [List.length_cons]
  omega
set_option maxHeartbeats 1000000 in
set_option maxRecDepth 100000 in
theorem penc_calls (w : World) (kn : Nat) (v : List Int) (t : ByteArray) (hv : v.length = 16) (hok : ∀ n ∈ v, 0 ≤ n ∧ n ≤ 1000) (hk : kn ≤ 3) (ht4 : t.size ≤ 400) (hm : mayB (kn : Int) v t = true) :
    Calls Try.prog 6 #[.agg (bodC (kn : Int) v t)] w (fun e w' => e = .returned (.tuple #[.string (encS kn v t), .int .i64 0]) ∧ Below w.heap.size w w') := by
  have HM := Aside0.mk hm
  have htx : t.size ≤ 9223372036854775807 := by omega
  have HH : Aside0 (OwnS (fun _ => False) [] w w) := ⟨OwnS.of_own (Own.start w)⟩
  have hwk : IntKind.u64.wrap (kn : Int) = (kn : Int) := by rw [IntKind.wrap_u64]; omega
  have HOK := Aside0.mk hok
  clear hm hok
  go_enter Try.func6, Try.ntmps6
  go_wp2_with (first
  | ((with_reducible refine gate_dst (N := 1) rfl ?_); refine evS_box (oh HH) rfl (cs := bodC (kn : Int) v t) (T := 46) ?_ ?_; (focus first | (go_simp; done) | (go_simp; rfl)); intro g1 w1 he hh; clear he; replace HH : Aside0 (OwnS (fun _ => False) [Sep.blk g1 (bodC (kn : Int) v t) 46] w w1) := ⟨hh⟩; clear hh)
  | ((with_reducible refine gate_ (.load 46 (.tmp 1)) rfl ?_); refine ev_loadA (OwnS.blk (oh HH) 0 rfl) 0 18 (bodC (kn : Int) v t) (all_of _ 18 (bodC_size _ _ _ hv)) rfl rfl (by rfl) Try.underlying46 rfl (bodC_size _ _ _ hv) (by kernel_rfl) ?_)
  | (go_at_call 15; refine ownS_call (oh HH) ?_; intro ht; refine (Hld.may_calls _ (kn : Int) v t hv htx).mono ?_; rintro e w2 ⟨rfl, hb⟩; rw [HM.out]; replace HH : Aside0 (OwnS (fun _ => False) [Sep.blk g1 (bodC (kn : Int) v t) 46] w w2) := ⟨OwnS.step ht hb⟩; clear hb; clear ht)
  | ((with_reducible refine gate_ (.load 3 (.tmp 12)) rfl ?_); refine ev_cell (v := .int .i64 (kn : Int)) ((blk_cell (OwnS.blk (oh HH) 0 rfl) 0).trans rfl) rfl rfl (by rfl) Try.underlying3 rfl ?_)
  | ((with_reducible refine gate_dst (N := 16) rfl ?_); refine evS_rows (oh HH) rfl (fun g => Sep.row kFl 72 (.slice (some ⟨g, 0, none⟩) 1 1) [Fl.num kn]) (cs := #[.int .i64 1, .int .u64 (kn : Int), .string ⟨#[]⟩, .float .f64 0]) (T := 72) (n := 1) ?_ ?_ ?_; (focus first | (go_simp; done) | (go_simp; rfl)); (focus exact row_lit kFl 72 (inner := [.int .i64 1, .int .u64 (kn : Int), .string ⟨#[]⟩, .float .f64 0]) (fun W T => fl_reps [Fl.num kn]) 1 rfl (by simp)); intro gl w3 he hh; clear he; replace HH : Aside0 (OwnS (fun _ => False) [Sep.blk g1 (bodC (kn : Int) v t) 46, Sep.row kFl 72 (.slice (some ⟨gl, 0, none⟩) 1 1) [Fl.num kn]] w w3) := ⟨hh⟩; clear hh)
  | ((with_reducible refine gate_ (.load 30 (.tmp 17)) rfl ?_); refine ev_loadA (OwnS.blk (oh HH) 0 rfl) 1 16 (vecC v) (bodC_vec _ _ _ hv) rfl rfl (by rfl) Try.underlying30 rfl (vecC_size _ hv) (by kernel_rfl) ?_)
  | fail
  | fail)
  go_loopw [4, 19] (fun v4 vi W => ∃ (i m2 : Nat) (A2 : Option Addr) (c2 : Nat) (fs : List Fl), v4 = .slice A2 m2 c2 ∧ vi = .int .i64 (i : Int) ∧ i ≤ 16 ∧ Aside0 (fs = Fl.num kn :: (v.take i).map (fun n => Fl.num n.toNat)) ∧ Aside0 (fs.length = m2 ∧ m2 ≤ 20) ∧ Aside0 (OwnS (fun _ => False) [Sep.blk g1 (bodC (kn : Int) v t) 46, Sep.row kFl 72 (.slice A2 m2 c2) fs] w W)) (fun _ vi _ => 16 - (intOf vi).toNat)
  case atStart => exact ⟨0, 1, some ⟨gl, 0, none⟩, 1, [Fl.num kn], rfl, rfl, Nat.zero_le _, ⟨by simp⟩, ⟨rfl, by omega⟩, HH⟩
  case round =>
    clear HH
    obtain ⟨i, m2, A2, c2, fs, rfl, rfl, hi, HFS, HL2', HH⟩ := hrel
    have HL2 : Aside0 (fs.length = m2) := ⟨HL2'.out.1⟩
    have hm2 : m2 ≤ 20 := HL2'.out.2
    by_cases hlt : i < 16
    · have hiv : i < v.length := by omega
      obtain ⟨nn, hnn⟩ : ∃ nn : Nat, v.getD i 0 = (nn : Int) := by
        have := HOK.out v[i] (List.getElem_mem hiv)
        refine ⟨v[i].toNat, ?_⟩
        rw [List.getD_eq_getElem?_getD, List.getElem?_eq_getElem hiv]
        simp only [Option.getD_some]
        omega
      have hn1 : nn ≤ 1000 := by
        have := HOK.out v[i] (List.getElem_mem hiv)
        rw [List.getD_eq_getElem?_getD, List.getElem?_eq_getElem hiv] at hnn
        simp only [Option.getD_some] at hnn
        omega
      have hix := Hld.vec_index v i hv hlt
      rw [hnn] at hix
      have HNN := Aside0.mk hnn
      have q0 : 0 ≤ (i : Int) := by omega
      have q1 : (i : Int) < 16 := by omega
      have hwn : IntKind.u64.wrap (nn : Int) = (nn : Int) := by rw [IntKind.wrap_u64]; omega
      clear hnn
      go_wp2_with (first
      | (at_builtin; refine evS_appendR kFl (oh HH) 1 rfl (.tmp 22) (.tmp 26) 73 72 (.agg #[.int .i64 0, .int .u64 0, .string ⟨#[]⟩, .float .f64 0]) 40 rfl Try.underlying73 infoFl rfl (by first | decide | exact Nat.succ_pos _) (by decide) (.slice A2 m2 c2) fs (Fl.num nn) [.int .i64 1, .int .u64 (nn : Int), .string ⟨#[]⟩, .float .f64 0] rfl rfl ?_ ?_ ?_ ?_; (focus first | rfl | (simp [Act.eval]; done)); (focus exact fun _ => rfl); (focus have := HL2.out; omega); intro A9 c9 w21 hh; replace HH : Aside0 (OwnS (fun _ => False) [Sep.blk g1 (bodC (kn : Int) v t) 46, Sep.row kFl 72 (.slice A9 (fs.length + 1) c9) (fs ++ [(Fl.num nn)])] w w21) := ⟨hh⟩; clear hh)
      | fail
      | fail)
      go_roundw
      case rel =>
        have e : fs ++ [Fl.num nn] = Fl.num kn :: (v.take (i + 1)).map (fun n => Fl.num n.toNat) := by
          rw [HFS.out, ← List.take_append_getElem hiv, List.map_append]
          have : v[i].toNat = nn := by
            have h := HNN.out
            rw [List.getD_eq_getElem?_getD, List.getElem?_eq_getElem hiv] at h
            simp only [Option.getD_some] at h
            omega
          simp [this]
        exact ⟨i + 1, fs.length + 1, A9, c9, _, rfl, by go_num, by omega, ⟨e⟩, ⟨by rw [List.length_append]; rfl, by rw [HFS.out]; simp; omega⟩, HH⟩
      case measure => simp [intOf]; omega
    · have q1 : ¬ ((i : Int) < 16) := by omega
      have e : fs ++ [Fl.txt t] = fldsOf kn v t := by rw [HFS.out, List.take_of_length_le (by omega)]; rfl
      have HE := Aside0.mk e
      have HFO : Aside0 (∀ x ∈ fs ++ [Fl.txt t], FlOk x) := ⟨fun x hx => by
        rw [HE.out] at hx
        unfold fldsOf at hx
        rcases List.mem_cons.1 hx with rfl | hx
        · show kn < 65536; omega
        · rcases List.mem_append.1 hx with hx | hx
          · obtain ⟨n, hn, rfl⟩ := List.mem_map.1 hx
            have := HOK.out n hn
            show n.toNat < 65536
            omega
          · rw [List.mem_singleton.1 hx]
            show t.size ≤ 2000
            omega⟩
      have HF2 : Aside0 ((fs ++ [Fl.txt t]).length ≤ 200) := ⟨by rw [HE.out, flds_len hv]; omega⟩
      have HF3 : Aside0 ((encB (fs ++ [Fl.txt t])).length ≤ 8000) := ⟨by rw [HE.out]; exact enc_le hv ht4⟩
      clear e
      go_wp2_with (first
      | ((with_reducible refine gate_ (.load 9 (.tmp 31)) rfl ?_); refine ev_cell (v := .string t) ((blk_cell (OwnS.blk (oh HH) 0 rfl) 17).trans (bodC_last _ _ _ hv)) rfl rfl (by rfl) Try.underlying9 rfl ?_)
      | (at_builtin; refine evS_appendR kFl (oh HH) 1 rfl (.tmp 30) (.tmp 34) 73 72 (.agg #[.int .i64 0, .int .u64 0, .string ⟨#[]⟩, .float .f64 0]) 40 rfl Try.underlying73 infoFl rfl (by first | decide | exact Nat.succ_pos _) (by decide) (.slice A2 m2 c2) fs (Fl.txt t) [.int .i64 2, .int .u64 0, .string t, .float .f64 0] rfl rfl ?_ ?_ ?_ ?_; (focus first | rfl | (simp [Act.eval]; done)); (focus exact fun _ => rfl); (focus have := HL2.out; omega); intro A9 c9 w21 hh; replace HH : Aside0 (OwnS (fun _ => False) [Sep.blk g1 (bodC (kn : Int) v t) 46, Sep.row kFl 72 (.slice A9 (fs.length + 1) c9) (fs ++ [(Fl.txt t)])] w w21) := ⟨hh⟩; clear hh)
      | (go_at_call 16; refine ownS_call (oh HH) ?_; intro ht; refine (encode_calls2 _ A9 c9 (fs.length + 1) (fs ++ [Fl.txt t]) (by simp) ?_ HFO.out HF2.out HF3.out).mono ?_; (focus exact OwnS.C ht 1 rfl); rintro e w22 ⟨A5, c5, m5, rfl, ho⟩; replace HH : Aside0 (OwnS (fun _ => False) [Sep.blk g1 (bodC (kn : Int) v t) 46, Sep.row kFl 72 (.slice A9 (fs.length + 1) c9) (fs ++ [(Fl.txt t)]), Sep.row (Kd.int .u8) 5 (.slice A5 m5 c5) (encB (fs ++ [Fl.txt t]))] w w22) := ⟨OwnS.joinL (Bs := [Sep.row (Kd.int .u8) 5 (.slice A5 m5 c5) (encB (fs ++ [Fl.txt t]))]) ht ho⟩; clear ho ht)
      | ((with_reducible refine gate_dst (N := 40) rfl ?_); refine ev_str (R_nums (OwnS.row (oh HH) 2 rfl)) rfl rfl (by rfl) Try.underlying23 Try.underlying5 Try.underlying9 ?_)
      | fail
      | fail)
      refine bodyPost_ret (v := .tuple #[.string (strOfNums (encB (fs ++ [Fl.txt t]))), .int .i64 0]) (results_list (rs := [.tmp 2, .tmp 3]) (vs := [_, _]) rfl (by simp) (.tmp (.tmp .nil))) rfl ?_
      exact ⟨by rw [HE.out]; rfl, frm_below (OwnS.frm HH.out)⟩
end Go.Proofs.Ytbaknecnkipooaa.Tld
namespace Go.Proofs.Ytbaknecnkipooaa.Tld
open Go Go.RowKit Go.Proofs.YtbaknecnkipooaaW.PrintWords Go.Proofs.Ytbaknecnkipooaa.Sep Go.Proofs.Ytbaknecnkipooaa.Obj
set_option linter.unusedVariables false
set_option linter.unusedSimpArgs false
def capMx : Nat := 9223372036854775807
def TkR (S : Nat → Prop) (w : World) (gr g p m cap n : Nat) (e : Ending) (w' : World) : Prop :=
  ∃ p8 m8 c8, e = .returned (.slice (some ⟨g, p, none⟩) n cap) ∧ (m8 = 0 ∨ p8 = p + n) ∧ m8 = m - n ∧ (m8 ≤ c8 ∧ c8 ≤ capMx) ∧ OwnS S [Sep.blk gr #[.slice (some ⟨g, p8, none⟩) m8 c8] 127] w w'
def RB8 (S : Nat → Prop) (w : World) (g p : Nat) (xs : List Int) : Prop := ∀ W, Frm S w W → ∀ j x, xs[j]? = some x → W.cell? ⟨g, p + j, none⟩ = some (.int .u8 x)
def LwR (S : Nat → Prop) (w : World) (gr g p m cap n : Nat) (v : Int) (e : Ending) (w' : World) : Prop :=
  ∃ p8 m8 c8, e = .returned (.int .u64 v) ∧ (m8 = 0 ∨ p8 = p + n) ∧ m8 = m - n ∧ (m8 ≤ c8 ∧ c8 ≤ capMx) ∧ OwnS S [Sep.blk gr #[.slice (some ⟨g, p8, none⟩) m8 c8] 127] w w'
def valB : List Int → Int
  | [] => 0
  | x :: r => x + 256 * valB r
set_option maxHeartbeats 1000000 in
set_option maxRecDepth 100000 in
theorem take_calls (S : Nat → Prop) (w : World) (gr g p m cap n : Nat) (h : OwnS S [Sep.blk gr #[.slice (some ⟨g, p, none⟩) m cap] 127] w w) (hn : n ≤ m) (hm : m ≤ cap) (hcap : cap ≤ capMx) :
    Calls Try.prog 60 #[.pointer (some ⟨gr, 0, none⟩), .int .i64 (n : Int)] w (TkR S w gr g p m cap n) := by
  have HH : Aside0 (OwnS S [Sep.blk gr #[.slice (some ⟨g, p, none⟩) m cap] 127] w w) := ⟨h⟩
  have q0 : 0 ≤ (n : Int) := by omega
  have q1 : (n : Int) ≤ (m : Int) := by omega
  have q2 : (n : Int) ≤ (cap : Int) := by omega
  have q3 : ¬ ((m : Int) < (n : Int)) := by omega
  obtain ⟨p8, hp8⟩ : ∃ p8, (if cap = n then p else p + n) = p8 := ⟨_, rfl⟩
  have hA : (if cap = n then some (⟨g, p, none⟩ : Addr) else some ⟨g, p + n, none⟩) = some ⟨g, p8, none⟩ := by rw [← hp8]; split <;> rfl
  have HP8 : Aside0 (m - n = 0 ∨ p8 = p + n) := ⟨by rw [← hp8]; split <;> omega⟩
  have HC8 : Aside0 (m - n ≤ cap - n) := ⟨by omega⟩
  obtain ⟨c8, hc8⟩ : ∃ c8, cap - n = c8 := ⟨_, rfl⟩
  obtain ⟨m8, hm8⟩ : ∃ m8, m - n = m8 := ⟨_, rfl⟩
  have HM8 := Aside0.mk hm8
  have HC9 : Aside0 (c8 ≤ capMx) := ⟨by omega⟩
  rw [hm8] at HP8 HC8
  rw [hc8] at HC8
  clear h hp8
  go_enter Try.func60, Try.ntmps60
  go_wp2_with (first
  | ((with_reducible refine gate_ (.load 23 (.tmp 9)) rfl ?_); refine ev_cell (blk_cell (OwnS.blk (oh HH) 0 rfl) 0) rfl rfl (by rfl) Try.underlying23 rfl ?_)
  | ((with_reducible refine gate_ (.load 23 (.tmp 17)) rfl ?_); refine ev_cell (blk_cell (OwnS.blk (oh HH) 0 rfl) 0) rfl rfl (by rfl) Try.underlying23 rfl ?_)
  | ((with_reducible refine gate_ (.load 23 (.tmp 24)) rfl ?_); refine ev_cell (blk_cell (OwnS.blk (oh HH) 0 rfl) 0) rfl rfl (by rfl) Try.underlying23 rfl ?_)
  | ((with_reducible refine gate_ (.store 23 (.tmp 29) (.tmp 27)) rfl ?_); refine evS_store (oh HH) 0 rfl rfl rfl rfl (by rfl) (.slice (some ⟨g, p8, none⟩) m8 c8) (by rfl) [.slice (some ⟨g, p8, none⟩) m8 c8] (by rfl) (by kernel_rfl) (by simp) (by simp [Value.oneCell']) ?_; intro w1 hh; replace HH : Aside0 (OwnS S [Sep.blk gr #[.slice (some ⟨g, p8, none⟩) m8 c8] 127] w w1) := ⟨hh⟩; clear hh)
  | fail
  | fail)
  go_ret
  exact ⟨p8, m8, c8, rfl, HP8.out, HM8.out.symm, ⟨HC8.out, HC9.out⟩, HH.out⟩
theorem or_zero (a : Nat) (ha : a < 256) : bits .or .u64 0 (IntKind.u64.wrap ((a : Int) * 2 ^ (8 * 0))) = (a : Int) := by
  have e : IntKind.u64.wrap ((a : Int) * 2 ^ (8 * 0)) = ((a : Nat) : Int) := by rw [IntKind.wrap_u64]; simp; omega
  have h := u64_or_nat 0 a (by omega) (by omega)
  rw [e]
  simpa using h
theorem or_high (a b : Nat) (ha : a < 256) (hb : b < 256) : bits .or .u64 (a : Int) (IntKind.u64.wrap ((b : Int) * 2 ^ (8 * 1))) = (a : Int) + 256 * (b : Int) := by
  have e : IntKind.u64.wrap ((b : Int) * 2 ^ (8 * 1)) = ((2 ^ 8 * b : Nat) : Int) := by rw [IntKind.wrap_u64]; simp; omega
  have h := u64_or_nat a (2 ^ 8 * b) (by omega) (by omega)
  have h2 := Nat.two_pow_add_eq_or_of_lt (i := 8) (b := a) (by omega) b
  rw [e, h, Nat.or_comm, ← h2]
  simp
  omega
theorem or_step : ∀ {xs : List Int} {j : Nat} (hj : j < xs.length) (_ : xs.length ≤ 2) (_ : ∀ x ∈ xs, 0 ≤ x ∧ x ≤ 255) {b : Int} (_ : xs[j] = b), bits .or .u64 (valB (xs.take j)) (IntKind.u64.wrap (b * 2 ^ (8 * j))) = valB (xs.take (j + 1))
  | [x], 0, _, _, hx, b, hb => by
    simp at hb
    subst hb
    obtain ⟨a, rfl⟩ := Int.eq_ofNat_of_zero_le (hx x (by simp)).1
    have := (hx _ (List.mem_singleton.2 rfl)).2
    simpa [valB] using or_zero a (by omega)
  | [x, y], 0, _, _, hx, b, hb => by
    simp at hb
    subst hb
    obtain ⟨a, rfl⟩ := Int.eq_ofNat_of_zero_le (hx x (by simp)).1
    have := (hx (a : Int) (by simp)).2
    simpa [valB] using or_zero a (by omega)
  | [x, y], 1, _, _, hx, b, hb => by
    simp at hb
    subst hb
    obtain ⟨a, rfl⟩ := Int.eq_ofNat_of_zero_le (hx x (by simp)).1
    obtain ⟨c, rfl⟩ := Int.eq_ofNat_of_zero_le (hx y (by simp)).1
    have h1 := (hx (a : Int) (by simp)).2
    have h2 := (hx (c : Int) (by simp)).2
    simpa [valB] using or_high a c (by omega) (by omega)
theorem valB_nonneg : ∀ {xs : List Int} (_ : ∀ x ∈ xs, 0 ≤ x ∧ x ≤ 255), 0 ≤ valB xs
  | [], _ => Int.le_refl _
  | x :: r, h => by
    have h1 := (h x (by simp)).1
    have h2 := valB_nonneg (xs := r) (fun y hy => h y (List.mem_cons_of_mem _ hy))
    unfold valB
    omega
set_option maxHeartbeats 1000000 in
set_option maxRecDepth 100000 in
theorem rlow_calls (S : Nat → Prop) (w : World) (gr g p m cap : Nat) (h : OwnS S [Sep.blk gr #[.slice (some ⟨g, p, none⟩) m cap] 127] w w) (xs : List Int) (size : Nat) (hxl : xs.length = size) (hs2 : size ≤ 2) (hx : ∀ x ∈ xs, 0 ≤ x ∧ x ≤ 255) (hR : RB8 S w g p xs) (hn : size ≤ m) (hm : m ≤ cap) (hcap : cap ≤ capMx) :
    Calls Try.prog 76 #[.pointer (some ⟨gr, 0, none⟩), .int .i64 (size : Int)] w (LwR S w gr g p m cap size (valB xs)) := by
  have HH : Aside0 (OwnS S [Sep.blk gr #[.slice (some ⟨g, p, none⟩) m cap] 127] w w) := ⟨h⟩
  have HCAP := Aside0.mk hcap
  have HR := Aside0.mk hR
  have HX := Aside0.mk hx
  have HXL := Aside0.mk hxl
  clear h hcap hR hx hxl
  go_enter Try.func76, Try.ntmps76
  go_wp2_with (first
  | (go_at_call 60; refine ownS_call (oh HH) ?_; intro ht; obtain ⟨S3, h3, hput⟩ := ownS_part (As := [Sep.blk gr #[.slice (some ⟨g, p, none⟩) m cap] 127]) (Cs := []) ht; refine (take_calls S3 _ gr g p m cap size h3 hn hm HCAP.out).mono ?_; rintro e w1 ⟨p8, m8, c8, rfl, hp, hm, hc, ho⟩; have HPp8 := Aside0.mk hp; have HMm8 := Aside0.mk hm; have HCc8 := Aside0.mk hc; replace HH : Aside0 (OwnS S [Sep.blk gr #[.slice (some ⟨g, p8, none⟩) m8 c8] 127] w w1) := ⟨hput _ _ ho⟩; clear ht h3 hput ho hp hm hc)
  | fail
  | fail)
  go_loopw [5, 12] (fun v5 vi W => ∃ (j : Nat) (x : Int), v5 = .int .u64 x ∧ vi = .int .i64 (j : Int) ∧ j ≤ size ∧ 0 ≤ x ∧ Aside0 (x = valB (xs.take j)) ∧ Aside0 (OwnS S [Sep.blk gr #[.slice (some ⟨g, p8, none⟩) m8 c8] 127] w W)) (fun _ vi _ => size - (intOf vi).toNat)
  case atStart => exact ⟨0, 0, rfl, rfl, Nat.zero_le _, Int.le_refl _, ⟨rfl⟩, HH⟩
  case round =>
    clear HH
    obtain ⟨j, x, rfl, rfl, hj, hx0, HXV, HH⟩ := hrel
    by_cases hlt : j < size
    · have q0 : 0 ≤ (j : Int) := by omega
      have q1 : (j : Int) < (size : Int) := by omega
      have hjl : j < xs.length := by rw [HXL.out]; exact hlt
      obtain ⟨b, hb⟩ : ∃ b, xs[j] = b := ⟨_, rfl⟩
      have hb2 := HX.out xs[j] (List.getElem_mem hjl)
      rw [hb] at hb2
      obtain ⟨b0, b1⟩ := hb2
      have fb : wr.cell? ⟨g, p + j, none⟩ = some (.int .u8 b) := HR.out wr (OwnS.frm HH.out) j b (by rw [List.getElem?_eq_getElem hjl, hb])
      have HOS : Aside0 (bits .or .u64 x (IntKind.u64.wrap (b * 2 ^ (8 * j))) = valB (xs.take (j + 1))) := ⟨by rw [HXV.out]; exact or_step hjl (by rw [HXL.out]; exact hs2) HX.out hb⟩
      have HNN : Aside0 (0 ≤ valB (xs.take (j + 1))) := ⟨valB_nonneg (fun y hy => HX.out y (List.mem_of_mem_take hy))⟩
      clear hb
      go_wp2_with fail
      go_roundw
      case rel => exact ⟨j + 1, valB (xs.take (j + 1)), by rw [HOS.out], by go_num, by omega, HNN.out, ⟨rfl⟩, HH⟩
      case measure => simp [intOf]; omega
    · have q1 : ¬ ((j : Int) < (size : Int)) := by omega
      have hjs : j = size := by omega
      have HE : Aside0 (x = valB xs) := ⟨by rw [HXV.out, List.take_of_length_le (by rw [HXL.out]; omega)]⟩
      go_wp2_with fail
      go_ret
      exact ⟨p8, m8, c8, by rw [← HE.out]; rfl, HPp8.out, HMm8.out, HCc8.out, HH.out⟩
end Go.Proofs.Ytbaknecnkipooaa.Tld
namespace Go.Proofs.Ytbaknecnkipooaa.Tld
open Go Go.RowKit Go.Proofs.YtbaknecnkipooaaW.PrintWords Go.Proofs.Ytbaknecnkipooaa.Sep Go.Proofs.Ytbaknecnkipooaa.Obj
set_option linter.unusedVariables false
set_option linter.unusedSimpArgs false
theorem ownS_part3 {S : Nat → Prop} {As Cs : List Asr} {w0 w : World} (h : OwnS S (As ++ Cs) w0 w) :
    ∃ S' : Nat → Prop, OwnS S' As w w ∧ (∀ Bs w', OwnS S' Bs w w' → OwnS S (Bs ++ Cs) w0 w') ∧ ∀ w', Frm S' w w' → Frm S w0 w' := by
  obtain ⟨h0, F, hF⟩ := h
  refine ⟨fun k => Uni S w0 w k ∧ F k < As.length, ⟨Frm.refl _ _, F, fun i A hi => ?_⟩, fun Bs w' ⟨h1, F', hF'⟩ => ⟨Frm.le h0 (Frm.mono h1 (fun k _ hs => hs.1.1)), fun k => if k < w.heap.size ∧ As.length ≤ F k then F k - As.length + Bs.length else F' k, fun i B hi => ?_⟩, fun w' h1 => Frm.le h0 (Frm.mono h1 (fun k _ hs => hs.1.1))⟩
  · have hl := (List.getElem?_eq_some_iff.1 hi).1
    refine A.mono (fun k hk => ?_) (hF i A (by rw [List.getElem?_append_left hl]; exact hi))
    exact ⟨⟨.inl ⟨hk.1, by rw [hk.2]; exact hl⟩, hk.1.2⟩, hk.2⟩
  · rcases Nat.lt_or_ge i Bs.length with hl | hl
    · rw [List.getElem?_append_left hl] at hi
      refine B.mono (fun k hk => ?_) (hF' i B hi)
      obtain ⟨⟨hk1, hk2⟩, hk3⟩ := hk
      refine ⟨⟨?_, hk2⟩, ?_⟩
      · rcases hk1 with hk1 | hk1
        · exact hk1.1.1
        · exact .inr (Nat.le_trans h0.size hk1)
      · refine (if_neg ?_).trans hk3
        rcases hk1 with hk1 | hk1
        · have := hk1.2; omega
        · omega
    · rw [List.getElem?_append_right hl] at hi
      refine B.mono (fun k hk => ?_) (B.move (fun k hk hlt => h1.block k hlt (fun hs => by have := hs.2; have := hk.2; omega)) (hF (As.length + (i - Bs.length)) B (by rw [List.getElem?_append_right (by omega)]; rw [Nat.add_sub_cancel_left]; exact hi)))
      refine ⟨⟨hk.1.1, Nat.lt_of_lt_of_le hk.1.2 h1.size⟩, ?_⟩
      exact (if_pos ⟨hk.1.2, by rw [hk.2]; omega⟩).trans (by rw [hk.2]; omega)
theorem RB8_tail {S S' : Nat → Prop} {w W : World} {g p p2 m2 : Nat} {a b : List Int} (h : RB8 S w g p (a ++ b)) (hp : m2 = 0 ∨ p2 = p + a.length) (hb : b.length ≤ m2) (hf : ∀ w', Frm S' W w' → Frm S w w') : RB8 S' W g p2 b := by
  intro W' hW j x hj
  have hjl := (List.getElem?_eq_some_iff.1 hj).1
  rcases hp with hp | hp
  · omega
  · subst hp
    have := h W' (hf W' hW) (a.length + j) x (by rw [List.getElem?_append_right (by omega), Nat.add_sub_cancel_left]; exact hj)
    rw [Nat.add_assoc]
    exact this
theorem RB8_part {S S' : Nat → Prop} {w W : World} {g p p2 m m2 z : Nat} {n : Nat} {q : Int} (h : RB8 S w g p (numB n)) (hn : numB n = q :: lowB n z) (hp : m2 = 0 ∨ p2 = p + 1) (hm : m2 = m - 1) (hz : 1 + z ≤ m) (hf : ∀ w', Frm S' W w' → Frm S w w') : RB8 S' W g p2 (lowB n z) := by
  rw [hn] at h
  exact RB8_tail (a := [q]) h (by simpa using hp) (by rw [lowB_len]; omega) hf
theorem lowB_ok : ∀ (k n : Nat), ∀ x ∈ lowB n k, 0 ≤ x ∧ x ≤ 255
  | 0, _, x, hx => by simp [lowB] at hx
  | k + 1, n, x, hx => by
    rcases List.mem_cons.1 hx with rfl | hx
    · omega
    · exact lowB_ok k (n / 256) x hx
theorem size0 {n : Nat} (h : n = 0) : sizeB n = 0 := by subst h; rfl
theorem size1 {n : Nat} (h : n ≠ 0) (h2 : n < 256) : sizeB n = 1 := by unfold sizeB sizeI; rw [if_neg (by omega), if_pos (by omega)]; rfl
theorem size2 {n : Nat} (h2 : ¬ n < 256) : sizeB n = 2 := by unfold sizeB sizeI; rw [if_neg (by omega), if_neg (by omega)]; rfl
set_option maxHeartbeats 1000000 in
set_option maxRecDepth 100000 in
theorem rnum_calls (S : Nat → Prop) (w : World) (gr g p m cap n : Nat) (h : OwnS S [Sep.blk gr #[.slice (some ⟨g, p, none⟩) m cap] 127] w w) (hn : n < 65536) (hR : RB8 S w g p (numB n)) (hl : (numB n).length ≤ m) (hm : m ≤ cap) (hcap : cap ≤ capMx) :
    Calls Try.prog 74 #[.pointer (some ⟨gr, 0, none⟩)] w (LwR S w gr g p m cap (numB n).length (n : Int)) := by
  have HH : Aside0 (OwnS S [Sep.blk gr #[.slice (some ⟨g, p, none⟩) m cap] 127] w w) := ⟨h⟩
  have HCAP := Aside0.mk hcap
  have HR := Aside0.mk hR
  have hnl : (numB n).length = 1 + sizeB n := by unfold numB; rw [List.length_cons, lowB_len]; omega
  have HL := Aside0.mk hnl
  rw [hnl] at hl
  clear h hcap hR hnl
  by_cases h0 : n = 0
  · obtain ⟨hz, hmz, hv⟩ : sizeB n = 0 ∧ 1 + 0 ≤ m ∧ valB (lowB n 0) = (n : Int) := ⟨size0 h0, by rw [size0 h0] at hl; exact hl, by rw [h0]; rfl⟩
    have HNB : Aside0 (numB n = (0 : Int) :: lowB n 0) := ⟨by unfold numB; rw [hz]; rfl⟩
    have HV := Aside0.mk hv
    have HZ := Aside0.mk hz
    clear hv hz
    have HN65 := Aside0.mk hn
    clear hn
    go_enter Try.func74, Try.ntmps74
    go_wp2_with (first
    | (go_at_call 60; refine ownS_call (oh HH) ?_; intro ht; obtain ⟨S3, h3, hput⟩ := ownS_part (As := [Sep.blk gr #[.slice (some ⟨g, p, none⟩) m cap] 127]) (Cs := []) ht; refine (take_calls S3 _ gr g p m cap 1 h3 (by omega) hm HCAP.out).mono ?_; rintro e w1 ⟨p2, m2, c2, rfl, hp, hm, hc, ho⟩; have HPp2 := Aside0.mk hp; have HMm2 := Aside0.mk hm; have HCc2 := Aside0.mk hc; replace HH : Aside0 (OwnS S [Sep.blk gr #[.slice (some ⟨g, p2, none⟩) m2 c2] 127] w w1) := ⟨hput _ _ ho⟩; clear ht h3 hput ho hp hm hc; have fb0 := HR.out w1 (OwnS.frm HH.out) 0 (0 : Int) (by rw [HNB.out]; rfl); rw [Nat.add_zero] at fb0)
    | (go_at_call 76; refine ownS_call (oh HH) ?_; intro ht; obtain ⟨S3, h3, hput, hfr⟩ := ownS_part3 (As := [Sep.blk gr #[.slice (some ⟨g, p2, none⟩) m2 c2] 127]) (Cs := []) ht; refine (rlow_calls S3 _ gr g p2 m2 c2 h3 (lowB n 0) 0 (lowB_len _ _) (by omega) (lowB_ok _ _) (RB8_part HR.out HNB.out HPp2.out HMm2.out hmz hfr) (by have := HMm2.out; omega) HCc2.out.1 HCc2.out.2).mono ?_; rintro e w2 ⟨p8, m8, c8, rfl, hp, hmm, hc, ho⟩; have HPp8 := Aside0.mk hp; have HMm8 := Aside0.mk hmm; have HCc8 := Aside0.mk hc; rw [HV.out]; replace HH : Aside0 (OwnS S [Sep.blk gr #[.slice (some ⟨g, p8, none⟩) m8 c8] 127] w w2) := ⟨hput _ _ ho⟩; clear ht h3 hput hfr ho hp hmm hc)
    | fail
    | fail)
    go_ret
    have h1 := HPp2.out
    have h2 := HMm2.out
    have h3 := HPp8.out
    have h4 := HMm8.out
    exact ⟨p8, m8, c8, by rw [h0]; rfl, by rw [HL.out, HZ.out]; omega, by rw [HL.out, HZ.out]; omega, HCc8.out, HH.out⟩
  by_cases h1 : n < 256
  · have hn0 : ¬ ((n : Int) = 0) := by omega
    obtain ⟨hz, hmz, hv⟩ : sizeB n = 1 ∧ 1 + 1 ≤ m ∧ valB (lowB n 1) = (n : Int) := ⟨size1 h0 h1, by rw [size1 h0 h1] at hl; exact hl, by simp only [lowB, valB]; omega⟩
    have HNB : Aside0 (numB n = (1 : Int) :: lowB n 1) := ⟨by unfold numB; rw [hz]; rfl⟩
    have HV := Aside0.mk hv
    have HZ := Aside0.mk hz
    clear hv hz
    have HN65 := Aside0.mk hn
    clear hn
    go_enter Try.func74, Try.ntmps74
    go_wp2_with (first
    | (go_at_call 60; refine ownS_call (oh HH) ?_; intro ht; obtain ⟨S3, h3, hput⟩ := ownS_part (As := [Sep.blk gr #[.slice (some ⟨g, p, none⟩) m cap] 127]) (Cs := []) ht; refine (take_calls S3 _ gr g p m cap 1 h3 (by omega) hm HCAP.out).mono ?_; rintro e w1 ⟨p2, m2, c2, rfl, hp, hm, hc, ho⟩; have HPp2 := Aside0.mk hp; have HMm2 := Aside0.mk hm; have HCc2 := Aside0.mk hc; replace HH : Aside0 (OwnS S [Sep.blk gr #[.slice (some ⟨g, p2, none⟩) m2 c2] 127] w w1) := ⟨hput _ _ ho⟩; clear ht h3 hput ho hp hm hc; have fb0 := HR.out w1 (OwnS.frm HH.out) 0 (1 : Int) (by rw [HNB.out]; rfl); rw [Nat.add_zero] at fb0)
    | (go_at_call 76; refine ownS_call (oh HH) ?_; intro ht; obtain ⟨S3, h3, hput, hfr⟩ := ownS_part3 (As := [Sep.blk gr #[.slice (some ⟨g, p2, none⟩) m2 c2] 127]) (Cs := []) ht; refine (rlow_calls S3 _ gr g p2 m2 c2 h3 (lowB n 1) 1 (lowB_len _ _) (by omega) (lowB_ok _ _) (RB8_part HR.out HNB.out HPp2.out HMm2.out hmz hfr) (by have := HMm2.out; omega) HCc2.out.1 HCc2.out.2).mono ?_; rintro e w2 ⟨p8, m8, c8, rfl, hp, hmm, hc, ho⟩; have HPp8 := Aside0.mk hp; have HMm8 := Aside0.mk hmm; have HCc8 := Aside0.mk hc; rw [HV.out]; replace HH : Aside0 (OwnS S [Sep.blk gr #[.slice (some ⟨g, p8, none⟩) m8 c8] 127] w w2) := ⟨hput _ _ ho⟩; clear ht h3 hput hfr ho hp hmm hc)
    | fail
    | fail)
    go_ret
    have h1 := HPp2.out
    have h2 := HMm2.out
    have h3 := HPp8.out
    have h4 := HMm8.out
    exact ⟨p8, m8, c8, rfl, by rw [HL.out, HZ.out]; omega, by rw [HL.out, HZ.out]; omega, HCc8.out, HH.out⟩
  · have hn0 : ¬ ((n : Int) / 256 = 0) := by omega
    have hn00 : ¬ (n / 256 = 0) := by omega
    obtain ⟨hz, hmz, hv⟩ : sizeB n = 2 ∧ 1 + 2 ≤ m ∧ valB (lowB n 2) = (n : Int) := ⟨size2 h1, by rw [size2 h1] at hl; exact hl, by simp only [lowB, valB]; omega⟩
    have HNB : Aside0 (numB n = (2 : Int) :: lowB n 2) := ⟨by unfold numB; rw [hz]; rfl⟩
    have HV := Aside0.mk hv
    have HZ := Aside0.mk hz
    clear hv hz
    have HN65 := Aside0.mk hn
    clear hn
    go_enter Try.func74, Try.ntmps74
    go_wp2_with (first
    | (go_at_call 60; refine ownS_call (oh HH) ?_; intro ht; obtain ⟨S3, h3, hput⟩ := ownS_part (As := [Sep.blk gr #[.slice (some ⟨g, p, none⟩) m cap] 127]) (Cs := []) ht; refine (take_calls S3 _ gr g p m cap 1 h3 (by omega) hm HCAP.out).mono ?_; rintro e w1 ⟨p2, m2, c2, rfl, hp, hm, hc, ho⟩; have HPp2 := Aside0.mk hp; have HMm2 := Aside0.mk hm; have HCc2 := Aside0.mk hc; replace HH : Aside0 (OwnS S [Sep.blk gr #[.slice (some ⟨g, p2, none⟩) m2 c2] 127] w w1) := ⟨hput _ _ ho⟩; clear ht h3 hput ho hp hm hc; have fb0 := HR.out w1 (OwnS.frm HH.out) 0 (2 : Int) (by rw [HNB.out]; rfl); rw [Nat.add_zero] at fb0)
    | (go_at_call 76; refine ownS_call (oh HH) ?_; intro ht; obtain ⟨S3, h3, hput, hfr⟩ := ownS_part3 (As := [Sep.blk gr #[.slice (some ⟨g, p2, none⟩) m2 c2] 127]) (Cs := []) ht; refine (rlow_calls S3 _ gr g p2 m2 c2 h3 (lowB n 2) 2 (lowB_len _ _) (by omega) (lowB_ok _ _) (RB8_part HR.out HNB.out HPp2.out HMm2.out hmz hfr) (by have := HMm2.out; omega) HCc2.out.1 HCc2.out.2).mono ?_; rintro e w2 ⟨p8, m8, c8, rfl, hp, hmm, hc, ho⟩; have HPp8 := Aside0.mk hp; have HMm8 := Aside0.mk hmm; have HCc8 := Aside0.mk hc; rw [HV.out]; replace HH : Aside0 (OwnS S [Sep.blk gr #[.slice (some ⟨g, p8, none⟩) m8 c8] 127] w w2) := ⟨hput _ _ ho⟩; clear ht h3 hput hfr ho hp hmm hc)
    | fail
    | fail)
    go_ret
    have h1 := HPp2.out
    have h2 := HMm2.out
    have h3 := HPp8.out
    have h4 := HMm8.out
    exact ⟨p8, m8, c8, rfl, by rw [HL.out, HZ.out]; omega, by rw [HL.out, HZ.out]; omega, HCc8.out, HH.out⟩
end Go.Proofs.Ytbaknecnkipooaa.Tld
